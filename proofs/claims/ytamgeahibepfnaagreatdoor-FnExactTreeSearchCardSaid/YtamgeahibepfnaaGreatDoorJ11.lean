/- Part 11 of the proof of a law: the interpreter, its soundness, and what functions of the program compute over it. Conditions: none but those that each theorem names. -/
import Derived.Test.YtamgeahibepfnaaGreatDoorJ10
import Derived.Test.YtamgeahibepfnaaGreatDoorJ08
import Derived.Test.YtamgeahibepfnaaGreatDoorJ05

set_option linter.all false
set_option maxRecDepth 20000
set_option maxHeartbeats 40000000
section
namespace Go.Proofs.Try1
open Go Go.Lite
theorem s_Dn {H : List Ob} {v : V} {l : List PRdn} (h : ARdns H v l) : callW C 90 [v] H = some (.bool (dec (DnOk l)), H) := by
 apply Ret.dec
 rw [op90]
 have hb : l.length ≤ 9223372036854775807 := h.bound
 simp [code90, Tryz.f90]
 refine WP_loop (fun k σ => ∃ (i : Nat) (r : Nat → R), i + k = l.length ∧ σ = ⟨r, 0, H⟩ ∧ r 0 = .val v ∧ r 3 = .val (.int .i64 i) ∧ ∀ j x, j < i → l[j]? = some x → NameOk x.attr ∧ ValueOk x.value) ?_ l.length _ ⟨0, _, by simp, rfl, by simp, by simp, by simp⟩
 rintro k σ ⟨i, r, hik, rfl, r0, r3, hall⟩
 cases k with
 | zero =>
  have hi : i = l.length := by omega
  subst hi
  have hx := at_all (P := fun j (x : PRdn) => NameOk x.attr ∧ ValueOk x.value) hall
  by_cases g : l.length ≤ 6
  ·have g' : (l.length : Int) ≤ 6 := by omega
   have hv : DnOk l := ⟨hx, g⟩
   simp [r0, r3, h.len, g', hv]
  ·have g' : ¬ (l.length : Int) ≤ 6 := by omega
   have hv : ¬ DnOk l := fun h => g h.2
   simp [r0, r3, h.len, g', hv]
 | succ k =>
  have hi : i < l.length := by omega
  obtain ⟨x, hx⟩ : ∃ c, l[i]? = some c := ⟨l[i], by simp [hi]⟩
  have hw : IntKind.i64.wrap ((i : Int) + 1) = ((i : Int) + 1) := wrap_i64 (by omega) (by omega)
  obtain ⟨id, o, e1, l0, l1, _, _⟩ := rdns_idx h hx
  have c1 := s_Name (t := x.attr) (H := H)
  by_cases g1 : NameOk x.attr
  ·rw [dec_pos g1] at c1
   have c2 := s_Value (t := x.value) (H := H)
   by_cases g2 : ValueOk x.value
   ·rw [dec_pos g2] at c2
    simp [r0, r3, hi, h.len, e1, l0, l1, c1, c2, hw]
    exact ⟨k, by omega, i + 1, by omega, by omega, at_step (P := fun j (x : PRdn) => NameOk x.attr ∧ ValueOk x.value) hall hx ⟨g1, g2⟩⟩
   ·rw [dec_neg g2] at c2
    have hn : ¬ DnOk l := fun hd => g2 (hd.1 i x hx).2
    simp [r0, r3, hi, h.len, e1, l0, l1, c1, c2, hn]
  ·rw [dec_neg g1] at c1
   have hn : ¬ DnOk l := fun hd => g1 (hd.1 i x hx).1
   simp [r0, r3, hi, h.len, e1, l0, l1, c1, hn]
theorem s_Has {H : List Ob} {v : V} {l : List Str} {t : Str} (h : AStrs H v l) : callW C 132 [v, .str t] H = some (.bool (dec (t ∈ l)), H) := by
 apply Ret.dec
 rw [op132]
 have hb : l.length ≤ 9223372036854775807 := h.bound
 simp [code132, Tryz.f132]
 refine WP_loop (fun k σ => ∃ (i : Nat) (r : Nat → R), i + k = l.length ∧ σ = ⟨r, 0, H⟩ ∧ r 0 = .val v ∧ r 1 = .val (.str t) ∧ r 5 = .val (.int .i64 i) ∧ ∀ j x, j < i → l[j]? = some x → x ≠ t) ?_ l.length _ ⟨0, _, by simp, rfl, by simp, by simp, by simp, by simp⟩
 rintro k σ ⟨i, r, hik, rfl, r0, r1, r5, hall⟩
 cases k with
 | zero =>
  have hi : i = l.length := by omega
  subst hi
  have hx := at_all (P := fun j (x : Str) => x ≠ t) hall
  have hn : t ∉ l := fun hm => by
   obtain ⟨j, hj, e⟩ := List.getElem_of_mem hm
   exact hx j _ (List.getElem?_eq_getElem hj) e
  simp [r0, r1, r5, h.len, hn]
 | succ k =>
  have hi : i < l.length := by omega
  obtain ⟨x, hx⟩ : ∃ c, l[i]? = some c := ⟨l[i], by simp [hi]⟩
  have hw : IntKind.i64.wrap ((i : Int) + 1) = ((i : Int) + 1) := wrap_i64 (by omega) (by omega)
  obtain ⟨id, o, e1, l0, _⟩ := strs_idx h hx
  by_cases g1 : x = t
  ·have hm : t ∈ l := g1 ▸ List.mem_of_getElem? hx
   subst g1
   simp [r0, r1, r5, hi, h.len, e1, l0, hm]
  ·simp [r0, r1, r5, hi, h.len, e1, l0, g1, hw]
   exact ⟨k, by omega, i + 1, by omega, by omega, at_step (P := fun j (x : Str) => x ≠ t) hall hx g1⟩
theorem s_At {H : List Ob} {v v' : V} {l : List PAttr} {t : Str} (h : AAttrs H v l) (ho : cellsOf v' = some [v']) : ∃ r : Int, callW C 249 [.agg [v', v], .str t] H = some (.int .i64 r, H) ∧ FirstAt PAttr.name l t r := by
 suffices hs : Ret C 249 [.agg [v', v], .str t] H fun q H' => (∃ r : Int, q = .int .i64 r ∧ FirstAt PAttr.name l t r) ∧ H' = H by
  obtain ⟨q, H', hc, ⟨r, rfl, hr⟩, rfl⟩ := hs
  exact ⟨r, hc, hr⟩
 rw [op249]
 have hb : l.length ≤ 9223372036854775807 := h.bound
 simp [code249, Tryz.f249]
 refine WP_loop (fun k σ => ∃ (i : Nat) (r : Nat → R), i + k = l.length ∧ σ = ⟨r, 1, H⟩ ∧ r 1 = .val (.str t) ∧ r 2 = .box 0 [v', v] ∧ r 5 = .val (.int .i64 i) ∧ ∀ j x, j < i → l[j]? = some x → x.name ≠ t) ?_ l.length _ ⟨0, _, by simp, rfl, by simp, by simp, by simp, by simp⟩
 rintro k σ ⟨i, r, hik, rfl, r1, r2, r5, hall⟩
 cases k with
 | zero =>
  have hi : i = l.length := by omega
  subst hi
  have hx := at_all (P := fun j (x : PAttr) => x.name ≠ t) hall
  simp [r1, r2, r5, h.len]
  exact .inr ⟨hx, rfl⟩
 | succ k =>
  have hi : i < l.length := by omega
  obtain ⟨x, hx⟩ : ∃ c, l[i]? = some c := ⟨l[i], by simp [hi]⟩
  have hw : IntKind.i64.wrap ((i : Int) + 1) = ((i : Int) + 1) := wrap_i64 (by omega) (by omega)
  obtain ⟨id, o, w, e1, l0, l1, _⟩ := attrs_idx h hx
  by_cases g1 : x.name = t
  ·simp [r1, r2, r5, hi, h.len, e1, l0, g1]
   exact .inl ⟨i, x, hx, g1, hall, rfl⟩
  ·simp [r1, r2, r5, hi, h.len, e1, l0, g1, hw]
   exact ⟨k, by omega, i + 1, by omega, by omega, at_step (P := fun j (x : PAttr) => x.name ≠ t) hall hx g1⟩
theorem s_ClassAt {H : List Ob} {v : V} {l : List PClass} {t : Str} (h : AClasses H v l) : ∃ r : Int, callW C 323 [v, .str t] H = some (.int .i64 r, H) ∧ FirstAt PClass.name l t r := by
 suffices hs : Ret C 323 [v, .str t] H fun q H' => (∃ r : Int, q = .int .i64 r ∧ FirstAt PClass.name l t r) ∧ H' = H by
  obtain ⟨q, H', hc, ⟨r, rfl, hr⟩, rfl⟩ := hs
  exact ⟨r, hc, hr⟩
 rw [op323]
 have hb : l.length ≤ 9223372036854775807 := h.bound
 simp [code323, Tryz.f323]
 refine WP_loop (fun k σ => ∃ (i : Nat) (r : Nat → R), i + k = l.length ∧ σ = ⟨r, 0, H⟩ ∧ r 0 = .val v ∧ r 1 = .val (.str t) ∧ r 5 = .val (.int .i64 i) ∧ ∀ j x, j < i → l[j]? = some x → x.name ≠ t) ?_ l.length _ ⟨0, _, by simp, rfl, by simp, by simp, by simp, by simp⟩
 rintro k σ ⟨i, r, hik, rfl, r0, r1, r5, hall⟩
 cases k with
 | zero =>
  have hi : i = l.length := by omega
  subst hi
  have hx := at_all (P := fun j (x : PClass) => x.name ≠ t) hall
  simp [r0, r1, r5, h.len]
  exact .inr ⟨hx, rfl⟩
 | succ k =>
  have hi : i < l.length := by omega
  obtain ⟨x, hx⟩ : ∃ c, l[i]? = some c := ⟨l[i], by simp [hi]⟩
  have hw : IntKind.i64.wrap ((i : Int) + 1) = ((i : Int) + 1) := wrap_i64 (by omega) (by omega)
  obtain ⟨id, o, w1, w2, w3, e1, l0, _⟩ := classes_idx h hx
  by_cases g1 : x.name = t
  ·simp [r0, r1, r5, hi, h.len, e1, l0, g1]
   exact .inl ⟨i, x, hx, g1, hall, rfl⟩
  ·simp [r0, r1, r5, hi, h.len, e1, l0, g1, hw]
   exact ⟨k, by omega, i + 1, by omega, by omega, at_step (P := fun j (x : PClass) => x.name ≠ t) hall hx g1⟩
theorem s_Of {H : List Ob} {v v' : V} {l : List PAttr} {t : Str} (h : AAttrs H v l) (ho : cellsOf v' = some [v']) (ho' : isOne v' = true) : ∃ w, callW C 280 [.agg [v', v], .str t] H = some (w, H) ∧ AStrs H w (valsOf l t) := by
 obtain ⟨r, hc, hr⟩ := s_At (t := t) h ho
 suffices hs : Ret C 280 [.agg [v', v], .str t] H fun q H' => AStrs H q (valsOf l t) ∧ H' = H by
  obtain ⟨q, H', hc, hr, rfl⟩ := hs
  exact ⟨q, hc, hr⟩
 rw [op280]
 rcases hr.pos with ⟨k, a, h1, rfl, h2⟩ | ⟨rfl, h2⟩
 ·obtain ⟨id, o, w, e1, l0, l1, _, hw, _⟩ := attrs_idx h h1
  have hv : valsOf l t = a.vals := by unfold valsOf; rw [h2]
  have hk : ¬ ((k : Int) < 0) := by omega
  simp [code280, Tryz.f280, hc, hk, e1, l1, hv]
  exact hw
 ·have hv : valsOf l t = [] := by unfold valsOf; rw [h2]
  simp [code280, Tryz.f280, hc, hv]
  exact At_slice.2 ⟨_, _, rfl, rfl, by simp, .inl ⟨rfl, rfl⟩⟩
theorem wrap_one : IntKind.i64.wrap 1 = 1 := rfl
attribute [simp] wrap_one
theorem LtS_dec {a b : Str} (h : LtS a b) : Op.bytesLess a b = true := h
theorem LtS_no {a b : Str} (h : ¬ LtS a b) : Op.bytesLess a b = false := by
 cases hb : Op.bytesLess a b with
 | false => rfl
 | true => exact absurd hb h
theorem lo_of {H : List Ob} {id o : Nat} {v : V} (h : ∀ T : LT, T.one → ∀ r c, loadAt T ⟨r, c, H⟩ (.hp id o) = some v) : id < H.length := by
 have := h ⟨.str, 1, 16, [.str []]⟩ one_str (fun _ => .val .undef) 0
 unfold loadAt cellsAt at this
 rw [if_neg (by decide)] at this
 cases hg : H[id]? with
 | none => simp only [hg] at this; cases this
 | some o => exact (List.getElem?_eq_some_iff.1 hg).1
theorem s_Names {H : List Ob} {v : V} {l : List Str} (h : AStrs H v l) : callW C 59 [v] H = some (.bool (dec (NamesOk l)), H) := by
 apply Ret.dec
 rw [op59]
 have hb : l.length ≤ 9223372036854775807 := h.bound
 simp [code59, Tryz.f59]
 refine WP_loop (fun k σ => ∃ (i : Nat) (r : Nat → R), i + k = l.length ∧ σ = ⟨r, 0, H⟩ ∧ r 0 = .val v ∧ r 3 = .val (.int .i64 i) ∧ ∀ j x, j < i → l[j]? = some x → NameOk x ∧ PrevLt (fun x => x) l j x) ?_ l.length _ ⟨0, _, by simp, rfl, by simp, by simp, by simp⟩
 rintro k σ ⟨i, r, hik, rfl, r0, r3, hall⟩
 cases k with
 | zero =>
  have hi : i = l.length := by omega
  subst hi
  have hx : NamesOk l := at_all (P := fun j (x : Str) => NameOk x ∧ PrevLt (fun x => x) l j x) hall
  simp [r0, r3, h.len, hx]
 | succ k =>
  have hi : i < l.length := by omega
  obtain ⟨x, hx⟩ : ∃ c, l[i]? = some c := ⟨l[i], by simp [hi]⟩
  have hw : IntKind.i64.wrap ((i : Int) + 1) = ((i : Int) + 1) := wrap_i64 (by omega) (by omega)
  obtain ⟨id, o, e1, l0, _⟩ := strs_idx h hx
  have c1 := s_Name (t := x) (H := H)
  have hstep := fun h => at_step (P := fun j (x : Str) => NameOk x ∧ PrevLt (fun x => x) l j x) hall hx h
  by_cases g1 : NameOk x
  ·rw [dec_pos g1] at c1
   by_cases hi0 : i = 0
   ·have := hstep ⟨g1, fun y hy => by omega⟩
    subst hi0
    simp at e1
    simp [r0, r3, hi, h.len, e1, l0, c1, regionL_none]
    exact ⟨k, by omega, 1, by omega, by omega, this⟩
   ·have hip : 0 < i := by omega
    obtain ⟨y, hy⟩ : ∃ c, l[i - 1]? = some c := ⟨l[i - 1]'(by omega), by simp⟩
    obtain ⟨id', o', e1', l0', _⟩ := strs_idx h hy
    have hw1 : IntKind.i64.wrap ((i : Int) - 1) = ((i - 1 : Nat) : Int) := by rw [wrap_i64 (by omega) (by omega)]; omega
    by_cases g2 : LtS y x
    ·have := hstep ⟨g1, fun z _ hz => by rw [hy] at hz; cases hz; exact g2⟩
     simp [r0, r3, hi, h.len, e1, l0, c1, e1', l0', hw, hw1, hip, LtS_dec g2, regionL_none]
     exact ⟨k, by omega, i + 1, by omega, by omega, this⟩
    ·have hn : ¬ NamesOk l := fun hd => g2 ((hd i x hx).2 y hip hy)
     simp [r0, r3, hi, h.len, e1, l0, c1, e1', l0', hw, hw1, hip, LtS_no g2, regionL_none, hn]
  ·rw [dec_neg g1] at c1
   have hn : ¬ NamesOk l := fun hd => g1 (hd i x hx).1
   simp [r0, r3, hi, h.len, e1, l0, c1, hn, regionL_none]
theorem s_Values {H : List Ob} {v : V} {l : List Str} (h : AStrs H v l) : callW C 227 [v] H = some (.bool (dec (ValuesOk l)), H) := by
 apply Ret.dec
 rw [op227]
 have hb : l.length ≤ 9223372036854775807 := h.bound
 simp [code227, Tryz.f227]
 refine WP_loop (fun k σ => ∃ (i : Nat) (r : Nat → R), i + k = l.length ∧ σ = ⟨r, 0, H⟩ ∧ r 0 = .val v ∧ r 3 = .val (.int .i64 i) ∧ ∀ j x, j < i → l[j]? = some x → ValueOk x ∧ PrevLt norm l j x) ?_ l.length _ ⟨0, _, by simp, rfl, by simp, by simp, by simp⟩
 rintro k σ ⟨i, r, hik, rfl, r0, r3, hall⟩
 cases k with
 | zero =>
  have hi : i = l.length := by omega
  subst hi
  have hx := at_all (P := fun j (x : Str) => ValueOk x ∧ PrevLt norm l j x) hall
  by_cases g1 : 1 ≤ l.length
  ·have g1' : (1 : Int) ≤ (l.length : Int) := by omega
   by_cases g2 : l.length ≤ 4
   ·have g2' : (l.length : Int) ≤ 4 := by omega
    have hv : ValuesOk l := ⟨hx, g1, g2⟩
    simp [r0, r3, h.len, g1', g2', hv]
   ·have g2' : ¬ (l.length : Int) ≤ 4 := by omega
    have hv : ¬ ValuesOk l := fun h => g2 h.2.2
    simp [r0, r3, h.len, g1', g2', hv]
  ·have g1' : ¬ (1 : Int) ≤ (l.length : Int) := by omega
   have hv : ¬ ValuesOk l := fun h => g1 h.2.1
   simp [r0, r3, h.len, g1', hv]
 | succ k =>
  have hi : i < l.length := by omega
  obtain ⟨x, hx⟩ : ∃ c, l[i]? = some c := ⟨l[i], by simp [hi]⟩
  have hw : IntKind.i64.wrap ((i : Int) + 1) = ((i : Int) + 1) := wrap_i64 (by omega) (by omega)
  obtain ⟨id, o, e1, l0, _⟩ := strs_idx h hx
  have c1 := s_Value (t := x) (H := H)
  have c2 := s_Norm (t := x) (H := H)
  have hstep := fun h => at_step (P := fun j (x : Str) => ValueOk x ∧ PrevLt norm l j x) hall hx h
  by_cases g1 : ValueOk x
  ·rw [dec_pos g1] at c1
   by_cases hi0 : i = 0
   ·have := hstep ⟨g1, fun y hy => by omega⟩
    subst hi0
    simp at e1
    simp [r0, r3, hi, h.len, e1, l0, c1]
    exact ⟨k, by omega, 1, by omega, by omega, this⟩
   ·have hip : 0 < i := by omega
    obtain ⟨y, hy⟩ : ∃ c, l[i - 1]? = some c := ⟨l[i - 1]'(by omega), by simp⟩
    obtain ⟨id', o', e1', l0', _⟩ := strs_idx h hy
    have c3 := s_Norm (t := y) (H := H)
    have hw1 : IntKind.i64.wrap ((i : Int) - 1) = ((i - 1 : Nat) : Int) := by rw [wrap_i64 (by omega) (by omega)]; omega
    have hlo := lo_of l0
    by_cases g2 : LtS (norm y) (norm x)
    ·have := hstep ⟨g1, fun z _ hz => by rw [hy] at hz; cases hz; exact g2⟩
     simp [r0, r3, hi, h.len, e1, l0, c1, c2, c3, e1', l0', hw, hw1, hip, hlo, LtS_dec g2]
     exact ⟨k, by omega, i + 1, by omega, by omega, this⟩
    ·have hn : ¬ ValuesOk l := fun hd => g2 ((hd.1 i x hx).2 y hip hy)
     simp [r0, r3, hi, h.len, e1, l0, c1, c2, c3, e1', l0', hw, hw1, hip, hlo, LtS_no g2, hn]
  ·rw [dec_neg g1] at c1
   have hn : ¬ ValuesOk l := fun hd => g1 (hd.1 i x hx).1
   simp [r0, r3, hi, h.len, e1, l0, c1, hn]
theorem s_Attrs {H : List Ob} {v : V} {l : List PAttr} (h : AAttrs H v l) : callW C 135 [v] H = some (.bool (dec (AttrsOk l)), H) := by
 apply Ret.dec
 rw [op135]
 have hb : l.length ≤ 9223372036854775807 := h.bound
 simp [code135, Tryz.f135]
 refine WP_loop (fun k σ => ∃ (i : Nat) (r : Nat → R), i + k = l.length ∧ σ = ⟨r, 0, H⟩ ∧ r 0 = .val v ∧ r 3 = .val (.int .i64 i) ∧ ∀ j x, j < i → l[j]? = some x → NameOk x.name ∧ PrevLt PAttr.name l j x ∧ ValuesOk x.vals) ?_ l.length _ ⟨0, _, by simp, rfl, by simp, by simp, by simp⟩
 rintro k σ ⟨i, r, hik, rfl, r0, r3, hall⟩
 cases k with
 | zero =>
  have hi : i = l.length := by omega
  subst hi
  have hx := at_all (P := fun j (x : PAttr) => NameOk x.name ∧ PrevLt PAttr.name l j x ∧ ValuesOk x.vals) hall
  by_cases g : l.length ≤ 8
  ·have g' : (l.length : Int) ≤ 8 := by omega
   have hv : AttrsOk l := ⟨hx, g⟩
   simp [r0, r3, h.len, g', hv]
  ·have g' : ¬ (l.length : Int) ≤ 8 := by omega
   have hv : ¬ AttrsOk l := fun h => g h.2
   simp [r0, r3, h.len, g', hv]
 | succ k =>
  have hi : i < l.length := by omega
  obtain ⟨x, hx⟩ : ∃ c, l[i]? = some c := ⟨l[i], by simp [hi]⟩
  have hw : IntKind.i64.wrap ((i : Int) + 1) = ((i : Int) + 1) := wrap_i64 (by omega) (by omega)
  obtain ⟨id, o, w, e1, l0, l1, _, hvs, _⟩ := attrs_idx h hx
  have c1 := s_Name (t := x.name) (H := H)
  have c2 := s_Values hvs
  have hstep := fun h => at_step (P := fun j (x : PAttr) => NameOk x.name ∧ PrevLt PAttr.name l j x ∧ ValuesOk x.vals) hall hx h
  by_cases g1 : NameOk x.name
  rotate_left
  ·rw [dec_neg g1] at c1
   have hn : ¬ AttrsOk l := fun hd => g1 (hd.1 i x hx).1
   simp [r0, r3, hi, h.len, e1, l0, c1, hn, regionL_none]
  rw [dec_pos g1] at c1
  by_cases hi0 : i = 0
  ·have hpv : PrevLt PAttr.name l i x := fun y hy => by omega
   by_cases g3 : ValuesOk x.vals
   ·rw [dec_pos g3] at c2
    have := hstep ⟨g1, hpv, g3⟩
    subst hi0
    simp at e1
    simp [r0, r3, hi, h.len, e1, l0, l1, c1, c2, regionL_none]
    exact ⟨k, by omega, 1, by omega, by omega, this⟩
   ·rw [dec_neg g3] at c2
    have hn : ¬ AttrsOk l := fun hd => g3 (hd.1 i x hx).2.2
    subst hi0
    simp at e1
    simp [r0, r3, hi, h.len, e1, l0, l1, c1, c2, regionL_none, hn]
  ·have hip : 0 < i := by omega
   obtain ⟨y, hy⟩ : ∃ c, l[i - 1]? = some c := ⟨l[i - 1]'(by omega), by simp⟩
   obtain ⟨id', o', w', e1', l0', _⟩ := attrs_idx h hy
   have hw1 : IntKind.i64.wrap ((i : Int) - 1) = ((i - 1 : Nat) : Int) := by rw [wrap_i64 (by omega) (by omega)]; omega
   by_cases g2 : LtS y.name x.name
   ·have hpv : PrevLt PAttr.name l i x := fun z _ hz => by rw [hy] at hz; cases hz; exact g2
    by_cases g3 : ValuesOk x.vals
    ·rw [dec_pos g3] at c2
     have := hstep ⟨g1, hpv, g3⟩
     simp [r0, r3, hi, h.len, e1, l0, l1, c1, c2, e1', l0', hw, hw1, hip, LtS_dec g2, regionL_none]
     exact ⟨k, by omega, i + 1, by omega, by omega, this⟩
    ·rw [dec_neg g3] at c2
     have hn : ¬ AttrsOk l := fun hd => g3 (hd.1 i x hx).2.2
     simp [r0, r3, hi, h.len, e1, l0, l1, c1, c2, e1', l0', hw, hw1, hip, LtS_dec g2, regionL_none, hn]
   ·have hn : ¬ AttrsOk l := fun hd => g2 ((hd.1 i x hx).2.1 y hip hy)
    simp [r0, r3, hi, h.len, e1, l0, c1, e1', l0', hw, hw1, hip, LtS_no g2, regionL_none, hn]
theorem s_Entry {H : List Ob} {v w : V} {e : PEntry} (h1 : ARdns H v e.dn) (h2 : AAttrs H w e.attrs) : callW C 58 [.agg [v, w]] H = some (.bool (dec (EntryOk e)), H) := by
 apply Ret.dec
 rw [op58]
 have c1 := s_Dn h1
 have c2 := s_Attrs h2
 by_cases g0 : 0 < e.dn.length
 rotate_left
 ·have hn : ¬ EntryOk e := fun h => g0 h.1
  have g0' : e.dn.length = 0 := by omega
  simp [code58, Tryz.f58, h1.len, g0', hn, h1.one, h2.one]
 by_cases g1 : DnOk e.dn
 rotate_left
 ·rw [dec_neg g1] at c1
  have hn : ¬ EntryOk e := fun h => g1 h.2.1
  simp [code58, Tryz.f58, h1.len, g0, c1, hn, h1.one, h2.one]
 rw [dec_pos g1] at c1
 by_cases g2 : AttrsOk e.attrs
 ·rw [dec_pos g2] at c2
  have hn : EntryOk e := ⟨g0, g1, g2⟩
  simp [code58, Tryz.f58, h1.len, g0, c1, c2, hn, h1.one, h2.one]
 ·rw [dec_neg g2] at c2
  have hn : ¬ EntryOk e := fun h => g2 h.2.2
  simp [code58, Tryz.f58, h1.len, g0, c1, c2, hn, h1.one, h2.one]
theorem has_class {H : List Ob} {v : V} {l : List Str} (h : AStrs H v l) : callW C 132 [v, .str [99, 108, 97, 115, 115]] H = some (.bool (dec (classT ∈ l)), H) := s_Has h
theorem s_Class {H : List Ob} {w1 w2 w3 : V} {c : PClass} (h1 : AStrs H w1 c.must) (h2 : AStrs H w2 c.may) (h3 : AStrs H w3 c.single) : callW C 247 [.agg [.str c.name, w1, w2, w3]] H = some (.bool (dec (ClassOk c)), H) := by
 apply Ret.dec
 rw [op247]
 have c0 := s_Name (t := c.name) (H := H)
 have c1 := s_Names h1
 have c2 := s_Names h2
 have c3 := s_Names h3
 by_cases g0 : NameOk c.name
 rotate_left
 ·rw [dec_neg g0] at c0
  have hn : ¬ ClassOk c := fun h => g0 h.name
  simp [code247, Tryz.f247, c0, hn, h1.one, h2.one, h3.one]
 rw [dec_pos g0] at c0
 by_cases g1 : (c.must.length : Int) > 10
 ·have hn : ¬ ClassOk c := fun h => by have := h.l1; omega
  simp [code247, Tryz.f247, c0, h1.len, g1, hn, h1.one, h2.one, h3.one]
 by_cases g2 : (c.may.length : Int) > 10
 ·have hn : ¬ ClassOk c := fun h => by have := h.l2; omega
  simp [code247, Tryz.f247, c0, h1.len, h2.len, g1, g2, hn, h1.one, h2.one, h3.one]
 by_cases g3 : (c.single.length : Int) > 10
 ·have hn : ¬ ClassOk c := fun h => by have := h.l3; omega
  simp [code247, Tryz.f247, c0, h1.len, h2.len, h3.len, g1, g2, g3, hn, h1.one, h2.one, h3.one]
 by_cases g4 : NamesOk c.must
 rotate_left
 ·rw [dec_neg g4] at c1
  have hn : ¬ ClassOk c := fun h => g4 h.n1
  simp [code247, Tryz.f247, c0, c1, h1.len, h2.len, h3.len, g1, g2, g3, hn, h1.one, h2.one, h3.one]
 rw [dec_pos g4] at c1
 by_cases g5 : NamesOk c.may
 rotate_left
 ·rw [dec_neg g5] at c2
  have hn : ¬ ClassOk c := fun h => g5 h.n2
  simp [code247, Tryz.f247, c0, c1, c2, h1.len, h2.len, h3.len, g1, g2, g3, hn, h1.one, h2.one, h3.one]
 rw [dec_pos g5] at c2
 by_cases g6 : NamesOk c.single
 rotate_left
 ·rw [dec_neg g6] at c3
  have hn : ¬ ClassOk c := fun h => g6 h.n3
  simp [code247, Tryz.f247, c0, c1, c2, c3, h1.len, h2.len, h3.len, g1, g2, g3, hn, h1.one, h2.one, h3.one]
 rw [dec_pos g6] at c3
 simp [code247, Tryz.f247, c0, c1, c2, c3, h1.len, h2.len, h3.len, g1, g2, g3, h1.one, h2.one, h3.one]
 refine WP_loop (fun k σ => ∃ (i : Nat) (r : Nat → R), i + k = c.must.length ∧ σ = ⟨r, 1, H⟩ ∧ r 1 = .box 0 [.str c.name, w1, w2, w3] ∧ r 3 = .val (.int .i64 i) ∧ ∀ j x, j < i → c.must[j]? = some x → x ∉ c.may) ?_ c.must.length _ ⟨0, _, by simp, rfl, by simp, by simp, by simp⟩
 rintro k σ ⟨i, r, hik, rfl, r1, r3, hall⟩
 cases k with
 | succ k =>
  have hi : i < c.must.length := by omega
  obtain ⟨x, hx⟩ : ∃ y, c.must[i]? = some y := ⟨c.must[i], by simp [hi]⟩
  have hw : IntKind.i64.wrap ((i : Int) + 1) = ((i : Int) + 1) := wrap_i64 (by omega) (by omega)
  obtain ⟨id, o, e1, l0, _⟩ := strs_idx h1 hx
  have c4 := s_Has (t := x) h2
  by_cases g7 : x ∈ c.may
  ·rw [dec_pos g7] at c4
   have hn : ¬ ClassOk c := fun h => h.apart x (List.mem_of_getElem? hx) g7
   simp [r1, r3, hi, h1.len, e1, l0, c4, regionL_none, hn]
  ·rw [dec_neg g7] at c4
   simp [r1, r3, hi, h1.len, e1, l0, c4, regionL_none, hw]
   exact ⟨k, by omega, i + 1, by omega, by omega, at_step (P := fun j (x : Str) => x ∉ c.may) hall hx g7⟩
 | zero =>
 have hi : i = c.must.length := by omega
 subst hi
 have hap : ∀ t ∈ c.must, t ∉ c.may := fun t ht => by
  obtain ⟨j, hj, rfl⟩ := List.getElem_of_mem ht
  exact hall j _ hj (List.getElem?_eq_getElem hj)
 simp [r1, r3, h1.len]
 refine WP_loop (fun k σ => ∃ (i : Nat) (r : Nat → R), i + k = c.single.length ∧ σ = ⟨r, 1, H⟩ ∧ r 1 = .box 0 [.str c.name, w1, w2, w3] ∧ r 4 = .val (.int .i64 i) ∧ ∀ j x, j < i → c.single[j]? = some x → x ∈ c.may ∨ x ∈ c.must) ?_ c.single.length _ ⟨0, _, by simp, rfl, by simp [r1], by simp, by simp⟩
 clear hik r1 r3 hall r
 rintro k σ ⟨i, r, hik, rfl, r1, r4, hall⟩
 cases k with
 | succ k =>
  have hi : i < c.single.length := by omega
  obtain ⟨x, hx⟩ : ∃ y, c.single[i]? = some y := ⟨c.single[i], by simp [hi]⟩
  have hw : IntKind.i64.wrap ((i : Int) + 1) = ((i : Int) + 1) := wrap_i64 (by omega) (by omega)
  obtain ⟨id, o, e1, l0, _⟩ := strs_idx h3 hx
  have c4 := s_Has (t := x) h2
  have c5 := s_Has (t := x) h1
  have hstep := fun h => at_step (P := fun j (x : Str) => x ∈ c.may ∨ x ∈ c.must) hall hx h
  by_cases g7 : x ∈ c.may
  ·rw [dec_pos g7] at c4
   have := hstep (.inl g7)
   simp [r1, r4, hi, h3.len, e1, l0, c4, regionL_none, hw]
   exact ⟨k, by omega, i + 1, by omega, by omega, this⟩
  ·rw [dec_neg g7] at c4
   by_cases g8 : x ∈ c.must
   ·rw [dec_pos g8] at c5
    have := hstep (.inr g8)
    simp [r1, r4, hi, h3.len, e1, l0, c4, c5, regionL_none, hw]
    exact ⟨k, by omega, i + 1, by omega, by omega, this⟩
   ·rw [dec_neg g8] at c5
    have hn : ¬ ClassOk c := fun h => (h.known x (List.mem_of_getElem? hx)).elim g7 g8
    simp [r1, r4, hi, h3.len, e1, l0, c4, c5, regionL_none, hn]
 | zero =>
 have hi : i = c.single.length := by omega
 subst hi
 have hkn : ∀ t ∈ c.single, t ∈ c.may ∨ t ∈ c.must := fun t ht => by
  obtain ⟨j, hj, rfl⟩ := List.getElem_of_mem ht
  exact hall j _ hj (List.getElem?_eq_getElem hj)
 have c6 := has_class h1
 have c7 := has_class h2
 by_cases g7 : classT ∈ c.must
 ·rw [dec_pos g7] at c6
  have hn : ¬ ClassOk c := fun h => h.noMust g7
  simp [r1, r4, h3.len, c6, hn]
 ·rw [dec_neg g7] at c6
  by_cases g8 : classT ∈ c.may
  ·rw [dec_pos g8] at c7
   have hn : ¬ ClassOk c := fun h => h.noMay g8
   simp [r1, r4, h3.len, c6, c7, hn]
  ·rw [dec_neg g8] at c7
   have hn : ClassOk c := ⟨g0, by omega, by omega, by omega, g4, g5, g6, hap, hkn, g7, g8⟩
   simp [r1, r4, h3.len, c6, c7, hn]
theorem s_Schema {H : List Ob} {v : V} {l : List PClass} (h : AClasses H v l) : callW C 159 [v] H = some (.bool (dec (SchemaOk l)), H) := by
 apply Ret.dec
 rw [op159]
 have hb : l.length ≤ 9223372036854775807 := h.bound
 simp [code159, Tryz.f159]
 refine WP_loop (fun k σ => ∃ (i : Nat) (r : Nat → R), i + k = l.length ∧ σ = ⟨r, 0, H⟩ ∧ r 0 = .val v ∧ r 3 = .val (.int .i64 i) ∧ ∀ j x, j < i → l[j]? = some x → ClassOk x ∧ PrevLt PClass.name l j x) ?_ l.length _ ⟨0, _, by simp, rfl, by simp, by simp, by simp⟩
 rintro k σ ⟨i, r, hik, rfl, r0, r3, hall⟩
 cases k with
 | zero =>
  have hi : i = l.length := by omega
  subst hi
  have hx := at_all (P := fun j (x : PClass) => ClassOk x ∧ PrevLt PClass.name l j x) hall
  by_cases g : l.length ≤ 6
  ·have g' : (l.length : Int) ≤ 6 := by omega
   have hv : SchemaOk l := ⟨hx, g⟩
   simp [r0, r3, h.len, g', hv]
  ·have g' : ¬ (l.length : Int) ≤ 6 := by omega
   have hv : ¬ SchemaOk l := fun h => g h.2
   simp [r0, r3, h.len, g', hv]
 | succ k =>
  have hi : i < l.length := by omega
  obtain ⟨x, hx⟩ : ∃ c, l[i]? = some c := ⟨l[i], by simp [hi]⟩
  have hw : IntKind.i64.wrap ((i : Int) + 1) = ((i : Int) + 1) := wrap_i64 (by omega) (by omega)
  obtain ⟨id, o, w1, w2, w3, e1, l0, l4, q1, q2, q3, _⟩ := classes_idx h hx
  have c1 := s_Class q1 q2 q3
  have hstep := fun h => at_step (P := fun j (x : PClass) => ClassOk x ∧ PrevLt PClass.name l j x) hall hx h
  by_cases g1 : ClassOk x
  ·rw [dec_pos g1] at c1
   by_cases hi0 : i = 0
   ·have := hstep ⟨g1, fun y hy => by omega⟩
    subst hi0
    simp at e1
    simp [r0, r3, hi, h.len, e1, l4, c1, regionL_none]
    exact ⟨k, by omega, 1, by omega, by omega, this⟩
   ·have hip : 0 < i := by omega
    obtain ⟨y, hy⟩ : ∃ c, l[i - 1]? = some c := ⟨l[i - 1]'(by omega), by simp⟩
    obtain ⟨id', o', _, _, _, e1', l0', _⟩ := classes_idx h hy
    have hw1 : IntKind.i64.wrap ((i : Int) - 1) = ((i - 1 : Nat) : Int) := by rw [wrap_i64 (by omega) (by omega)]; omega
    by_cases g2 : LtS y.name x.name
    ·have := hstep ⟨g1, fun z _ hz => by rw [hy] at hz; cases hz; exact g2⟩
     simp [r0, r3, hi, h.len, e1, l0, l4, c1, e1', l0', hw, hw1, hip, LtS_dec g2, regionL_none]
     exact ⟨k, by omega, i + 1, by omega, by omega, this⟩
    ·have hn : ¬ SchemaOk l := fun hd => g2 ((hd.1 i x hx).2 y hip hy)
     simp [r0, r3, hi, h.len, e1, l0, l4, c1, e1', l0', hw, hw1, hip, LtS_no g2, regionL_none, hn]
  ·rw [dec_neg g1] at c1
   have hn : ¬ SchemaOk l := fun hd => g1 (hd.1 i x hx).1
   simp [r0, r3, hi, h.len, e1, l4, c1, hn, regionL_none]
def ClassRes (H : List Ob) (m : Option PClass) (cs : List V) (ok : Bool) : Prop :=
 (ok = true ∧ ∃ c w1 w2 w3, m = some c ∧ cs = [.str c.name, w1, w2, w3] ∧ AStrs H w1 c.must ∧ AStrs H w2 c.may ∧ AStrs H w3 c.single) ∨ (ok = false ∧ m = none ∧ cs = [.str [], .slc none 0, .slc none 0, .slc none 0])
theorem of_class {H : List Ob} {v v' : V} {l : List PAttr} (h : AAttrs H v l) (ho : cellsOf v' = some [v']) (ho' : isOne v' = true) : ∃ w, callW C 280 [.agg [v', v], .str [99, 108, 97, 115, 115]] H = some (w, H) ∧ AStrs H w (valsOf l classT) := s_Of h ho ho'
theorem s_Mine {H T : List Ob} {vl vd va : V} {l : List PClass} {as' : List PAttr} (hl : AClasses H vl l) (ha : AAttrs H va as') (ho : cellsOf vd = some [vd]) (ho' : isOne vd = true) :
  ∃ cs ok, callW C 248 [vl, .agg [vd, va]] (H ++ T) = some (.tup [.agg cs, .bool ok], H ++ T) ∧ ClassRes H (mineOf l as') cs ok := by
 suffices hs : Ret C 248 [vl, .agg [vd, va]] (H ++ T) fun q H' => (∃ cs ok, q = .tup [.agg cs, .bool ok] ∧ ClassRes H (mineOf l as') cs ok) ∧ H' = H ++ T by
  obtain ⟨q, H', hc, ⟨cs, ok, rfl, hr⟩, rfl⟩ := hs
  exact ⟨cs, ok, hc, hr⟩
 rw [op248]
 obtain ⟨w, c1, hw⟩ := of_class (ha.ext (T := T)) ho ho'
 have hone := ha.one
 by_cases g1 : (valsOf as' classT).length = 1
 rotate_left
 ·have hm : mineOf l as' = none := by
   unfold mineOf
   split
   ·rename_i v hv; rw [hv] at g1; exact absurd rfl g1
   ·rfl
  have g1' : ¬ ((valsOf as' classT).length : Int) = 1 := by omega
  simp [code248, Tryz.f248, c1, hw.len, g1', ho, ho', hone, buildV, fillL]
  exact .inr ⟨rfl, hm, rfl⟩
 obtain ⟨s, hs⟩ : ∃ s, valsOf as' classT = [s] := by
  match h : valsOf as' classT, g1 with
  | [s], _ => exact ⟨s, rfl⟩
 rw [hs] at hw
 obtain ⟨id, o, e1, l0, _⟩ := strs_idx hw (i := 0) (s := s) rfl
 simp only [Int.ofNat_eq_natCast, Int.natCast_zero] at e1
 have c2 := s_Norm (t := s) (H := H ++ T)
 obtain ⟨r, c3, hr⟩ := s_ClassAt (t := norm s) (hl.ext (T := T))
 have hm : mineOf l as' = firstOf PClass.name l (norm s) := by unfold mineOf; rw [hs]
 rcases hr.pos with ⟨k, a, h1, rfl, h2⟩ | ⟨rfl, h2⟩
 ·obtain ⟨id2, o2, w1, w2, w3, f1, l4, q1, q2, q3⟩ := classes_idxT hl h1
  have l4 := l4 T
  have hk : ¬ ((k : Int) < 0) := by omega
  simp [code248, Tryz.f248, c1, hw.len, e1, l0, c2, c3, hk, f1, l4, ho, ho', hone, q1.one, q2.one, q3.one]
  exact .inl ⟨rfl, a, w1, w2, w3, by rw [hm, h2], rfl, q1, q2, q3⟩
 ·simp [code248, Tryz.f248, c1, hw.len, e1, l0, c2, c3, ho, ho', hone, buildV, fillL]
  exact .inr ⟨rfl, by rw [hm, h2], rfl⟩
theorem filter_take {l : List Str} {i : Nat} {x : Str} (h : l[i]? = some x) (p : Str → Bool) : (l.take (i + 1)).filter p = (l.take i).filter p ++ if p x then [x] else [] := by
 rw [take_get h, List.filter_append]
 cases hp : p x <;> simp [hp]
theorem trimK {t : Str} {H : List Ob} (h0 : t ≠ []) (hl : t.length ≤ 1000) : ∃ q, callW C 180 [.str t, .str kset] H = some (.str q, H) ∧ (q = [] ↔ AllK t) := by
 suffices hs : Ret C 180 [.str t, .str kset] H fun q H' => (∃ s, q = .str s ∧ (s = [] ↔ AllK t)) ∧ H' = H by
  obtain ⟨q, H', hc, ⟨s, rfl, hr⟩, rfl⟩ := hs
  exact ⟨s, hc, hr⟩
 rw [op180]
 have hk0 : kset ≠ [] := by decide
 have hk1 : (kset.length : Int) = 37 := by decide
 have c1 := mkSet (t := kset) (H := H) (fun c hc => by
  rcases kset_mem.1 hc with h | h | h
  ·have := h.2; omega
  ·have := h.2; omega
  ·omega) (by decide)
 have hz : setRange (List.replicate 256 (V.bool false)) 0 (setB kset) = setB kset := by
  unfold setRange
  rw [List.take_zero, List.nil_append, Nat.zero_add, setOf_len, List.drop_of_length_le (by rw [List.length_replicate]; omega), List.append_nil]
 have hall : (setB kset).all isOne = true := by
  rw [List.all_eq_true]
  intro x hx
  simp only [setB, List.mem_map] at hx
  obtain ⟨_, _, rfl⟩ := hx
  rfl
 have st := storeN (H := H ++ [.mk true 1 (List.replicate 256 (.bool false))]) (id := H.length) (o := 0) (l := setB kset) (cells := List.replicate 256 (.bool false)) (es := 1) get_last (by rw [setOf_len, List.length_replicate]; omega) (by intro h; have := setOf_len (l := kset); rw [h] at this; cases this) hall
 rw [setOf_len, hz, set_last] at st
 have hob : (H ++ [Ob.mk true 1 (setB kset)])[H.length]? = some (.mk true 1 (setB kset)) := get_last
 obtain ⟨s, c2, q1, q2, q3⟩ := trimR (t := t) hob hl
 obtain ⟨s', c3, q4, q5⟩ := trimL (t := s) hob q3
 have hres : s' = [] ↔ AllK t := by
  rw [← q1, ← q4]
  constructor
  ·rintro rfl; intro c hc; cases hc
  ·intro h
   rcases q5 with h' | h'
   ·exact h'
   ·exact absurd h h'
 simp [code180, Tryz.f180, h0, hk0, hk1, c1, strideOf, st, c2, c3, -List.reduceReplicate, -setRange]
 exact hres
theorem name_iff {t : Str} {c : UInt8} {s : Str} (h : t = c :: s) : NameOk t ↔ t.length ≤ 20 ∧ LowB c ∧ AllK t := by
 subst h
 constructor
 ·rintro ⟨_, h1, h2⟩
  refine ⟨h1, ?_, fun d hd => ?_⟩
  ·rcases h2 0 c rfl with h | ⟨h, _⟩
   ·exact h
   ·omega
  ·obtain ⟨i, hi, rfl⟩ := List.getElem_of_mem hd
   rw [kset_mem]
   rcases h2 i _ (List.getElem?_eq_getElem hi) with h | ⟨_, h | h⟩
   ·exact .inl h
   ·exact .inr (.inl h)
   ·exact .inr (.inr h)
 ·rintro ⟨h1, h2, h3⟩
  refine ⟨by simp, h1, fun i d hd => ?_⟩
  cases i with
  | zero => cases hd; exact .inl h2
  | succ i =>
   rcases kset_mem.1 (h3 d (List.mem_of_getElem? hd)) with h | h | h
   ·exact .inl h
   ·exact .inr ⟨by omega, .inl h⟩
   ·exact .inr ⟨by omega, .inr h⟩
theorem i_Name {t : Str} {H : List Ob} : callW C 83 [.str t] H = some (.bool (dec (NameOk t)), H) := by
 apply Ret.dec
 rw [op83]
 match t with
 | [] =>
  have hn : ¬ NameOk [] := fun h => by have := h.1; simp at this
  simp [code83, Tryz.f83, hn]
 | c :: s =>
 have hi := name_iff (t := c :: s) rfl
 have g0 : (1 : Int) ≤ (s.length : Int) + 1 := by omega
 by_cases g1 : ((c :: s).length : Int) ≤ 20
 rotate_left
 ·have hn : ¬ NameOk (c :: s) := fun h => by have := h.2.1; omega
  simp only [List.length_cons, Int.natCast_add, Int.natCast_one] at g1
  simp [code83, Tryz.f83, g0, g1, hn]
 obtain ⟨q, hc, hq⟩ := trimK (t := c :: s) (H := H) (by simp) (by omega)
 simp only [kset] at hc
 have g1' := g1
 simp only [List.length_cons, Int.natCast_add, Int.natCast_one] at g1
 by_cases g2 : (c.toNat : Int) ≥ 97
 rotate_left
 ·have hn : ¬ NameOk (c :: s) := fun h => by have := (hi.1 h).2.1.1; omega
  simp [code83, Tryz.f83, g0, g1, g2, hn]
 by_cases g3 : (c.toNat : Int) ≤ 122
 rotate_left
 ·have hn : ¬ NameOk (c :: s) := fun h => by have := (hi.1 h).2.1.2; omega
  simp [code83, Tryz.f83, g0, g1, g2, g3, hn]
 by_cases g4 : q = []
 ·have hn : NameOk (c :: s) := hi.2 ⟨by omega, ⟨by omega, by omega⟩, hq.1 g4⟩
  simp [code83, Tryz.f83, g0, g1, g2, g3, hc, g4, hn]
 ·have hn : ¬ NameOk (c :: s) := fun h => g4 (hq.2 (hi.1 h).2.2)
  simp [code83, Tryz.f83, g0, g1, g2, g3, hc, g4, hn]
theorem i_isRdn {a b : Str} {H : List Ob} : callW C 114 [.agg [.str a, .str b]] H = some (.bool (dec (NameOk a ∧ ValueOk b)), H) := by
 apply Ret.dec
 rw [op114]
 have c1 := i_Name (t := a) (H := H)
 have c2 := i_Value (t := b) (H := H)
 by_cases g1 : NameOk a
 ·rw [dec_pos g1] at c1
  by_cases g2 : ValueOk b
  ·rw [dec_pos g2] at c2
   simp [code114, Tryz.f114, c1, c2, g1, g2]
  ·rw [dec_neg g2] at c2
   simp [code114, Tryz.f114, c1, c2, g1, g2]
 ·rw [dec_neg g1] at c1
  simp [code114, Tryz.f114, c1, g1]
theorem i_badRdn {a b : Str} {H : List Ob} : callW C 232 [.agg [.str a, .str b]] H = some (.bool (!dec (NameOk a ∧ ValueOk b)), H) := by
 apply Ret.eq
 rw [op232]
 have c1 := i_isRdn (a := a) (b := b) (H := H)
 simp [code232, Tryz.f232, c1]
theorem i_idxRdn {H : List Ob} {v : V} {l : List PRdn} (h : ARdns H v l) : ∃ r : Int, callW C 308 [v, .fn 232 [] []] H = some (.int .i64 r, H) ∧ (0 ≤ r ↔ ¬ ∀ (j : Nat) x, l[j]? = some x → NameOk x.attr ∧ ValueOk x.value) := by
 suffices hs : Ret C 308 [v, .fn 232 [] []] H fun q H' => (∃ r : Int, q = .int .i64 r ∧ (0 ≤ r ↔ ¬ ∀ (j : Nat) x, l[j]? = some x → NameOk x.attr ∧ ValueOk x.value)) ∧ H' = H by
  obtain ⟨q, H', hc, ⟨r, rfl, hr⟩, rfl⟩ := hs
  exact ⟨r, hc, hr⟩
 rw [op308]
 have hb : l.length ≤ 9223372036854775807 := h.bound
 simp [code308, Tryz.f308, h.len]
 refine WP_loop (fun k σ => ∃ (i : Nat) (r : Nat → R), i + k = l.length ∧ σ = ⟨r, 0, H⟩ ∧ r 0 = .val v ∧ r 1 = .val (.fn 232 [] []) ∧ r 7 = .val (.int .i64 l.length) ∧ r 8 = .val (.int .i64 i) ∧ ∀ j x, j < i → l[j]? = some x → NameOk x.attr ∧ ValueOk x.value) ?_ l.length _ ⟨0, _, by simp, rfl, by simp, by simp, by simp, by simp, by simp⟩
 rintro k σ ⟨i, r, hik, rfl, r0, r1, r7, r8, hall⟩
 cases k with
 | zero =>
  have hi : i = l.length := by omega
  subst hi
  have hx := at_all (P := fun j (x : PRdn) => NameOk x.attr ∧ ValueOk x.value) hall
  simp [r0, r1, r7, r8]
  exact fun j x hj => hx j x hj
 | succ k =>
  have hi : i < l.length := by omega
  obtain ⟨x, hx⟩ : ∃ c, l[i]? = some c := ⟨l[i], by simp [hi]⟩
  have hw : IntKind.i64.wrap ((i : Int) + 1) = ((i : Int) + 1) := wrap_i64 (by omega) (by omega)
  obtain ⟨id, o, e1, l0, l1, l2, _⟩ := rdns_idx h hx
  have c1 := i_badRdn (a := x.attr) (b := x.value) (H := H)
  by_cases g1 : NameOk x.attr ∧ ValueOk x.value
  ·rw [dec_pos g1] at c1
   simp at c1
   simp [r0, r1, r7, r8, hi, e1, l2, c1, hw]
   exact ⟨k, by omega, i + 1, by omega, by omega, at_step (P := fun j (x : PRdn) => NameOk x.attr ∧ ValueOk x.value) hall hx g1⟩
  ·rw [dec_neg g1] at c1
   simp at c1
   simp [r0, r1, r7, r8, hi, e1, l2, c1, hw]
   exact ⟨i, x, hx, fun h1 h2 => g1 ⟨h1, h2⟩⟩
theorem i_Dn {H : List Ob} {v : V} {l : List PRdn} (h : ARdns H v l) : callW C 140 [v] H = some (.bool (dec (DnOk l)), H) := by
 obtain ⟨r, c1, hr⟩ := i_idxRdn h
 have c2 : callW C 231 [v, .fn 232 [] []] H = some (.bool (decide (0 ≤ r)), H) := by
  apply Ret.eq
  rw [op231]
  simp [code231, Tryz.f231, c1]
 apply Ret.dec
 rw [op140]
 by_cases g1 : (l.length : Int) ≤ 6
 ·by_cases g2 : 0 ≤ r
  ·have hn : ¬ DnOk l := fun h => hr.1 g2 h.1
   simp [code140, Tryz.f140, h.len, g1, c2, g2, hn]
  ·have hn : DnOk l := ⟨Classical.byContradiction fun h => g2 (hr.2 h), by omega⟩
   simp [code140, Tryz.f140, h.len, g1, c2, g2, hn]
 ·have hn : ¬ DnOk l := fun h => g1 (by have := h.2; omega)
  simp [code140, Tryz.f140, h.len, g1, hn]
theorem prim_cmp {a b : Str} {H : List Ob} : callW C 382 [.str a, .str b] H = some (.int .i64 (Lib.compareBytes a b), H) :=
 callW_prim (pr := cmpPrim) rfl
theorem l_CompareString {a b : Str} {H : List Ob} : callW C 349 [.str a, .str b] H = some (.int .i64 (Lib.compareBytes a b), H) := by
 apply Ret.eq
 rw [op349]
 simp [code349, Tryz.f349, prim_cmp]
theorem l_Compare {a b : Str} {H : List Ob} : callW C 313 [.str a, .str b] H = some (.int .i64 (Lib.compareBytes a b), H) := by
 apply Ret.eq
 rw [op313]
 simp [code313, Tryz.f313, l_CompareString]
theorem i_byNorm {a b : Str} {H : List Ob} : callW C 238 [.str a, .str b] H = some (.int .i64 (Lib.compareBytes (norm a) (norm b)), H) := by
 apply Ret.eq
 rw [op238]
 have c1 := i_Norm (t := a) (H := H)
 have c2 := i_Norm (t := b) (H := H)
 simp [code238, Tryz.f238, c1, c2, l_Compare]
theorem cmp_lt : ∀ (a b : Str), (Lib.compareBytes a b < 0 ↔ LtS a b) ∧ (Lib.compareBytes a b = 0 ↔ a = b)
 | [], [] => by simp [Lib.compareBytes, LtS, Op.bytesLess]
 | [], _ :: _ => by simp [Lib.compareBytes, LtS, Op.bytesLess]
 | _ :: _, [] => by simp [Lib.compareBytes, LtS, Op.bytesLess]
 | a :: as', b :: bs => by
  obtain ⟨h1, h2⟩ := cmp_lt as' bs
  unfold LtS at h1 ⊢
  simp only [Lib.compareBytes, Op.bytesLess]
  by_cases g1 : a < b
  ·have : a ≠ b := fun h => by subst h; exact absurd g1 (by simp)
   simp [g1, this]
  ·by_cases g2 : b < a
   ·have : a ≠ b := fun h => by subst h; exact absurd g2 (by simp)
    simp [g1, g2, this]
   ·have : a = b := UInt8.toNat_inj.1 (by rw [UInt8.lt_iff_toNat_lt] at g1 g2; omega)
    subst this
    simp [h1, h2]
theorem l_size {H : List Ob} {v : V} {l : List Str} (h : AStrs H v l) : callW C 237 [v] H = some (.int .i64 l.length, H) := by
 apply Ret.eq
 rw [op237]
 simp [code237, Tryz.f237, h.len]
theorem l_between {a b c : Int} {H : List Ob} : callW C 178 [.int .i64 a, .int .i64 b, .int .i64 c] H = some (.bool (decide (b ≤ a ∧ a ≤ c)), H) := by
 apply Ret.eq
 rw [op178]
 by_cases g1 : b ≤ a
 ·by_cases g2 : a ≤ c <;> simp [code178, Tryz.f178, g1, g2]
 ·simp [code178, Tryz.f178, g1]
theorem i_Attr {H : List Ob} {n : Str} {v : V} {l : List Str} (h : AStrs H v l) : callW C 146 [.agg [.str n, v]] H = some (.bool (dec (NameOk n ∧ ValuesOk l)), H) := by
 apply Ret.dec
 rw [op146]
 have c1 := i_Name (t := n) (H := H)
 have c2 := l_size h
 have c3 := l_between (a := l.length) (b := 1) (c := 4) (H := H)
 have hb : l.length ≤ 9223372036854775807 := h.bound
 by_cases g1 : NameOk n
 rotate_left
 ·rw [dec_neg g1] at c1
  simp [code146, Tryz.f146, c1, g1, h.one]
 rw [dec_pos g1] at c1
 by_cases g2 : (1 : Int) ≤ l.length ∧ (l.length : Int) ≤ 4
 rotate_left
 ·rw [decide_eq_false g2] at c3
  have hn : ¬ ValuesOk l := fun h => g2 ⟨by have := h.2.1; omega, by have := h.2.2; omega⟩
  simp [code146, Tryz.f146, c1, c2, c3, hn, h.one]
 rw [decide_eq_true g2] at c3
 simp [code146, Tryz.f146, c1, c2, c3, h.one, h.len]
 refine WP_loop (fun k σ => ∃ (i : Nat) (r : Nat → R), i + k = l.length ∧ σ = ⟨r, 1, H⟩ ∧ r 1 = .box 0 [.str n, v] ∧ r 17 = .val v ∧ r 18 = .val (.int .i64 l.length) ∧ r 19 = .val (.int .i64 i) ∧ ∀ j x, j < i → l[j]? = some x → ValueOk x ∧ PrevLt norm l j x) ?_ l.length _ ⟨0, _, by simp, rfl, by simp, by simp, by simp, by simp, by simp⟩
 rintro k σ ⟨i, r, hik, rfl, r1, r17, r18, r19, hall⟩
 cases k with
 | zero =>
  have hi : i = l.length := by omega
  subst hi
  have hx := at_all (P := fun j (x : Str) => ValueOk x ∧ PrevLt norm l j x) hall
  have hv : ValuesOk l := ⟨hx, by omega, by omega⟩
  simp [r1, r17, r18, r19, g1, hv]
 | succ k =>
  have hi : i < l.length := by omega
  obtain ⟨x, hx⟩ : ∃ c, l[i]? = some c := ⟨l[i], by simp [hi]⟩
  have hw : IntKind.i64.wrap ((i : Int) + 1) = ((i : Int) + 1) := wrap_i64 (by omega) (by omega)
  obtain ⟨id, o, e1, l0, _⟩ := strs_idx h hx
  have c4 := i_Value (t := x) (H := H)
  have hstep := fun h => at_step (P := fun j (x : Str) => ValueOk x ∧ PrevLt norm l j x) hall hx h
  by_cases g3 : ValueOk x
  rotate_left
  ·rw [dec_neg g3] at c4
   have hn : ¬ ValuesOk l := fun hd => g3 (hd.1 i x hx).1
   simp [r1, r17, r18, r19, hi, e1, l0, c4, hn]
  rw [dec_pos g3] at c4
  by_cases hi0 : i = 0
  ·have := hstep ⟨g3, fun y hy => by omega⟩
   subst hi0
   simp at e1
   simp [r1, r17, r18, r19, hi, e1, l0, c4]
   exact ⟨k, by omega, 1, by omega, by omega, this⟩
  have hip : 0 < i := by omega
  obtain ⟨y, hy⟩ : ∃ c, l[i - 1]? = some c := ⟨l[i - 1]'(by omega), by simp⟩
  obtain ⟨id', o', e1', l0', _⟩ := strs_idx h hy
  have hw1 : IntKind.i64.wrap ((i : Int) - 1) = ((i - 1 : Nat) : Int) := by rw [wrap_i64 (by omega) (by omega)]; omega
  have c5 := i_byNorm (a := y) (b := x) (H := H)
  by_cases g4 : LtS (norm y) (norm x)
  ·have := hstep ⟨g3, fun z _ hz => by rw [hy] at hz; cases hz; exact g4⟩
   have g5 : ¬ (0 ≤ Lib.compareBytes (norm y) (norm x)) := by have := (cmp_lt (norm y) (norm x)).1.2 g4; omega
   simp [r1, r17, r18, r19, hi, e1, l0, c4, e1', l0', hw, hw1, hip, c5, g5]
   exact ⟨k, by omega, i + 1, by omega, by omega, this⟩
  ·have g5 : 0 ≤ Lib.compareBytes (norm y) (norm x) := by have := mt (cmp_lt (norm y) (norm x)).1.1 g4; omega
   have hn : ¬ ValuesOk l := fun hd => g4 ((hd.1 i x hx).2 y hip hy)
   simp [r1, r17, r18, r19, hi, e1, l0, c4, e1', l0', hw, hw1, hip, c5, g5, hn]
theorem i_Names {H : List Ob} {v : V} {l : List Str} (h : AStrs H v l) : callW C 66 [v] H = some (.bool (dec (NamesOk l)), H) := by
 apply Ret.dec
 rw [op66]
 have hb : l.length ≤ 9223372036854775807 := h.bound
 simp [code66, Tryz.f66, h.len]
 refine WP_loop (fun k σ => ∃ (i : Nat) (r : Nat → R), i + k = l.length ∧ σ = ⟨r, 0, H⟩ ∧ r 0 = .val v ∧ r 5 = .val v ∧ r 6 = .val (.int .i64 l.length) ∧ r 7 = .val (.int .i64 i) ∧ ∀ j x, j < i → l[j]? = some x → NameOk x ∧ PrevLt (fun x => x) l j x) ?_ l.length _ ⟨0, _, by simp, rfl, by simp, by simp, by simp, by simp, by simp⟩
 rintro k σ ⟨i, r, hik, rfl, r0, r5, r6, r7, hall⟩
 cases k with
 | zero =>
  have hi : i = l.length := by omega
  subst hi
  have hx : NamesOk l := at_all (P := fun j (x : Str) => NameOk x ∧ PrevLt (fun x => x) l j x) hall
  simp [r0, r5, r6, r7, hx]
 | succ k =>
  have hi : i < l.length := by omega
  obtain ⟨x, hx⟩ : ∃ c, l[i]? = some c := ⟨l[i], by simp [hi]⟩
  have hw : IntKind.i64.wrap ((i : Int) + 1) = ((i : Int) + 1) := wrap_i64 (by omega) (by omega)
  obtain ⟨id, o, e1, l0, _⟩ := strs_idx h hx
  have c1 := i_Name (t := x) (H := H)
  have hstep := fun h => at_step (P := fun j (x : Str) => NameOk x ∧ PrevLt (fun x => x) l j x) hall hx h
  by_cases g1 : NameOk x
  rotate_left
  ·rw [dec_neg g1] at c1
   have hn : ¬ NamesOk l := fun hd => g1 (hd i x hx).1
   simp [r0, r5, r6, r7, hi, e1, l0, c1, hn]
  rw [dec_pos g1] at c1
  by_cases hi0 : i = 0
  ·have := hstep ⟨g1, fun y hy => by omega⟩
   subst hi0
   simp at e1
   simp [r0, r5, r6, r7, hi, e1, l0, c1]
   exact ⟨k, by omega, 1, by omega, by omega, this⟩
  have hip : 0 < i := by omega
  obtain ⟨y, hy⟩ : ∃ c, l[i - 1]? = some c := ⟨l[i - 1]'(by omega), by simp⟩
  obtain ⟨id', o', e1', l0', _⟩ := strs_idx h hy
  have hw1 : IntKind.i64.wrap ((i : Int) - 1) = ((i - 1 : Nat) : Int) := by rw [wrap_i64 (by omega) (by omega)]; omega
  by_cases g2 : LtS y x
  ·have := hstep ⟨g1, fun z _ hz => by rw [hy] at hz; cases hz; exact g2⟩
   simp [r0, r5, r6, r7, hi, e1, l0, c1, e1', l0', hw, hw1, hip, LtS_dec g2]
   exact ⟨k, by omega, i + 1, by omega, by omega, this⟩
  ·have hn : ¬ NamesOk l := fun hd => g2 ((hd i x hx).2 y hip hy)
   simp [r0, r5, r6, r7, hi, e1, l0, c1, e1', l0', hw, hw1, hip, LtS_no g2, hn]
theorem i_Entry {H : List Ob} {v w : V} {e : PEntry} (h1 : ARdns H v e.dn) (h2 : AAttrs H w e.attrs) : callW C 65 [.agg [v, w]] H = some (.bool (dec (EntryOk e)), H) := by
 apply Ret.dec
 rw [op65]
 have c1 := i_Dn h1
 have hb : e.attrs.length ≤ 9223372036854775807 := h2.bound
 by_cases g0 : e.dn.length = 0
 ·have hn : ¬ EntryOk e := fun h => by have := h.1; omega
  simp [code65, Tryz.f65, h1.len, g0, hn, h1.one, h2.one]
 have g0' : ¬ (e.dn.length : Int) = 0 := by omega
 by_cases g1 : DnOk e.dn
 rotate_left
 ·rw [dec_neg g1] at c1
  have hn : ¬ EntryOk e := fun h => g1 h.2.1
  simp [code65, Tryz.f65, h1.len, g0, c1, hn, h1.one, h2.one]
 rw [dec_pos g1] at c1
 by_cases g2 : (e.attrs.length : Int) > 8
 ·have hn : ¬ EntryOk e := fun h => by have := h.2.2.2; omega
  simp [code65, Tryz.f65, h1.len, h2.len, g0, g2, c1, hn, h1.one, h2.one]
 simp [code65, Tryz.f65, h1.len, h2.len, g0, g2, c1, h1.one, h2.one]
 refine WP_loop (fun k σ => ∃ (i n : Nat) (r : Nat → R), i + k = e.attrs.length ∧ σ = ⟨r, n, H⟩ ∧ r 1 = .box 0 [v, w] ∧ 1 ≤ n ∧ r 22 = .val w ∧ r 23 = .val (.int .i64 e.attrs.length) ∧ r 24 = .val (.int .i64 i) ∧ ∀ j x, j < i → e.attrs[j]? = some x → NameOk x.name ∧ PrevLt PAttr.name e.attrs j x ∧ ValuesOk x.vals) ?_ e.attrs.length _ ⟨0, 1, _, by simp, rfl, by simp, by omega, by simp, by simp, by simp, by simp⟩
 rintro k σ ⟨i, n, r, hik, rfl, r1, hn1, r22, r23, r24, hall⟩
 cases k with
 | zero =>
  have hi : i = e.attrs.length := by omega
  subst hi
  have hx := at_all (P := fun j (x : PAttr) => NameOk x.name ∧ PrevLt PAttr.name e.attrs j x ∧ ValuesOk x.vals) hall
  have hv : EntryOk e := ⟨by omega, g1, hx, by omega⟩
  simp [r1, r22, r23, r24, hv]
 | succ k =>
  have hi : i < e.attrs.length := by omega
  obtain ⟨x, hx⟩ : ∃ c, e.attrs[i]? = some c := ⟨e.attrs[i], by simp [hi]⟩
  have hw : IntKind.i64.wrap ((i : Int) + 1) = ((i : Int) + 1) := wrap_i64 (by omega) (by omega)
  obtain ⟨id, o, w', e1, l0, l1, l2, hvs, _⟩ := attrs_idx h2 hx
  have c2 := i_Attr (n := x.name) hvs
  have hstep := fun h => at_step (P := fun j (x : PAttr) => NameOk x.name ∧ PrevLt PAttr.name e.attrs j x ∧ ValuesOk x.vals) hall hx h
  by_cases g3 : NameOk x.name ∧ ValuesOk x.vals
  rotate_left
  ·rw [dec_neg g3] at c2
   have hn : ¬ EntryOk e := fun hd => g3 ⟨(hd.2.2.1 i x hx).1, (hd.2.2.1 i x hx).2.2⟩
   simp [r1, r22, r23, r24, hi, e1, l2, c2, hn, hvs.one, regionL_none]
  rw [dec_pos g3] at c2
  by_cases hi0 : i = 0
  ·have := hstep ⟨g3.1, fun y hy => by omega, g3.2⟩
   subst hi0
   simp at e1
   simp [r1, r22, r23, r24, hi, e1, l2, c2, hvs.one, regionL_none]
   exact ⟨k, by omega, 1, by omega, n + 1, _, ⟨rfl, rfl⟩, by simp [r1], by omega, by simp [r22], by simp [r23], by simp, this⟩
  have hip : 0 < i := by omega
  obtain ⟨y, hy⟩ : ∃ c, e.attrs[i - 1]? = some c := ⟨e.attrs[i - 1]'(by omega), by simp⟩
  obtain ⟨id', o', _, e1', l0', _⟩ := attrs_idx h2 hy
  have hw1 : IntKind.i64.wrap ((i : Int) - 1) = ((i - 1 : Nat) : Int) := by rw [wrap_i64 (by omega) (by omega)]; omega
  by_cases g4 : LtS y.name x.name
  ·have := hstep ⟨g3.1, fun z _ hz => by rw [hy] at hz; cases hz; exact g4, g3.2⟩
   simp [r1, r22, r23, r24, hi, e1, l2, c2, e1', l0', hw, hw1, hip, LtS_dec g4, hvs.one, regionL_none]
   exact ⟨k, by omega, i + 1, by omega, n + 1, _, ⟨rfl, rfl⟩, by simp [r1], by omega, by simp [r22], by simp [r23], by simp, this⟩
  ·have hn : ¬ EntryOk e := fun hd => g4 ((hd.2.2.1 i x hx).2.1 y hip hy)
   simp [r1, r22, r23, r24, hi, e1, l2, c2, e1', l0', hw, hw1, hip, LtS_no g4, hvs.one, regionL_none, hn]
def Own (H G : List Ob) (w : V) (l : List Str) : Prop := (w = .slc none 0 ∧ l = []) ∨ Gs H G w (l.map V.str)
theorem strs_cells {H T : List Ob} {v : V} {l : List Str} (h : AStrs H v l) : ∃ p, v = .slc p l.length ∧ slcCells (H ++ T) p l.length = some (l.map V.str) ∧ (p = none → l = []) ∧ ∀ id off, p = some (id, off) → thereAt H id := by
 rcases h.sl with ⟨rfl, hl⟩ | ⟨id, off, own, cells, rfl, h2, h3, h4⟩
 ·have : l = [] := by simpa using hl
  subst this
  exact ⟨none, rfl, rfl, fun _ => rfl, fun _ _ h => by cases h⟩
 ·rw [List.length_map] at h3 ⊢
  refine ⟨some (id, off), rfl, ?_, (fun h => by cases h), (fun id' off' h => by cases h; exact ⟨_, _, _, h2⟩)⟩
  by_cases h0 : l.length = 0
  ·have : l = [] := List.length_eq_zero_iff.1 h0
   subst this
   rfl
  ·simp only [slcCells, up_append _ _ h2, if_neg h0]
   unfold rdCells
   simp only [Sh.size_str, Nat.mul_one] at h3 h4
   rw [if_pos h3]
   congr 1
   apply List.ext_getElem?
   intro j
   by_cases hj : j < l.length
   ·rw [List.getElem?_take_of_lt hj, List.getElem?_drop, List.getElem?_map]
    obtain ⟨s, hs⟩ : ∃ s, l[j]? = some s := ⟨l[j], List.getElem?_eq_getElem hj⟩
    obtain ⟨t, e1, e2, _⟩ := At_str.1 (h4 j (.str s) (by rw [List.getElem?_map, hs]; rfl))
    cases e2
    rw [hs]
    have := cells_get e1 (j := 0) rfl
    simpa using this
   ·rw [List.getElem?_eq_none (by simp; omega), List.getElem?_eq_none (by simp; omega)]
theorem l_Clone {H : List Ob} {v : V} {l : List Str} (h : AStrs H v l) (hl : l.length ≤ 1000000) : ∃ T w, callW C 277 [v] H = some (w, H ++ T) ∧ Own H (H ++ T) w l := by
 suffices hs : Ret C 277 [v] H fun q H' => ∃ T, H' = H ++ T ∧ Own H (H ++ T) q l by
  obtain ⟨q, H', hc, T, rfl, hr⟩ := hs
  exact ⟨T, q, hc, hr⟩
 rw [op277]
 obtain ⟨p, rfl, hc, hp, ht⟩ := strs_cells (T := [.mk true 1 []]) h
 cases p with
 | none =>
  have := hp rfl
  subst this
  simp [code277, Tryz.f277]
  exact .inl ⟨rfl, rfl⟩
 | some p =>
  by_cases h0 : l.length = 0
  ·have : l = [] := List.length_eq_zero_iff.1 h0
   subst this
   have ha : appendV ⟨.str, 1, 16, [.str []]⟩ (H ++ [.mk true 1 []]) (.slc (some (H.length, 0)) 0) (.slc (some p) 0) = some (.slc (some (H.length, 0)) 0, H ++ [.mk true 1 []]) := by
    unfold appendV
    rw [if_pos (by simp [growOk])]
    simp [newCells, slcCells]
   simp [code277, Tryz.f277, elemT, fillL, zerosL, St.new, ha]
   exact .inr Gs.init
  ·have hm : l.length * 16 ≤ maxMade := by unfold maxMade; omega
   have ha : appendV ⟨.str, 1, 16, [.str []]⟩ (H ++ [.mk true 1 []]) (.slc (some (H.length, 0)) 0) (.slc (some p) l.length) = some (.slc (some (H.length + 1, 0)) l.length, H ++ [.dead, .mk true 1 (l.map V.str)]) := by
    unfold appendV
    rw [if_pos (by simp [growOk])]
    simp only [newCells, Nat.mul_one, hc, if_neg h0]
    rw [if_pos (by simp)]
    simp [get_last, h0, hm]
   have hne : l ≠ [] := fun h => h0 (by rw [h]; rfl)
   have hgs : Gs H (H ++ [.dead, .mk true 1 (l.map V.str)]) (.slc (some (H.length + 1, 0)) l.length) (l.map V.str) :=
    ⟨_, H.length + 1, rfl, by omega, by rw [List.getElem?_append_right (by omega)]; simp, by simp⟩
   simp [code277, Tryz.f277, elemT, fillL, zerosL, St.new, ha, hgs.gc]
   exact .inr hgs
def FirstIs (p : Str → Bool) (l : List Str) (r : Int) : Prop := (∃ (k : Nat) (x : Str), l[k]? = some x ∧ p x = true ∧ (∀ j y, j < k → l[j]? = some y → p y = false) ∧ r = k) ∨ ((∀ (j : Nat) y, l[j]? = some y → p y = false) ∧ r = -1)
theorem l_IndexFunc {H : List Ob} {v : V} {l : List Str} {g : Nat} {a b : List V} (h : AStrs H v l) (p : Str → Bool) (hg : ∀ x ∈ l, callW C g (a ++ ([.str x] ++ b)) H = some (.bool (p x), H)) :
  ∃ r : Int, callW C 336 [v, .fn g a b] H = some (.int .i64 r, H) ∧ FirstIs p l r := by
 suffices hs : Ret C 336 [v, .fn g a b] H fun q H' => (∃ r : Int, q = .int .i64 r ∧ FirstIs p l r) ∧ H' = H by
  obtain ⟨q, H', hc, ⟨r, rfl, hr⟩, rfl⟩ := hs
  exact ⟨r, hc, hr⟩
 rw [op336]
 have hb : l.length ≤ 9223372036854775807 := h.bound
 simp [code336, Tryz.f336, h.len]
 refine WP_loop (fun k σ => ∃ (i : Nat) (r : Nat → R), i + k = l.length ∧ σ = ⟨r, 0, H⟩ ∧ r 0 = .val v ∧ r 1 = .val (.fn g a b) ∧ r 7 = .val (.int .i64 l.length) ∧ r 8 = .val (.int .i64 i) ∧ ∀ j x, j < i → l[j]? = some x → p x = false) ?_ l.length _ ⟨0, _, by simp, rfl, by simp, by simp, by simp, by simp, by simp⟩
 rintro k σ ⟨i, r, hik, rfl, r0, r1, r7, r8, hall⟩
 cases k with
 | zero =>
  have hi : i = l.length := by omega
  subst hi
  have hx := at_all (P := fun j (x : Str) => p x = false) hall
  simp [r0, r1, r7, r8]
  exact .inr ⟨hx, rfl⟩
 | succ k =>
  have hi : i < l.length := by omega
  obtain ⟨x, hx⟩ : ∃ c, l[i]? = some c := ⟨l[i], by simp [hi]⟩
  have hw : IntKind.i64.wrap ((i : Int) + 1) = ((i : Int) + 1) := wrap_i64 (by omega) (by omega)
  obtain ⟨id, o, e1, l0, _⟩ := strs_idx h hx
  have c1 := hg x (List.mem_of_getElem? hx)
  simp only [List.singleton_append] at c1
  cases hp : p x with
  | false =>
   rw [hp] at c1
   simp [r0, r1, r7, r8, hi, e1, l0, c1, hw]
   exact ⟨k, by omega, i + 1, by omega, by omega, at_step (P := fun j (x : Str) => p x = false) hall hx hp⟩
  | true =>
   rw [hp] at c1
   simp [r0, r1, r7, r8, hi, e1, l0, c1, hw]
   exact .inl ⟨i, x, hx, hp, hall, rfl⟩
theorem FirstIs.mem {p : Str → Bool} {l : List Str} {r : Int} (h : FirstIs p l r) : 0 ≤ r ↔ ∃ x ∈ l, p x = true := by
 rcases h with ⟨k, x, h1, h2, _, rfl⟩ | ⟨h1, rfl⟩
 ·exact ⟨fun _ => ⟨x, List.mem_of_getElem? h1, h2⟩, fun _ => by omega⟩
 ·refine ⟨fun h => by omega, fun ⟨x, hx, hp⟩ => ?_⟩
  obtain ⟨j, hj, rfl⟩ := List.getElem_of_mem hx
  rw [h1 j _ (List.getElem?_eq_getElem hj)] at hp
  cases hp
theorem l_ContainsFunc {H : List Ob} {v : V} {l : List Str} {g : Nat} {a b : List V} (h : AStrs H v l) (p : Str → Bool) (hg : ∀ x ∈ l, callW C g (a ++ ([.str x] ++ b)) H = some (.bool (p x), H)) :
  callW C 286 [v, .fn g a b] H = some (.bool (dec (∃ x ∈ l, p x = true)), H) := by
 obtain ⟨r, c1, hr⟩ := l_IndexFunc h p hg
 apply Ret.dec
 rw [op286]
 by_cases g1 : 0 ≤ r
 ·have := hr.mem.1 g1
  simp [code286, Tryz.f286, c1, g1]
  exact this
 ·have := mt hr.mem.2 g1
  simp [code286, Tryz.f286, c1, g1]
  intro x hx
  cases hp : p x with
  | false => rfl
  | true => exact absurd ⟨x, hx, hp⟩ this
theorem l_Contains {H : List Ob} {v : V} {l : List Str} {t : Str} (h : AStrs H v l) : callW C 142 [v, .str t] H = some (.bool (dec (t ∈ l)), H) := by
 have hi : ∃ r : Int, callW C 234 [v, .str t] H = some (.int .i64 r, H) ∧ (0 ≤ r ↔ t ∈ l) := by
  suffices hs : Ret C 234 [v, .str t] H fun q H' => (∃ r : Int, q = .int .i64 r ∧ (0 ≤ r ↔ t ∈ l)) ∧ H' = H by
   obtain ⟨q, H', hc, ⟨r, rfl, hr⟩, rfl⟩ := hs
   exact ⟨r, hc, hr⟩
  rw [op234]
  have hb : l.length ≤ 9223372036854775807 := h.bound
  simp [code234, Tryz.f234, h.len]
  refine WP_loop (fun k σ => ∃ (i : Nat) (r : Nat → R), i + k = l.length ∧ σ = ⟨r, 0, H⟩ ∧ r 0 = .val v ∧ r 1 = .val (.str t) ∧ r 7 = .val (.int .i64 l.length) ∧ r 8 = .val (.int .i64 i) ∧ ∀ j x, j < i → l[j]? = some x → x ≠ t) ?_ l.length _ ⟨0, _, by simp, rfl, by simp, by simp, by simp, by simp, by simp⟩
  rintro k σ ⟨i, r, hik, rfl, r0, r1, r7, r8, hall⟩
  cases k with
  | zero =>
   have hi : i = l.length := by omega
   subst hi
   have hx := at_all (P := fun j (x : Str) => x ≠ t) hall
   have hn : t ∉ l := fun hm => by
    obtain ⟨j, hj, e⟩ := List.getElem_of_mem hm
    exact hx j _ (List.getElem?_eq_getElem hj) e
   simp [r0, r1, r7, r8, hn]
  | succ k =>
   have hi : i < l.length := by omega
   obtain ⟨x, hx⟩ : ∃ c, l[i]? = some c := ⟨l[i], by simp [hi]⟩
   have hw : IntKind.i64.wrap ((i : Int) + 1) = ((i : Int) + 1) := wrap_i64 (by omega) (by omega)
   obtain ⟨id, o, e1, l0, _⟩ := strs_idx h hx
   by_cases g1 : x = t
   ·have hm : t ∈ l := g1 ▸ List.mem_of_getElem? hx
    subst g1
    simp [r0, r1, r7, r8, hi, e1, l0, hm]
   ·have g1' : ¬ t = x := fun h => g1 h.symm
    simp [r0, r1, r7, r8, hi, e1, l0, g1', hw]
    exact ⟨k, by omega, i + 1, by omega, by omega, at_step (P := fun j (x : Str) => x ≠ t) hall hx g1⟩
 obtain ⟨r, c1, hr⟩ := hi
 apply Ret.dec
 rw [op142]
 by_cases g1 : 0 ≤ r
 ·simp [code142, Tryz.f142, c1, g1, hr.1 g1]
 ·simp [code142, Tryz.f142, c1, g1, mt hr.2 g1]
theorem i_noName {H : List Ob} {id : Nat} {own : Bool} {es : Nat} {va : V} {l : List Str} {t : Str} (h0 : H[id]? = some (.mk own es [va])) (h : AStrs H va l) : callW C 325 [.str t, .ptr (some (id, 0))] H = some (.bool (!dec (t ∈ l)), H) := by
 apply Ret.eq
 rw [op325]
 have ld := load1 (o := 0) (v := va) h0 rfl
 have c1 := l_Contains (t := t) h
 simp [code325, Tryz.f325, ld, c1]
theorem s_In {H : List Ob} {v : V} {l : List Str} {n : Str} (h : AStrs H v l) : ∃ r : Int, callW C 279 [v, .str n] H = some (.int .i64 r, H) ∧ FirstIs (fun x => decide (norm x = n)) l r := by
 suffices hs : Ret C 279 [v, .str n] H fun q H' => (∃ r : Int, q = .int .i64 r ∧ FirstIs (fun x => decide (norm x = n)) l r) ∧ H' = H by
  obtain ⟨q, H', hc, ⟨r, rfl, hr⟩, rfl⟩ := hs
  exact ⟨r, hc, hr⟩
 rw [op279]
 have hb : l.length ≤ 9223372036854775807 := h.bound
 simp [code279, Tryz.f279]
 refine WP_loop (fun k σ => ∃ (i : Nat) (r : Nat → R), i + k = l.length ∧ σ = ⟨r, 0, H⟩ ∧ r 0 = .val v ∧ r 1 = .val (.str n) ∧ r 5 = .val (.int .i64 i) ∧ ∀ j x, j < i → l[j]? = some x → norm x ≠ n) ?_ l.length _ ⟨0, _, by simp, rfl, by simp, by simp, by simp, by simp⟩
 rintro k σ ⟨i, r, hik, rfl, r0, r1, r5, hall⟩
 cases k with
 | zero =>
  have hi : i = l.length := by omega
  subst hi
  have hx := at_all (P := fun j (x : Str) => norm x ≠ n) hall
  simp [r0, r1, r5, h.len]
  exact .inr ⟨fun j x hj => by simpa using hx j x hj, rfl⟩
 | succ k =>
  have hi : i < l.length := by omega
  obtain ⟨x, hx⟩ : ∃ c, l[i]? = some c := ⟨l[i], by simp [hi]⟩
  have hw : IntKind.i64.wrap ((i : Int) + 1) = ((i : Int) + 1) := wrap_i64 (by omega) (by omega)
  obtain ⟨id, o, e1, l0, _⟩ := strs_idx h hx
  have c1 := s_Norm (t := x) (H := H)
  by_cases g1 : norm x = n
  ·simp [r0, r1, r5, hi, h.len, e1, l0, c1, g1]
   exact .inl ⟨i, x, hx, by simpa using g1, fun j y hj hy => by simpa using hall j y hj hy, rfl⟩
  ·simp [r0, r1, r5, hi, h.len, e1, l0, c1, g1, hw]
   exact ⟨k, by omega, i + 1, by omega, by omega, at_step (P := fun j (x : Str) => norm x ≠ n) hall hx g1⟩

abbrev LTstr : LT := ⟨.str, 1, 16, [.str []]⟩
theorem l_Grow {H : List Ob} {n : Nat} (hn : n ≤ 1000) : callW C 235 [.slc none 0, .int .i64 n] H = some (if n = 0 then (.slc none 0, H) else (.slc (some (H.length, 0)) 0, H ++ [.mk true 1 (zerosL LTstr n)])) := by
 have hw0 : IntKind.i64.wrap 0 = 0 := rfl
 have hwn : IntKind.i64.wrap (n : Int) = n := wrap_i64 (by omega) (by omega)
 have h1 : ¬ ((n : Int) < 0) := by omega
 by_cases h0 : n = 0
 ·subst h0
  rw [if_pos rfl]
  apply Ret.eq
  rw [op235]
  simp [code235, Tryz.f235, hw0]
 ·rw [if_neg h0]
  have h2 : (0 : Int) < n := by omega
  have h2' : 0 < n := by omega
  have h3 : (n : Int) * 16 ≤ 1099511627776 := by omega
  suffices hs : Ret C 235 [.slc none 0, .int .i64 n] H fun q H' => q = .slc (some (H.length, 0)) 0 ∧ H' = H ++ [.mk true 1 (zerosL LTstr n)] by
   obtain ⟨q, H', hc, rfl, rfl⟩ := hs
   exact hc
  rw [op235]
  simp [code235, Tryz.f235, hw0, hwn, h1, h2, h2', elemT, appendZ, growOk, maxMade, h3, strideIs]
theorem app_fill {H : List Ob} {ds xs zs : List V} {m : Nat} {x : V} (hx : newCells LTstr (H ++ [.mk true 1 (ds ++ zs)]) x = some (xs, m)) (hm : xs.length = m) (hm0 : m ≠ 0) (hone : xs.all isOne = true) (hz : m ≤ zs.length) :
  appendV LTstr (H ++ [.mk true 1 (ds ++ zs)]) (.slc (some (H.length, 0)) ds.length) x = some (.slc (some (H.length, 0)) (ds.length + m), H ++ [.mk true 1 (ds ++ xs ++ zs.drop m)]) := by
 unfold appendV
 rw [if_pos (by simp [growOk]), hx]
 simp only [if_neg hm0, hone, if_true, get_last]
 have e1 : 0 + (ds.length + m) * 1 ≤ (ds ++ zs).length := by simp; omega
 rw [if_pos e1, set_last]
 congr 4
 unfold setRange
 rw [Nat.zero_add, Nat.mul_one, List.take_left, hm, List.drop_append]
 simp
theorem app_none {H : List Ob} {s x : V} {xs : List V} (hx : newCells LTstr H x = some (xs, 0)) (hs : ∃ p n, s = .slc (some p) n ∨ s = .slc none 0) : appendV LTstr H s x = some (s, H) := by
 unfold appendV
 rw [if_pos (by simp [growOk]), hx]
 obtain ⟨p, n, rfl | rfl⟩ := hs <;> simp
theorem zerosL_str {n : Nat} : (zerosL LTstr n).length = n := by simp [zerosL]
def fl (ls : List (List Str)) (i : Nat) : List Str := (ls.take i).flatten
theorem fl_zero {ls : List (List Str)} : fl ls 0 = [] := by simp [fl]
theorem fl_step {ls : List (List Str)} {i : Nat} {l : List Str} (h : ls[i]? = some l) : fl ls (i + 1) = fl ls i ++ l := by
 unfold fl
 rw [take_get h, List.flatten_append]
 simp
theorem fl_le {ls : List (List Str)} {i : Nat} : (fl ls i).length ≤ (fl ls ls.length).length := by
 unfold fl
 have := congrArg List.length (congrArg List.flatten (List.take_append_drop i ls))
 rw [List.flatten_append, List.length_append] at this
 rw [List.take_length]
 omega
theorem l_Concat {H : List Ob} {id : Nat} {own : Bool} {ws : List V} {ls : List (List Str)} (h0 : H[id]? = some (.mk own 1 ws)) (hl : ws.length = ls.length) (hw : ∀ (i : Nat) w l, ws[i]? = some w → ls[i]? = some l → AStrs H w l)
  (hb : (fl ls ls.length).length ≤ 1000) (hb2 : ls.length ≤ 1000) : ∃ T w, callW C 143 [.slc (some (id, 0)) ls.length] H = some (w, H ++ T) ∧ Own H (H ++ T) w (fl ls ls.length) := by
 suffices hs : Ret C 143 [.slc (some (id, 0)) ls.length] H fun q H' => ∃ T, H' = H ++ T ∧ Own H (H ++ T) q (fl ls ls.length) by
  obtain ⟨q, H', hc, T, rfl, hr⟩ := hs
  exact ⟨T, q, hc, hr⟩
 rw [op143]
 simp [code143, Tryz.f143]
 refine WP_loop (fun k σ => ∃ (i : Nat) (r : Nat → R), i + k = ls.length ∧ σ = ⟨r, 0, H⟩ ∧ r 0 = .val (.slc (some (id, 0)) ls.length) ∧ r 3 = .val (.int .i64 ((fl ls i).length : Nat)) ∧ r 9 = .val (.slc (some (id, 0)) ls.length) ∧ r 10 = .val (.int .i64 ls.length) ∧ r 11 = .val (.int .i64 i)) ?_ ls.length _ ⟨0, _, by simp, rfl, by simp, by simp [fl_zero], by simp, by simp, by simp⟩
 rintro k σ ⟨i, r, hik, rfl, r0, r3, r9, r10, r11⟩
 cases k with
 | succ k =>
  have hi : i < ls.length := by omega
  obtain ⟨w, hwi⟩ : ∃ w, ws[i]? = some w := ⟨ws[i]'(by omega), List.getElem?_eq_getElem _⟩
  obtain ⟨l, hli⟩ : ∃ l, ls[i]? = some l := ⟨ls[i], List.getElem?_eq_getElem hi⟩
  have hs := hw i w l hwi hli
  have ld := load1 h0 hwi
  have hf := fl_step hli
  have hle := fl_le (ls := ls) (i := i + 1)
  have hfl := congrArg List.length hf
  rw [List.length_append] at hfl
  have hw1 : IntKind.i64.wrap ((i : Int) + 1) = ((i : Int) + 1) := wrap_i64 (by omega) (by omega)
  have hw2 : IntKind.i64.wrap (((fl ls i).length : Nat) + (l.length : Int)) = (((fl ls (i + 1)).length : Nat) : Int) := by rw [wrap_i64 (by omega) (by omega)]; omega
  have hn : ¬ ((((fl ls (i + 1)).length : Nat) : Int) < 0) := by omega
  simp [r0, r3, r9, r10, r11, hi, ld, hs.len, hw1, hw2, hn]
  exact ⟨k, by omega, i + 1, by omega, rfl, by omega⟩
 | zero =>
 have hi : i = ls.length := by omega
 subst hi
 have hg := l_Grow (H := H) (n := (fl ls ls.length).length) hb
 generalize hN : (fl ls ls.length).length = N at r3 hg hb
 by_cases hN0 : N = 0
 ·rw [if_pos hN0] at hg
  simp [r0, r3, r9, r10, r11, hg]
  refine WP_loop (fun k σ => ∃ (i : Nat) (r : Nat → R), i + k = ls.length ∧ σ = ⟨r, 0, H⟩ ∧ r 6 = .val (.slc none 0) ∧ r 25 = .val (.slc (some (id, 0)) ls.length) ∧ r 26 = .val (.int .i64 ls.length) ∧ r 27 = .val (.int .i64 i)) ?_ ls.length _ ⟨0, _, by simp, rfl, by simp, by simp [r0], by simp, by simp⟩
  clear hik r0 r3 r9 r10 r11 r
  rintro k σ ⟨i, r, hik, rfl, r6, r25, r26, r27⟩
  cases k with
  | zero =>
   have hi : i = ls.length := by omega
   subst hi
   simp [r6, r25, r26, r27]
   exact .inl ⟨rfl, List.length_eq_zero_iff.1 (by omega)⟩
  | succ k =>
   have hi : i < ls.length := by omega
   obtain ⟨w, hwi⟩ : ∃ w, ws[i]? = some w := ⟨ws[i]'(by omega), List.getElem?_eq_getElem _⟩
   obtain ⟨l, hli⟩ : ∃ l, ls[i]? = some l := ⟨ls[i], List.getElem?_eq_getElem hi⟩
   have hs := hw i w l hwi hli
   have ld := load1 h0 hwi
   have hl0 : l.length = 0 := by
    have h1 := congrArg List.length (fl_step hli)
    have h2 := fl_le (ls := ls) (i := i + 1)
    rw [List.length_append] at h1
    omega
   obtain ⟨p, rfl, hc, _⟩ := strs_cells (T := []) hs
   rw [hl0] at hc ld
   have ha := app_none (s := .slc none 0) (H := H) (x := .slc p 0) (xs := []) (by simp [newCells, slcCells]; cases p <;> simp) ⟨(0, 0), 0, .inr rfl⟩
   have hw1 : IntKind.i64.wrap ((i : Int) + 1) = ((i : Int) + 1) := wrap_i64 (by omega) (by omega)
   simp [r6, r25, r26, r27, hi, ld, elemT, ha, hw1]
   exact ⟨k, by omega, i + 1, by omega, by omega⟩
 ·rw [if_neg hN0] at hg
  simp [r0, r3, r9, r10, r11, hg]
  refine WP_loop (fun k σ => ∃ (i : Nat) (r : Nat → R) (zs : List V), i + k = ls.length ∧ σ = ⟨r, 0, H ++ [.mk true 1 ((fl ls i).map V.str ++ zs)]⟩ ∧ (fl ls i).length + zs.length = N ∧ r 6 = .val (.slc (some (H.length, 0)) (fl ls i).length) ∧ r 25 = .val (.slc (some (id, 0)) ls.length) ∧ r 26 = .val (.int .i64 ls.length) ∧ r 27 = .val (.int .i64 i)) ?_ ls.length _ ⟨0, _, zerosL LTstr N, by simp, by rw [fl_zero]; rfl, by simp [zerosL_str, fl_zero], by simp [fl_zero], by simp [r0], by simp, by simp⟩
  clear hik r0 r3 r9 r10 r11 r
  rintro k σ ⟨i, r, zs, hik, rfl, hzs, r6, r25, r26, r27⟩
  cases k with
  | zero =>
   have hi : i = ls.length := by omega
   subst hi
   have hz0 : zs = [] := List.length_eq_zero_iff.1 (by omega)
   subst hz0
   rw [List.append_nil]
   have hgs : Gs H (H ++ [.mk true 1 ((fl ls ls.length).map V.str)]) (.slc (some (H.length, 0)) (fl ls ls.length).length) ((fl ls ls.length).map V.str) := ⟨_, H.length, rfl, Nat.le_refl _, get_last, by simp⟩
   simp [r6, r25, r26, r27]
   exact .inr hgs
  | succ k =>
   have hi : i < ls.length := by omega
   obtain ⟨w, hwi⟩ : ∃ w, ws[i]? = some w := ⟨ws[i]'(by omega), List.getElem?_eq_getElem _⟩
   obtain ⟨l, hli⟩ : ∃ l, ls[i]? = some l := ⟨ls[i], List.getElem?_eq_getElem hi⟩
   have hs := hw i w l hwi hli
   have hf := fl_step hli
   have hfl := congrArg List.length hf
   rw [List.length_append] at hfl
   have hle := fl_le (ls := ls) (i := i + 1)
   have ld := load1 (H := H ++ [.mk true 1 ((fl ls i).map V.str ++ zs)]) (up_append _ _ h0) hwi
   obtain ⟨p, rfl, hc, _⟩ := strs_cells (T := [.mk true 1 ((fl ls i).map V.str ++ zs)]) hs
   have hw1 : IntKind.i64.wrap ((i : Int) + 1) = ((i : Int) + 1) := wrap_i64 (by omega) (by omega)
   have hnc : newCells LTstr (H ++ [.mk true 1 ((fl ls i).map V.str ++ zs)]) (.slc p l.length) = some (l.map V.str, l.length) := by
    simp only [newCells, Nat.mul_one, hc]
   by_cases hl0 : l.length = 0
   ·have hl1 : l = [] := List.length_eq_zero_iff.1 hl0
    subst hl1
    have ha := app_none (s := .slc (some (H.length, 0)) (fl ls i).length) hnc ⟨_, _, .inl rfl⟩
    rw [List.append_nil] at hf
    rw [← hf] at ha ld r6 hzs ⊢
    simp at ld ha
    simp [r6, r25, r26, r27, hi, ld, elemT, ha, hw1]
    exact ⟨k, by omega, i + 1, by omega, _, zs, ⟨rfl, rfl⟩, by omega, by simp [r6], by simp [r25], by simp [r26], by simp⟩
   ·have ha := app_fill (H := H) (ds := (fl ls i).map V.str) (zs := zs) hnc (by simp) hl0 (by simp) (by omega)
    rw [List.length_map] at ha
    rw [← List.map_append, ← hf] at ha
    simp [r6, r25, r26, r27, hi, ld, elemT, ha, hw1]
    exact ⟨k, by omega, i + 1, by omega, _, zs.drop l.length, ⟨rfl, rfl⟩, by simp; omega, by simp; omega, by simp [r25], by simp [r26], by simp⟩
theorem strsOf_map : ∀ (l : List Str), strsOf (l.map V.str) = some l
 | [] => rfl
 | s :: l => by simp only [List.map_cons, strsOf, strsOf_map l]
def sorted (l : List Str) : List Str := l.mergeSort fun x y => decide (x ≤ y)
theorem sorted_len {l : List Str} : (sorted l).length = l.length := List.length_mergeSort l
theorem sorted_perm {l : List Str} : (sorted l).Perm l := List.mergeSort_perm l _
theorem prim_sort {G : List Ob} {id : Nat} {l : List Str} (h : G[id]? = some (.mk true 1 (l.map V.str))) (h0 : 0 < l.length) (hl : l.length ≤ 1000000) :
  callW C 311 [.slc (some (id, 0)) l.length] G = some (.tup [], G.set id (.mk true 1 ((sorted l).map V.str))) := by
 rw [callW_prim (pr := sortPrim) rfl]
 simp only [sortPrim, if_neg (show ¬ l.length = 0 by omega), h]
 rw [if_pos ⟨trivial, by simp, hl⟩]
 rw [List.drop_zero, List.take_of_length_le (by simp), strsOf_map]
 simp only
 congr 4
 unfold setRange
 simp [sorted]
def Apart (l : List Str) : Prop := ∀ (i : Nat) x, l[i]? = some x → l[i + 1]? ≠ some x
theorem keep_append {H G : List Ob} (h : ∀ q, q < H.length → G[q]? = H[q]?) (hl : H.length ≤ G.length) : ∃ T, G = H ++ T := by
 refine ⟨G.drop H.length, ?_⟩
 apply List.ext_getElem?
 intro q
 by_cases hq : q < H.length
 ·rw [h q hq, List.getElem?_append_left hq]
 ·rw [List.getElem?_append_right (by omega), List.getElem?_drop]
  congr 1
  omega
theorem gcH_leq {H H' : List Ob} {r : V} (h : H'.length = H.length) : gcH H H' r = H' := by
 unfold gcH
 split
 ·rename_i hc
  obtain ⟨⟨T, rfl⟩, _⟩ := hc
  simp at h
  rw [h, List.append_nil]
 ·rfl
def CpI (cs l : List Str) (k n : Nat) : Prop := (∀ j, n ≤ j + 1 → cs[j]? = l[j]?) ∧ ∀ x, x ∈ cs.take k ↔ x ∈ l.take n
theorem CpI.init {l : List Str} {k : Nat} {x : Str} (hx : l[k]? = some x) (hy : l[k - 1]? = some x) (hk : 1 ≤ k) : CpI l l k (k + 1) :=
 ⟨fun _ _ => rfl, fun z => by
  rw [take_get hx, List.mem_append, List.mem_singleton]
  have hm : x ∈ l.take k := List.mem_of_getElem? (i := k - 1) (by rw [List.getElem?_take_of_lt (by omega)]; exact hy)
  exact ⟨.inl, fun h => h.elim id fun e => e ▸ hm⟩⟩
theorem CpI.same {cs l : List Str} {k n : Nat} {a : Str} (h : CpI cs l k n) (ha : cs[n]? = some a) (hb : cs[n - 1]? = some a) (hn : 1 ≤ n) : CpI cs l k (n + 1) := by
 have ha' : l[n]? = some a := by rw [← h.1 n (by omega)]; exact ha
 have hb' : l[n - 1]? = some a := by rw [← h.1 (n - 1) (by omega)]; exact hb
 refine ⟨fun j hj => h.1 j (by omega), fun x => ?_⟩
 rw [h.2 x, take_get ha', List.mem_append, List.mem_singleton]
 have hm : a ∈ l.take n := List.mem_of_getElem? (i := n - 1) (by rw [List.getElem?_take_of_lt (by omega)]; exact hb')
 exact ⟨.inl, fun h => h.elim id fun e => e ▸ hm⟩
theorem CpI.next {cs l : List Str} {k n : Nat} {a : Str} (h : CpI cs l k n) (ha : cs[n]? = some a) (hk : k + 1 ≤ n) : CpI (cs.set k a) l (k + 1) (n + 1) := by
 have ha' : l[n]? = some a := by rw [← h.1 n (by omega)]; exact ha
 have hkl : k < cs.length := by have := (List.getElem?_eq_some_iff.1 ha).1; omega
 refine ⟨fun j hj => by rw [List.getElem?_set_ne (by omega)]; exact h.1 j (by omega), fun x => ?_⟩
 have e1 : (cs.set k a).take (k + 1) = cs.take k ++ [a] := by
  rw [take_get (List.getElem?_set_self hkl)]
  congr 1
  apply List.ext_getElem?
  intro j
  by_cases hj : j < k
  ·rw [List.getElem?_take_of_lt hj, List.getElem?_take_of_lt hj, List.getElem?_set_ne (by omega)]
  ·rw [List.getElem?_eq_none (by simp; omega), List.getElem?_eq_none (by simp; omega)]
 rw [e1, take_get ha', List.mem_append, List.mem_append, h.2 x]
def Cp (G : List Ob) (id k : Nat) (l : List Str) : Prop := ∃ cs : List Str, G[id]? = some (.mk true 1 (cs.map V.str)) ∧ cs.length = l.length ∧ k ≤ cs.length ∧ ∀ x, x ∈ cs.take k ↔ x ∈ l
theorem Cp.all {G : List Ob} {id : Nat} {l : List Str} (h : G[id]? = some (.mk true 1 (l.map V.str))) : Cp G id l.length l := ⟨l, h, rfl, Nat.le_refl _, by simp⟩
theorem zerosL_strs {n : Nat} : zerosL LTstr n = (List.replicate n ([] : Str)).map V.str := by
 induction n with
 | zero => rfl
 | succ n ih => simp [zerosL, List.replicate_succ] at ih ⊢
theorem Cp.end {G : List Ob} {id k n : Nat} {cs l : List Str} (h : CpI cs l k n) (hn : n = l.length) (hc : cs.length = l.length) (hk : k ≤ l.length) (hid : id < G.length) : Cp (G.set id (.mk true 1 (setRange (cs.map V.str) k (zerosL LTstr (l.length - k))))) id k l := by
 refine ⟨cs.take k ++ List.replicate (l.length - k) [], ?_, by simp; omega, by simp; omega, fun x => ?_⟩
 ·rw [List.getElem?_set_self hid, zerosL_strs]
  congr 2
  unfold setRange
  rw [List.map_append, List.map_take, List.drop_of_length_le (by simp; omega), List.append_nil]
 ·rw [List.take_left' (by simp; omega), h.2 x, hn, List.take_length]
theorem l_Compact {G0 : List Ob} {id : Nat} {l : List Str} (h : G0[id]? = some (.mk true 1 (l.map V.str))) (hl : l.length ≤ 1000) :
  ∃ G' k, callW C 312 [.slc (some (id, 0)) l.length] G0 = some (.slc (some (id, 0)) k, G') ∧ G'.length = G0.length ∧ (∀ q, q ≠ id → G'[q]? = G0[q]?) ∧ (k = l.length ↔ Apart l) ∧ Cp G' id k l := by
 suffices hs : Ret C 312 [.slc (some (id, 0)) l.length] G0 fun w G' => ∃ k, w = .slc (some (id, 0)) k ∧ G'.length = G0.length ∧ (∀ q, q ≠ id → G'[q]? = G0[q]?) ∧ (k = l.length ↔ Apart l) ∧ Cp G' id k l by
  obtain ⟨w, G', hc, k, rfl, h1, h2, h3⟩ := hs
  exact ⟨G', k, hc, h1, h2, h3⟩
 have hcp := Cp.all h
 rw [op312]
 by_cases hl2 : (l.length : Int) < 2
 ·have ha : Apart l := fun i x _ hx => by
   have := (List.getElem?_eq_some_iff.1 hx).1
   omega
  simp [code312, Tryz.f312, hl2, ha, hcp]
 simp [code312, Tryz.f312, hl2]
 refine WP_loop (fun m σ => ∃ (k : Nat) (r : Nat → R), k + m = l.length ∧ σ = ⟨r, 0, G0⟩ ∧ r 0 = .val (.slc (some (id, 0)) l.length) ∧ r 3 = .val (.int .i64 k) ∧ 1 ≤ k ∧ ∀ i x, i + 1 < k → l[i]? = some x → l[i + 1]? ≠ some x) ?_ (l.length - 1) _ ⟨1, _, by omega, rfl, by simp, by simp, by omega, fun i x h => by omega⟩
 rintro m σ ⟨k, r, hkm, rfl, r0, r3, hk1, hall⟩
 cases m with
 | zero =>
  have hk : k = l.length := by omega
  subst hk
  have ha : Apart l := fun i x hx hx' => hall i x (List.getElem?_eq_some_iff.1 hx').1 hx hx'
  simp [r0, r3, ha, hcp]
 | succ m =>
  have hk : k < l.length := by omega
  have hkI : (k : Int) < l.length := by omega
  obtain ⟨x, hx⟩ : ∃ c, l[k]? = some c := ⟨l[k], by simp [hk]⟩
  obtain ⟨y, hy⟩ : ∃ c, l[k - 1]? = some c := ⟨l[k - 1]'(by omega), by simp⟩
  have hw : IntKind.i64.wrap ((k : Int) + 1) = ((k : Int) + 1) := wrap_i64 (by omega) (by omega)
  have hw1 : IntKind.i64.wrap ((k : Int) - 1) = ((k - 1 : Nat) : Int) := by rw [wrap_i64 (by omega) (by omega)]; omega
  have hk' : ((k - 1 : Nat) : Int) < l.length := by omega
  have hk'' : k - 1 < l.length := by omega
  have ldx := load1 (o := k) (v := .str x) h (by simp [hx])
  have ldy := load1 (o := k - 1) (v := .str y) h (by simp [hy])
  by_cases hxy : x = y
  rotate_left
  ·simp [r0, r3, hk, hk'', ldx, ldy, hw, hw1, hxy, regionL_none]
   refine ⟨m, by omega, k + 1, by omega, by omega, by omega, fun i z hi hz => ?_⟩
   by_cases hik : i + 1 = k
   ·have : i = k - 1 := by omega
    subst this
    rw [hy] at hz
    cases hz
    rw [hik, hx]
    simpa using hxy
   ·exact hall i z (by omega) hz
  have hna : ¬ Apart l := fun ha => ha (k - 1) y hy (by rw [show k - 1 + 1 = k by omega, hx, hxy])
  have hst : strideIs G0 id 1 = true := by simp [strideIs, h]
  have hle : k ≤ l.length := by omega
  simp [r0, r3, hk, hk'', hle, ldx, ldy, hw1, hxy, hst, regionL_none]
  refine WP_loop (fun m σ => ∃ (k2 k' : Nat) (r : Nat → R) (G : List Ob) (cs : List Str), k2 + m = l.length - k ∧ σ = ⟨r, 0, G⟩ ∧ r 0 = .val (.slc (some (id, 0)) l.length) ∧ r 3 = .val (.int .i64 k') ∧ r 4 = .val (.slc (some (id, k)) (l.length - k)) ∧ r 5 = .val (.int .i64 k2) ∧ 1 ≤ k2 ∧ k' + 1 ≤ k + k2 ∧
   G.length = G0.length ∧ (∀ q, q ≠ id → G[q]? = G0[q]?) ∧ G[id]? = some (.mk true 1 (cs.map V.str)) ∧ cs.length = l.length ∧ CpI cs l k' (k + k2)) ?_ (l.length - k - 1) _ ⟨1, k, _, G0, l, by omega, rfl, by simp [r0], by simp [r3], by simp, by simp, by omega, by omega, rfl, fun _ _ => rfl, h, rfl, CpI.init hx (hxy ▸ hy) hk1⟩
  clear r0 r3 r hst
  rintro m2 σ ⟨k2, k', r, G, cs, hkm2, rfl, r0, r3, r4, r5, hk2, hkk, hG1, hG2, hG3, hcs, hci⟩
  have hst : strideIs G id 1 = true := by simp [strideIs, hG3]
  have hid : id < G.length := (List.getElem?_eq_some_iff.1 hG3).1
  cases m2 with
  | zero =>
   have hk2' : ((l.length - k : Nat) : Int) = k2 := by omega
   have hk2'' : l.length - k = k2 := by omega
   have hlt : k' < l.length := by omega
   have hle' : k' ≤ l.length := by omega
   have hnz : ¬ (l.length - k' = 0) := by omega
   have hwa : ∀ r c, writeAt ⟨r, c, G⟩ (.hp id k') (zerosL LTstr (l.length - k')) = some ⟨r, c, G.set id (.mk true 1 (setRange (cs.map V.str) k' (zerosL LTstr (l.length - k'))))⟩ := by
    intro r c
    simp only [writeAt, hG3]
    rw [if_pos (by rw [zerosL_str, List.length_map]; omega)]
   have hst2 : ∀ o, strideIs (G.set id (.mk true 1 o)) id 1 = true := fun o => by simp [strideIs, hid]
   have hne : ¬ (k' = l.length) := by omega
   have hend := Cp.end (G := G) hci (by omega) hcs hle' hid
   have hgl : ∀ o w, gcH G0 (G.set id o) w = G.set id o := fun o w => gcH_leq (by rw [List.length_set]; exact hG1)
   simp [r0, r3, r4, r5, hk2'', hle', hst, elemT, hnz, hwa, hst2, hgl, -setRange]
   refine ⟨hG1, fun q hq => ?_, ⟨fun h => absurd h hne, fun h => absurd h hna⟩, hend⟩
   rw [List.getElem?_set_ne (Ne.symm hq)]
   exact hG2 q hq
  | succ m2 =>
   have hlt : k2 < l.length - k := by omega
   obtain ⟨a, ha⟩ : ∃ c, cs[k + k2]? = some c := ⟨cs[k + k2]'(by omega), by simp⟩
   obtain ⟨b, hb⟩ : ∃ c, cs[k + (k2 - 1)]? = some c := ⟨cs[k + (k2 - 1)]'(by omega), by simp⟩
   have ld1 := load1 (o := k + k2) (v := .str a) hG3 (by simp [ha])
   have ld2 := load1 (o := k + (k2 - 1)) (v := .str b) hG3 (by simp [hb])
   have hw2 : IntKind.i64.wrap ((k2 : Int) - 1) = ((k2 - 1 : Nat) : Int) := by rw [wrap_i64 (by omega) (by omega)]; omega
   have hw3 : IntKind.i64.wrap ((k2 : Int) + 1) = ((k2 : Int) + 1) := wrap_i64 (by omega) (by omega)
   have hw4 : IntKind.i64.wrap ((k' : Int) + 1) = ((k' : Int) + 1) := wrap_i64 (by omega) (by omega)
   have hlt2 : k2 - 1 < l.length - k := by omega
   have hlt3 : k' < l.length := by omega
   by_cases hab : a = b
   ·simp [r0, r3, r4, r5, hlt, hlt2, ld1, ld2, hw2, hw3, hab, regionL_none]
    exact ⟨m2, by omega, k2 + 1, by omega, k', _, G, ⟨rfl, rfl⟩, by simp [r0], by simp [r3], by simp [r4], by simp, by omega, by omega, hG1, hG2, cs, hG3, hcs, hci.same ha (by rw [show k + k2 - 1 = k + (k2 - 1) by omega, hab]; exact hb) (by omega)⟩
   ·have st := store1 (v := .str a) (o := k') hG3 (by simp; omega) rfl rfl
    simp [r0, r3, r4, r5, hlt, hlt2, hlt3, ld1, ld2, hw2, hw3, hw4, hab, regionL_none, st]
    exact ⟨m2, by omega, k2 + 1, by omega, k' + 1, _, _, ⟨rfl, rfl⟩, by simp [r0], by simp, by simp [r4], by simp, by omega, by omega, by simpa using hG1, fun q hq => by rw [List.getElem?_set_ne (Ne.symm hq)]; exact hG2 q hq, cs.set k' a, by rw [List.getElem?_set_self hid, List.map_set], by simpa using hcs, hci.next ha (by omega)⟩
theorem nodup_apart {l : List Str} (h : l.Pairwise fun a b => a ≤ b) : Apart l ↔ l.Nodup := by
 constructor
 ·intro ha
  induction l with
  | nil => exact List.nodup_nil
  | cons x l ih =>
   rw [List.pairwise_cons] at h
   rw [List.nodup_cons]
   have ha' : Apart l := fun i y hy => ha (i + 1) y (by simpa using hy)
   refine ⟨fun hx => ?_, ih h.2 ha'⟩
   cases l with
   | nil => cases hx
   | cons y l =>
    have hxy : x ≠ y := fun he => ha 0 x rfl (by simp [he])
    have h1 : x ≤ y := h.1 y List.mem_cons_self
    rcases List.mem_cons.1 hx with rfl | hx
    ·exact hxy rfl
    ·have h2 : y ≤ x := (List.pairwise_cons.1 h.2).1 x hx
     exact hxy (List.le_antisymm h1 h2)
 ·intro hn i x h1 h2
  obtain ⟨hi, h1⟩ := List.getElem?_eq_some_iff.1 h1
  obtain ⟨hi2, h2⟩ := List.getElem?_eq_some_iff.1 h2
  exact List.pairwise_iff_getElem.1 hn i (i + 1) hi hi2 (by omega) (h1.trans h2.symm)
theorem sorted_pair {l : List Str} : (sorted l).Pairwise fun a b => a ≤ b := by
 have := List.pairwise_mergeSort (le := fun x y : Str => decide (x ≤ y)) (fun a b c h1 h2 => by simp at h1 h2 ⊢; exact List.le_trans h1 h2) (fun a b => by simp; exact List.le_total a b) l
 exact this.imp fun h => by simpa using h
theorem strs_max {H : List Ob} {v : V} {l : List Str} (h : AStrs H v l) : ∀ s ∈ l, s.length ≤ maxLen := fun s hs => by
 obtain ⟨j, hj, rfl⟩ := List.getElem_of_mem hs
 obtain ⟨_, _, _, _, h⟩ := strs_idx h (List.getElem?_eq_getElem hj)
 exact h
def NewP (b : Nat) (p : Option (Nat × Nat)) : Prop := ∀ q o, p = some (q, o) → b ≤ q
def Some1 (G : List Ob) (w : V) (l : List Str) : Prop := ∃ l', AStrs G w l' ∧ (∀ x, x ∈ l' ↔ x ∈ l) ∧ l'.length ≤ l.length
theorem Some1.nil {G : List Ob} : Some1 G (.slc none 0) [] := ⟨[], At_slice.2 ⟨_, _, rfl, rfl, by simp, .inl ⟨rfl, rfl⟩⟩, fun _ => Iff.rfl, Nat.le_refl _⟩
theorem Some1.none {G : List Ob} {id : Nat} {cs : List V} (h : G[id]? = some (.mk true 1 cs)) : Some1 G (.slc (some (id, 0)) 0) [] := ⟨[], At_slice.2 ⟨_, _, rfl, rfl, by simp, .inr ⟨id, 0, true, cs, rfl, h, by simp, fun i x hx => by simp at hx⟩⟩, fun _ => Iff.rfl, Nat.le_refl _⟩
theorem strs_pre {G : List Ob} {id k : Nat} {own : Bool} {cs : List Str} (h : G[id]? = some (.mk own 1 (cs.map V.str))) (hk : k ≤ cs.length) (hl : k ≤ maxLen) (hs : ∀ s ∈ cs.take k, s.length ≤ maxLen) : AStrs G (.slc (some (id, 0)) k) (cs.take k) := by
 refine At_slice.2 ⟨_, _, rfl, rfl, by simp; omega, .inr ⟨id, 0, own, cs.map V.str, by simp; omega, h, by simp; omega, fun i x hx => ?_⟩⟩
 rw [List.getElem?_map] at hx
 obtain ⟨s, hs', rfl⟩ := Option.map_eq_some_iff.1 hx
 have hi : i < (cs.take k).length := (List.getElem?_eq_some_iff.1 hs').1
 have hi2 : i < cs.length := by rw [List.length_take] at hi; omega
 have hc : cs[i]? = some s := by rw [List.length_take] at hi; rw [List.getElem?_take_of_lt (by omega)] at hs'; exact hs'
 refine At_str.2 ⟨s, ?_, rfl, hs s (List.mem_of_getElem? hs')⟩
 rw [Sh.size_str, Nat.zero_add, Nat.mul_one, List.drop_eq_getElem_cons (by simpa using hi2)]
 obtain ⟨_, rfl⟩ := List.getElem?_eq_some_iff.1 hc
 simp
theorem Some1.of {G : List Ob} {id k : Nat} {l : List Str} (h : Cp G id k (sorted l)) (hb : l.length ≤ 1000) (hm : ∀ s ∈ l, s.length ≤ maxLen) : Some1 G (.slc (some (id, 0)) k) l := by
 obtain ⟨cs, h1, h0, h2, h3⟩ := h
 rw [sorted_len] at h0
 have h4 : ∀ x, x ∈ cs.take k ↔ x ∈ l := fun x => (h3 x).trans sorted_perm.mem_iff
 exact ⟨cs.take k, strs_pre h1 h2 (by unfold maxLen; omega) fun s hs => hm s ((h4 s).1 hs), h4, by simp; omega⟩
theorem i_unionM {H : List Ob} {id : Nat} {own : Bool} {va : V} {l : List Str} (h0 : H[id]? = some (.mk own 1 [va])) (hw : AStrs H va l) (hb : l.length ≤ 1000) :
  ∃ T p n, callW C 236 [.slc (some (id, 0)) 1] H = some (.slc p n, H ++ T) ∧ (n = l.length ↔ l.Nodup) ∧ Some1 (H ++ T) (.slc p n) l ∧ NewP H.length p := by
 suffices hs : Ret C 236 [.slc (some (id, 0)) 1] H fun q H' => ∃ T p n, q = .slc p n ∧ H' = H ++ T ∧ (n = l.length ↔ l.Nodup) ∧ Some1 H' q l ∧ NewP H.length p by
  obtain ⟨q, H', hc, T, p, n, rfl, rfl, hr⟩ := hs
  exact ⟨T, p, n, hc, hr⟩
 have hmx := strs_max hw
 rw [op236]
 have hfl : fl [l] 1 = l := by simp [fl]
 obtain ⟨T, w, c1, hown⟩ := l_Concat (ls := [l]) h0 rfl (fun i w l' h1 h2 => by
  cases i with
  | zero => cases h1; cases h2; exact hw
  | succ i => simp at h1) (by simp only [List.length_singleton, hfl]; exact hb) (by simp)
 simp only [List.length_singleton, hfl] at c1 hown
 rcases hown with ⟨rfl, rfl⟩ | hgs
 ·have c2 : callW C 311 [.slc none 0] (H ++ T) = some (.tup [], H ++ T) := callW_prim (pr := sortPrim) rfl
  have c3 : callW C 312 [.slc none 0] (H ++ T) = some (.slc none 0, H ++ T) := by
   apply Ret.eq
   rw [op312]
   simp [code312, Tryz.f312]
  simp [code236, Tryz.f236, c1, c2, c3]
  exact ⟨[], _, _, ⟨rfl, rfl⟩, by simp [gcH, ext_append, lowV], rfl, Some1.nil, fun _ _ h => by cases h⟩
 ·obtain ⟨T', id', hT, h1, h2, rfl⟩ := hgs
  have hT' := List.append_cancel_left hT
  subst hT'
  rw [List.length_map] at c1
  have hid : id' < (H ++ T).length := (List.getElem?_eq_some_iff.1 h2).1
  by_cases hl0 : l.length = 0
  ·have : l = [] := List.length_eq_zero_iff.1 hl0
   subst this
   have c2 : callW C 311 [.slc (some (id', 0)) 0] (H ++ T) = some (.tup [], H ++ T) := callW_prim (pr := sortPrim) rfl
   have c3 : callW C 312 [.slc (some (id', 0)) 0] (H ++ T) = some (.slc (some (id', 0)) 0, H ++ T) := by
    apply Ret.eq
    rw [op312]
    simp [code312, Tryz.f312]
   have hgc : gcH H (H ++ T) (.slc (some (id', 0)) 0) = H ++ T := Gs.gc ⟨T, id', rfl, h1, h2, rfl⟩
   simp at c1
   simp [code236, Tryz.f236, c1, c2, c3, hgc]
   exact ⟨_, _, _, ⟨rfl, rfl⟩, rfl, rfl, Some1.none (by simpa using h2), fun _ _ h => by cases h; exact h1⟩
  ·have c2 := prim_sort h2 (by omega) (by omega)
   obtain ⟨G', k, c3, k1, k2, k3, k4⟩ := l_Compact (l := sorted l) (G0 := (H ++ T).set id' (.mk true 1 ((sorted l).map V.str))) (id := id') (by rw [List.getElem?_set_self hid]) (by rw [sorted_len]; exact hb)
   rw [sorted_len] at c3 k3
   rw [List.length_set] at k1
   obtain ⟨T2, hT2⟩ : ∃ T2, G' = H ++ T2 := keep_append (fun q hq => by
    rw [k2 q (by omega), List.getElem?_set_ne (by omega), List.getElem?_append_left hq]) (by rw [k1]; simp)
   subst hT2
   have hgc : ∀ n, gcH H (H ++ T2) (.slc (some (id', 0)) n) = H ++ T2 := fun n => by
    unfold gcH
    rw [if_neg]
    rintro ⟨_, own, es, cells, h⟩
    have := (List.getElem?_eq_some_iff.1 h).1
    omega
   have hnd : k = l.length ↔ l.Nodup := by
    rw [k3, nodup_apart sorted_pair]
    exact sorted_perm.nodup_iff
   simp [code236, Tryz.f236, c1, c2, c3, hgc]
   exact ⟨T2, _, _, ⟨rfl, rfl⟩, rfl, hnd, Some1.of k4 hb hmx, fun _ _ h => by cases h; exact h1⟩
theorem i_union {H : List Ob} {id : Nat} {own : Bool} {va : V} {l : List Str} (h0 : H[id]? = some (.mk own 1 [va])) (hw : AStrs H va l) (hb : l.length ≤ 1000) :
  ∃ T p n, callW C 236 [.slc (some (id, 0)) 1] H = some (.slc p n, H ++ T) ∧ (n = l.length ↔ l.Nodup) := by
 obtain ⟨T, p, n, h1, h2, _⟩ := i_unionM h0 hw hb
 exact ⟨T, p, n, h1, h2⟩
end Go.Proofs.Try1
end
