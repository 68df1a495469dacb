/- What functions of the program compute, over the interpreter. Conditions: none but those that each theorem names. -/
import Derived.Test.YtecdehhdbbckoaaGreatDoorFnB
import Derived.Test.YtecdehhdbbckoaaGreatDoorLiteF

namespace Go.Proofs.Try1
open Go Go.Lite
set_option linter.unusedSimpArgs false
set_option linter.unusedVariables false

set_option maxRecDepth 10000 in
theorem s_Dn {H : List Ob} {v : V} {l : List PRdn} (h : ARdns H v l) : callW C 85 [v] H = some (.bool (dec (DnOk l)), H) := by
  apply Ret.dec
  rw [op85]
  have hb : l.length ≤ 9223372036854775807 := h.bound
  simp [code85, Tryz.f85]
  refine WP_loop (fun k σ => ∃ (i : Nat) (r : Nat → R), i + k = l.length ∧ σ = ⟨r, 0, H⟩ ∧ r 0 = .val v ∧ r 3 = .val (.int .i64 i) ∧ ∀ j x, j < i → l[j]? = some x → NameOk x.attr ∧ ValueOk x.value) ?_ l.length _ ⟨0, _, by simp, rfl, by simp, by simp, by simp⟩
  rintro k σ ⟨i, r, hik, rfl, r0, r3, hall⟩
  cases k with
  | zero =>
    have hi : i = l.length := by omega
    subst hi
    have hx := at_all (P := fun j (x : PRdn) => NameOk x.attr ∧ ValueOk x.value) hall
    by_cases g : l.length ≤ 6
    · have g' : (l.length : Int) ≤ 6 := by omega
      have hv : DnOk l := ⟨hx, g⟩
      simp [r0, r3, h.len, g', hv]
    · have g' : ¬ (l.length : Int) ≤ 6 := by omega
      have hv : ¬ DnOk l := fun h => g h.2
      simp [r0, r3, h.len, g', hv]
  | succ k =>
    have hi : i < l.length := by omega
    obtain ⟨x, hx⟩ : ∃ c, l[i]? = some c := ⟨l[i], by simp [hi]⟩
    have hw : IntKind.i64.wrap ((i : Int) + 1) = ((i : Int) + 1) := wrap_i64 (by omega) (by omega)
    obtain ⟨id, o, e1, l0, l1, _, _⟩ := rdns_idx h hx
    have c1 := s_Name (t := x.attr) (H := H)
    by_cases g1 : NameOk x.attr
    · rw [dec_pos g1] at c1
      have c2 := s_Value (t := x.value) (H := H)
      by_cases g2 : ValueOk x.value
      · rw [dec_pos g2] at c2
        simp [r0, r3, hi, h.len, e1, l0, l1, c1, c2, hw]
        exact ⟨k, by omega, i + 1, by omega, by omega, at_step (P := fun j (x : PRdn) => NameOk x.attr ∧ ValueOk x.value) hall hx ⟨g1, g2⟩⟩
      · rw [dec_neg g2] at c2
        have hn : ¬ DnOk l := fun hd => g2 (hd.1 i x hx).2
        simp [r0, r3, hi, h.len, e1, l0, l1, c1, c2, hn]
    · rw [dec_neg g1] at c1
      have hn : ¬ DnOk l := fun hd => g1 (hd.1 i x hx).1
      simp [r0, r3, hi, h.len, e1, l0, l1, c1, hn]

set_option maxRecDepth 10000 in
theorem s_Has {H : List Ob} {v : V} {l : List Str} {t : Str} (h : AStrs H v l) : callW C 137 [v, .str t] H = some (.bool (dec (t ∈ l)), H) := by
  apply Ret.dec
  rw [op137]
  have hb : l.length ≤ 9223372036854775807 := h.bound
  simp [code137, Tryz.f137]
  refine WP_loop (fun k σ => ∃ (i : Nat) (r : Nat → R), i + k = l.length ∧ σ = ⟨r, 0, H⟩ ∧ r 0 = .val v ∧ r 1 = .val (.str t) ∧ r 5 = .val (.int .i64 i) ∧ ∀ j x, j < i → l[j]? = some x → x ≠ t) ?_ l.length _ ⟨0, _, by simp, rfl, by simp, by simp, by simp, by simp⟩
  rintro k σ ⟨i, r, hik, rfl, r0, r1, r5, hall⟩
  cases k with
  | zero =>
    have hi : i = l.length := by omega
    subst hi
    have hx := at_all (P := fun j (x : Str) => x ≠ t) hall
    have hn : t ∉ l := fun hm => by
      obtain ⟨j, hj, e⟩ := List.getElem_of_mem hm
      exact hx j _ (List.getElem?_eq_getElem hj) e
    simp [r0, r1, r5, h.len, hn]
  | succ k =>
    have hi : i < l.length := by omega
    obtain ⟨x, hx⟩ : ∃ c, l[i]? = some c := ⟨l[i], by simp [hi]⟩
    have hw : IntKind.i64.wrap ((i : Int) + 1) = ((i : Int) + 1) := wrap_i64 (by omega) (by omega)
    obtain ⟨id, o, e1, l0, _⟩ := strs_idx h hx
    by_cases g1 : x = t
    · have hm : t ∈ l := g1 ▸ List.mem_of_getElem? hx
      subst g1
      simp [r0, r1, r5, hi, h.len, e1, l0, hm]
    · simp [r0, r1, r5, hi, h.len, e1, l0, g1, hw]
      exact ⟨k, by omega, i + 1, by omega, by omega, at_step (P := fun j (x : Str) => x ≠ t) hall hx g1⟩

set_option maxRecDepth 10000 in
theorem s_At {H : List Ob} {v v' : V} {l : List PAttr} {t : Str} (h : AAttrs H v l) (ho : cellsOf v' = some [v']) : ∃ r : Int, callW C 45 [.agg [v', v], .str t] H = some (.int .i64 r, H) ∧ FirstAt PAttr.name l t r := by
  suffices hs : Ret C 45 [.agg [v', v], .str t] H fun q H' => (∃ r : Int, q = .int .i64 r ∧ FirstAt PAttr.name l t r) ∧ H' = H by
    obtain ⟨q, H', hc, ⟨r, rfl, hr⟩, rfl⟩ := hs
    exact ⟨r, hc, hr⟩
  rw [op45]
  have hb : l.length ≤ 9223372036854775807 := h.bound
  simp [code45, Tryz.f45]
  refine WP_loop (fun k σ => ∃ (i : Nat) (r : Nat → R), i + k = l.length ∧ σ = ⟨r, 1, H⟩ ∧ r 1 = .val (.str t) ∧ r 2 = .box 0 [v', v] ∧ r 5 = .val (.int .i64 i) ∧ ∀ j x, j < i → l[j]? = some x → x.name ≠ t) ?_ l.length _ ⟨0, _, by simp, rfl, by simp, by simp, by simp, by simp⟩
  rintro k σ ⟨i, r, hik, rfl, r1, r2, r5, hall⟩
  cases k with
  | zero =>
    have hi : i = l.length := by omega
    subst hi
    have hx := at_all (P := fun j (x : PAttr) => x.name ≠ t) hall
    simp [r1, r2, r5, h.len]
    exact .inr ⟨hx, rfl⟩
  | succ k =>
    have hi : i < l.length := by omega
    obtain ⟨x, hx⟩ : ∃ c, l[i]? = some c := ⟨l[i], by simp [hi]⟩
    have hw : IntKind.i64.wrap ((i : Int) + 1) = ((i : Int) + 1) := wrap_i64 (by omega) (by omega)
    obtain ⟨id, o, w, e1, l0, l1, _⟩ := attrs_idx h hx
    by_cases g1 : x.name = t
    · simp [r1, r2, r5, hi, h.len, e1, l0, g1]
      exact .inl ⟨i, x, hx, g1, hall, rfl⟩
    · simp [r1, r2, r5, hi, h.len, e1, l0, g1, hw]
      exact ⟨k, by omega, i + 1, by omega, by omega, at_step (P := fun j (x : PAttr) => x.name ≠ t) hall hx g1⟩

set_option maxRecDepth 10000 in
theorem s_ClassAt {H : List Ob} {v : V} {l : List PClass} {t : Str} (h : AClasses H v l) : ∃ r : Int, callW C 98 [v, .str t] H = some (.int .i64 r, H) ∧ FirstAt PClass.name l t r := by
  suffices hs : Ret C 98 [v, .str t] H fun q H' => (∃ r : Int, q = .int .i64 r ∧ FirstAt PClass.name l t r) ∧ H' = H by
    obtain ⟨q, H', hc, ⟨r, rfl, hr⟩, rfl⟩ := hs
    exact ⟨r, hc, hr⟩
  rw [op98]
  have hb : l.length ≤ 9223372036854775807 := h.bound
  simp [code98, Tryz.f98]
  refine WP_loop (fun k σ => ∃ (i : Nat) (r : Nat → R), i + k = l.length ∧ σ = ⟨r, 0, H⟩ ∧ r 0 = .val v ∧ r 1 = .val (.str t) ∧ r 5 = .val (.int .i64 i) ∧ ∀ j x, j < i → l[j]? = some x → x.name ≠ t) ?_ l.length _ ⟨0, _, by simp, rfl, by simp, by simp, by simp, by simp⟩
  rintro k σ ⟨i, r, hik, rfl, r0, r1, r5, hall⟩
  cases k with
  | zero =>
    have hi : i = l.length := by omega
    subst hi
    have hx := at_all (P := fun j (x : PClass) => x.name ≠ t) hall
    simp [r0, r1, r5, h.len]
    exact .inr ⟨hx, rfl⟩
  | succ k =>
    have hi : i < l.length := by omega
    obtain ⟨x, hx⟩ : ∃ c, l[i]? = some c := ⟨l[i], by simp [hi]⟩
    have hw : IntKind.i64.wrap ((i : Int) + 1) = ((i : Int) + 1) := wrap_i64 (by omega) (by omega)
    obtain ⟨id, o, w1, w2, w3, e1, l0, _⟩ := classes_idx h hx
    by_cases g1 : x.name = t
    · simp [r0, r1, r5, hi, h.len, e1, l0, g1]
      exact .inl ⟨i, x, hx, g1, hall, rfl⟩
    · simp [r0, r1, r5, hi, h.len, e1, l0, g1, hw]
      exact ⟨k, by omega, i + 1, by omega, by omega, at_step (P := fun j (x : PClass) => x.name ≠ t) hall hx g1⟩

set_option maxRecDepth 10000 in
theorem s_Of {H : List Ob} {v v' : V} {l : List PAttr} {t : Str} (h : AAttrs H v l) (ho : cellsOf v' = some [v']) (ho' : isOne v' = true) : ∃ w, callW C 84 [.agg [v', v], .str t] H = some (w, H) ∧ AStrs H w (valsOf l t) := by
  obtain ⟨r, hc, hr⟩ := s_At (t := t) h ho
  suffices hs : Ret C 84 [.agg [v', v], .str t] H fun q H' => AStrs H q (valsOf l t) ∧ H' = H by
    obtain ⟨q, H', hc, hr, rfl⟩ := hs
    exact ⟨q, hc, hr⟩
  rw [op84]
  rcases hr.pos with ⟨k, a, h1, rfl, h2⟩ | ⟨rfl, h2⟩
  · obtain ⟨id, o, w, e1, l0, l1, _, hw, _⟩ := attrs_idx h h1
    have hv : valsOf l t = a.vals := by unfold valsOf; rw [h2]
    have hk : ¬ ((k : Int) < 0) := by omega
    simp [code84, Tryz.f84, hc, hk, e1, l1, hv]
    exact hw
  · have hv : valsOf l t = [] := by unfold valsOf; rw [h2]
    simp [code84, Tryz.f84, hc, hv]
    exact At_slice.2 ⟨_, _, rfl, rfl, by simp, .inl ⟨rfl, rfl⟩⟩
end Go.Proofs.Try1

namespace Go.Proofs.Try1
open Go Go.Lite
set_option linter.unusedSimpArgs false
set_option linter.unusedVariables false

theorem wrap_one : IntKind.i64.wrap 1 = 1 := rfl
attribute [simp] wrap_one

theorem LtS_dec {a b : Str} (h : LtS a b) : Op.bytesLess a b = true := h
theorem LtS_no {a b : Str} (h : ¬ LtS a b) : Op.bytesLess a b = false := by
  cases hb : Op.bytesLess a b with
  | false => rfl
  | true => exact absurd hb h

theorem lo_of {H : List Ob} {id o : Nat} {v : V} (h : ∀ T : LT, T.one → ∀ r c, loadAt T ⟨r, c, H⟩ (.hp id o) = some v) : id < H.length := by
  have := h ⟨.str, 1, 16, [.str []]⟩ one_str (fun _ => .val .undef) 0
  unfold loadAt cellsAt at this
  rw [if_neg (by decide)] at this
  cases hg : H[id]? with
  | none => simp only [hg] at this; cases this
  | some o => exact (List.getElem?_eq_some_iff.1 hg).1

set_option maxRecDepth 10000 in
set_option maxHeartbeats 4000000 in
theorem s_Names {H : List Ob} {v : V} {l : List Str} (h : AStrs H v l) : callW C 136 [v] H = some (.bool (dec (NamesOk l)), H) := by
  apply Ret.dec
  rw [op136]
  have hb : l.length ≤ 9223372036854775807 := h.bound
  simp [code136, Tryz.f136]
  refine WP_loop (fun k σ => ∃ (i : Nat) (r : Nat → R), i + k = l.length ∧ σ = ⟨r, 0, H⟩ ∧ r 0 = .val v ∧ r 3 = .val (.int .i64 i) ∧ ∀ j x, j < i → l[j]? = some x → NameOk x ∧ PrevLt (fun x => x) l j x) ?_ l.length _ ⟨0, _, by simp, rfl, by simp, by simp, by simp⟩
  rintro k σ ⟨i, r, hik, rfl, r0, r3, hall⟩
  cases k with
  | zero =>
    have hi : i = l.length := by omega
    subst hi
    have hx : NamesOk l := at_all (P := fun j (x : Str) => NameOk x ∧ PrevLt (fun x => x) l j x) hall
    simp [r0, r3, h.len, hx]
  | succ k =>
    have hi : i < l.length := by omega
    obtain ⟨x, hx⟩ : ∃ c, l[i]? = some c := ⟨l[i], by simp [hi]⟩
    have hw : IntKind.i64.wrap ((i : Int) + 1) = ((i : Int) + 1) := wrap_i64 (by omega) (by omega)
    obtain ⟨id, o, e1, l0, _⟩ := strs_idx h hx
    have c1 := s_Name (t := x) (H := H)
    have hstep := fun h => at_step (P := fun j (x : Str) => NameOk x ∧ PrevLt (fun x => x) l j x) hall hx h
    by_cases g1 : NameOk x
    · rw [dec_pos g1] at c1
      by_cases hi0 : i = 0
      · have := hstep ⟨g1, fun y hy => by omega⟩
        subst hi0
        simp at e1
        simp [r0, r3, hi, h.len, e1, l0, c1, regionL_none]
        exact ⟨k, by omega, 1, by omega, by omega, this⟩
      · have hip : 0 < i := by omega
        obtain ⟨y, hy⟩ : ∃ c, l[i - 1]? = some c := ⟨l[i - 1]'(by omega), by simp⟩
        obtain ⟨id', o', e1', l0', _⟩ := strs_idx h hy
        have hw1 : IntKind.i64.wrap ((i : Int) - 1) = ((i - 1 : Nat) : Int) := by rw [wrap_i64 (by omega) (by omega)]; omega
        by_cases g2 : LtS y x
        · have := hstep ⟨g1, fun z _ hz => by rw [hy] at hz; cases hz; exact g2⟩
          simp [r0, r3, hi, h.len, e1, l0, c1, e1', l0', hw, hw1, hip, LtS_dec g2, regionL_none]
          exact ⟨k, by omega, i + 1, by omega, by omega, this⟩
        · have hn : ¬ NamesOk l := fun hd => g2 ((hd i x hx).2 y hip hy)
          simp [r0, r3, hi, h.len, e1, l0, c1, e1', l0', hw, hw1, hip, LtS_no g2, regionL_none, hn]
    · rw [dec_neg g1] at c1
      have hn : ¬ NamesOk l := fun hd => g1 (hd i x hx).1
      simp [r0, r3, hi, h.len, e1, l0, c1, hn, regionL_none]

set_option maxRecDepth 10000 in
set_option maxHeartbeats 4000000 in
theorem s_Values {H : List Ob} {v : V} {l : List Str} (h : AStrs H v l) : callW C 130 [v] H = some (.bool (dec (ValuesOk l)), H) := by
  apply Ret.dec
  rw [op130]
  have hb : l.length ≤ 9223372036854775807 := h.bound
  simp [code130, Tryz.f130]
  refine WP_loop (fun k σ => ∃ (i : Nat) (r : Nat → R), i + k = l.length ∧ σ = ⟨r, 0, H⟩ ∧ r 0 = .val v ∧ r 3 = .val (.int .i64 i) ∧ ∀ j x, j < i → l[j]? = some x → ValueOk x ∧ PrevLt norm l j x) ?_ l.length _ ⟨0, _, by simp, rfl, by simp, by simp, by simp⟩
  rintro k σ ⟨i, r, hik, rfl, r0, r3, hall⟩
  cases k with
  | zero =>
    have hi : i = l.length := by omega
    subst hi
    have hx := at_all (P := fun j (x : Str) => ValueOk x ∧ PrevLt norm l j x) hall
    by_cases g1 : 1 ≤ l.length
    · have g1' : (1 : Int) ≤ (l.length : Int) := by omega
      by_cases g2 : l.length ≤ 4
      · have g2' : (l.length : Int) ≤ 4 := by omega
        have hv : ValuesOk l := ⟨hx, g1, g2⟩
        simp [r0, r3, h.len, g1', g2', hv]
      · have g2' : ¬ (l.length : Int) ≤ 4 := by omega
        have hv : ¬ ValuesOk l := fun h => g2 h.2.2
        simp [r0, r3, h.len, g1', g2', hv]
    · have g1' : ¬ (1 : Int) ≤ (l.length : Int) := by omega
      have hv : ¬ ValuesOk l := fun h => g1 h.2.1
      simp [r0, r3, h.len, g1', hv]
  | succ k =>
    have hi : i < l.length := by omega
    obtain ⟨x, hx⟩ : ∃ c, l[i]? = some c := ⟨l[i], by simp [hi]⟩
    have hw : IntKind.i64.wrap ((i : Int) + 1) = ((i : Int) + 1) := wrap_i64 (by omega) (by omega)
    obtain ⟨id, o, e1, l0, _⟩ := strs_idx h hx
    have c1 := s_Value (t := x) (H := H)
    have c2 := s_Norm (t := x) (H := H)
    have hstep := fun h => at_step (P := fun j (x : Str) => ValueOk x ∧ PrevLt norm l j x) hall hx h
    by_cases g1 : ValueOk x
    · rw [dec_pos g1] at c1
      by_cases hi0 : i = 0
      · have := hstep ⟨g1, fun y hy => by omega⟩
        subst hi0
        simp at e1
        simp [r0, r3, hi, h.len, e1, l0, c1]
        exact ⟨k, by omega, 1, by omega, by omega, this⟩
      · have hip : 0 < i := by omega
        obtain ⟨y, hy⟩ : ∃ c, l[i - 1]? = some c := ⟨l[i - 1]'(by omega), by simp⟩
        obtain ⟨id', o', e1', l0', _⟩ := strs_idx h hy
        have c3 := s_Norm (t := y) (H := H)
        have hw1 : IntKind.i64.wrap ((i : Int) - 1) = ((i - 1 : Nat) : Int) := by rw [wrap_i64 (by omega) (by omega)]; omega
        have hlo := lo_of l0
        by_cases g2 : LtS (norm y) (norm x)
        · have := hstep ⟨g1, fun z _ hz => by rw [hy] at hz; cases hz; exact g2⟩
          simp [r0, r3, hi, h.len, e1, l0, c1, c2, c3, e1', l0', hw, hw1, hip, hlo, LtS_dec g2]
          exact ⟨k, by omega, i + 1, by omega, by omega, this⟩
        · have hn : ¬ ValuesOk l := fun hd => g2 ((hd.1 i x hx).2 y hip hy)
          simp [r0, r3, hi, h.len, e1, l0, c1, c2, c3, e1', l0', hw, hw1, hip, hlo, LtS_no g2, hn]
    · rw [dec_neg g1] at c1
      have hn : ¬ ValuesOk l := fun hd => g1 (hd.1 i x hx).1
      simp [r0, r3, hi, h.len, e1, l0, c1, hn]
end Go.Proofs.Try1

namespace Go.Proofs.Try1
open Go Go.Lite
set_option linter.unusedSimpArgs false
set_option linter.unusedVariables false

set_option maxRecDepth 10000 in
set_option maxHeartbeats 4000000 in
theorem s_Attrs {H : List Ob} {v : V} {l : List PAttr} (h : AAttrs H v l) : callW C 86 [v] H = some (.bool (dec (AttrsOk l)), H) := by
  apply Ret.dec
  rw [op86]
  have hb : l.length ≤ 9223372036854775807 := h.bound
  simp [code86, Tryz.f86]
  refine WP_loop (fun k σ => ∃ (i : Nat) (r : Nat → R), i + k = l.length ∧ σ = ⟨r, 0, H⟩ ∧ r 0 = .val v ∧ r 3 = .val (.int .i64 i) ∧ ∀ j x, j < i → l[j]? = some x → NameOk x.name ∧ PrevLt PAttr.name l j x ∧ ValuesOk x.vals) ?_ l.length _ ⟨0, _, by simp, rfl, by simp, by simp, by simp⟩
  rintro k σ ⟨i, r, hik, rfl, r0, r3, hall⟩
  cases k with
  | zero =>
    have hi : i = l.length := by omega
    subst hi
    have hx := at_all (P := fun j (x : PAttr) => NameOk x.name ∧ PrevLt PAttr.name l j x ∧ ValuesOk x.vals) hall
    by_cases g : l.length ≤ 8
    · have g' : (l.length : Int) ≤ 8 := by omega
      have hv : AttrsOk l := ⟨hx, g⟩
      simp [r0, r3, h.len, g', hv]
    · have g' : ¬ (l.length : Int) ≤ 8 := by omega
      have hv : ¬ AttrsOk l := fun h => g h.2
      simp [r0, r3, h.len, g', hv]
  | succ k =>
    have hi : i < l.length := by omega
    obtain ⟨x, hx⟩ : ∃ c, l[i]? = some c := ⟨l[i], by simp [hi]⟩
    have hw : IntKind.i64.wrap ((i : Int) + 1) = ((i : Int) + 1) := wrap_i64 (by omega) (by omega)
    obtain ⟨id, o, w, e1, l0, l1, _, hvs, _⟩ := attrs_idx h hx
    have c1 := s_Name (t := x.name) (H := H)
    have c2 := s_Values hvs
    have hstep := fun h => at_step (P := fun j (x : PAttr) => NameOk x.name ∧ PrevLt PAttr.name l j x ∧ ValuesOk x.vals) hall hx h
    by_cases g1 : NameOk x.name
    rotate_left
    · rw [dec_neg g1] at c1
      have hn : ¬ AttrsOk l := fun hd => g1 (hd.1 i x hx).1
      simp [r0, r3, hi, h.len, e1, l0, c1, hn, regionL_none]
    rw [dec_pos g1] at c1
    by_cases hi0 : i = 0
    · have hpv : PrevLt PAttr.name l i x := fun y hy => by omega
      by_cases g3 : ValuesOk x.vals
      · rw [dec_pos g3] at c2
        have := hstep ⟨g1, hpv, g3⟩
        subst hi0
        simp at e1
        simp [r0, r3, hi, h.len, e1, l0, l1, c1, c2, regionL_none]
        exact ⟨k, by omega, 1, by omega, by omega, this⟩
      · rw [dec_neg g3] at c2
        have hn : ¬ AttrsOk l := fun hd => g3 (hd.1 i x hx).2.2
        subst hi0
        simp at e1
        simp [r0, r3, hi, h.len, e1, l0, l1, c1, c2, regionL_none, hn]
    · have hip : 0 < i := by omega
      obtain ⟨y, hy⟩ : ∃ c, l[i - 1]? = some c := ⟨l[i - 1]'(by omega), by simp⟩
      obtain ⟨id', o', w', e1', l0', _⟩ := attrs_idx h hy
      have hw1 : IntKind.i64.wrap ((i : Int) - 1) = ((i - 1 : Nat) : Int) := by rw [wrap_i64 (by omega) (by omega)]; omega
      by_cases g2 : LtS y.name x.name
      · have hpv : PrevLt PAttr.name l i x := fun z _ hz => by rw [hy] at hz; cases hz; exact g2
        by_cases g3 : ValuesOk x.vals
        · rw [dec_pos g3] at c2
          have := hstep ⟨g1, hpv, g3⟩
          simp [r0, r3, hi, h.len, e1, l0, l1, c1, c2, e1', l0', hw, hw1, hip, LtS_dec g2, regionL_none]
          exact ⟨k, by omega, i + 1, by omega, by omega, this⟩
        · rw [dec_neg g3] at c2
          have hn : ¬ AttrsOk l := fun hd => g3 (hd.1 i x hx).2.2
          simp [r0, r3, hi, h.len, e1, l0, l1, c1, c2, e1', l0', hw, hw1, hip, LtS_dec g2, regionL_none, hn]
      · have hn : ¬ AttrsOk l := fun hd => g2 ((hd.1 i x hx).2.1 y hip hy)
        simp [r0, r3, hi, h.len, e1, l0, c1, e1', l0', hw, hw1, hip, LtS_no g2, regionL_none, hn]

set_option maxRecDepth 10000 in
theorem s_Entry {H : List Ob} {v w : V} {e : PEntry} (h1 : ARdns H v e.dn) (h2 : AAttrs H w e.attrs) : callW C 36 [.agg [v, w]] H = some (.bool (dec (EntryOk e)), H) := by
  apply Ret.dec
  rw [op36]
  have c1 := s_Dn h1
  have c2 := s_Attrs h2
  by_cases g0 : 0 < e.dn.length
  rotate_left
  · have hn : ¬ EntryOk e := fun h => g0 h.1
    have g0' : e.dn.length = 0 := by omega
    simp [code36, Tryz.f36, h1.len, g0', hn, h1.one, h2.one]
  by_cases g1 : DnOk e.dn
  rotate_left
  · rw [dec_neg g1] at c1
    have hn : ¬ EntryOk e := fun h => g1 h.2.1
    simp [code36, Tryz.f36, h1.len, g0, c1, hn, h1.one, h2.one]
  rw [dec_pos g1] at c1
  by_cases g2 : AttrsOk e.attrs
  · rw [dec_pos g2] at c2
    have hn : EntryOk e := ⟨g0, g1, g2⟩
    simp [code36, Tryz.f36, h1.len, g0, c1, c2, hn, h1.one, h2.one]
  · rw [dec_neg g2] at c2
    have hn : ¬ EntryOk e := fun h => g2 h.2.2
    simp [code36, Tryz.f36, h1.len, g0, c1, c2, hn, h1.one, h2.one]
end Go.Proofs.Try1
