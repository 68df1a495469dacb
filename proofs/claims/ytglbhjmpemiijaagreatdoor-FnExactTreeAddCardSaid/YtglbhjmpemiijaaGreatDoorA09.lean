/- Part 09 of the proof of a law: the interpreter, its soundness, and what functions of the program compute over it. Conditions: none but those that each theorem names. -/
import Derived.Test.YtglbhjmpemiijaaGreatDoorA08
import Derived.Test.YtglbhjmpemiijaaGreatDoorA07
import Derived.Test.YtglbhjmpemiijaaGreatDoorA04

section
namespace Go.Proofs.Try1
open Go Go.Lite
set_option linter.unusedSimpArgs false
set_option linter.unusedVariables false

set_option maxRecDepth 10000 in
theorem s_Dn {H : List Ob} {v : V} {l : List PRdn} (h : ARdns H v l) : callW C 156 [v] H = some (.bool (dec (DnOk l)), H) := by
  apply Ret.dec
  rw [op156]
  have hb : l.length ≤ 9223372036854775807 := h.bound
  simp [code156, Tryz.f156]
  refine WP_loop (fun k σ => ∃ (i : Nat) (r : Nat → R), i + k = l.length ∧ σ = ⟨r, 0, H⟩ ∧ r 0 = .val v ∧ r 3 = .val (.int .i64 i) ∧ ∀ j x, j < i → l[j]? = some x → NameOk x.attr ∧ ValueOk x.value) ?_ l.length _ ⟨0, _, by simp, rfl, by simp, by simp, by simp⟩
  rintro k σ ⟨i, r, hik, rfl, r0, r3, hall⟩
  cases k with
  | zero =>
    have hi : i = l.length := by omega
    subst hi
    have hx := at_all (P := fun j (x : PRdn) => NameOk x.attr ∧ ValueOk x.value) hall
    by_cases g : l.length ≤ 6
    · have g' : (l.length : Int) ≤ 6 := by omega
      have hv : DnOk l := ⟨hx, g⟩
      simp [r0, r3, h.len, g', hv]
    · have g' : ¬ (l.length : Int) ≤ 6 := by omega
      have hv : ¬ DnOk l := fun h => g h.2
      simp [r0, r3, h.len, g', hv]
  | succ k =>
    have hi : i < l.length := by omega
    obtain ⟨x, hx⟩ : ∃ c, l[i]? = some c := ⟨l[i], by simp [hi]⟩
    have hw : IntKind.i64.wrap ((i : Int) + 1) = ((i : Int) + 1) := wrap_i64 (by omega) (by omega)
    obtain ⟨id, o, e1, l0, l1, _, _⟩ := rdns_idx h hx
    have c1 := s_Name (t := x.attr) (H := H)
    by_cases g1 : NameOk x.attr
    · rw [dec_pos g1] at c1
      have c2 := s_Value (t := x.value) (H := H)
      by_cases g2 : ValueOk x.value
      · rw [dec_pos g2] at c2
        simp [r0, r3, hi, h.len, e1, l0, l1, c1, c2, hw]
        exact ⟨k, by omega, i + 1, by omega, by omega, at_step (P := fun j (x : PRdn) => NameOk x.attr ∧ ValueOk x.value) hall hx ⟨g1, g2⟩⟩
      · rw [dec_neg g2] at c2
        have hn : ¬ DnOk l := fun hd => g2 (hd.1 i x hx).2
        simp [r0, r3, hi, h.len, e1, l0, l1, c1, c2, hn]
    · rw [dec_neg g1] at c1
      have hn : ¬ DnOk l := fun hd => g1 (hd.1 i x hx).1
      simp [r0, r3, hi, h.len, e1, l0, l1, c1, hn]

set_option maxRecDepth 10000 in
theorem s_Has {H : List Ob} {v : V} {l : List Str} {t : Str} (h : AStrs H v l) : callW C 236 [v, .str t] H = some (.bool (dec (t ∈ l)), H) := by
  apply Ret.dec
  rw [op236]
  have hb : l.length ≤ 9223372036854775807 := h.bound
  simp [code236, Tryz.f236]
  refine WP_loop (fun k σ => ∃ (i : Nat) (r : Nat → R), i + k = l.length ∧ σ = ⟨r, 0, H⟩ ∧ r 0 = .val v ∧ r 1 = .val (.str t) ∧ r 5 = .val (.int .i64 i) ∧ ∀ j x, j < i → l[j]? = some x → x ≠ t) ?_ l.length _ ⟨0, _, by simp, rfl, by simp, by simp, by simp, by simp⟩
  rintro k σ ⟨i, r, hik, rfl, r0, r1, r5, hall⟩
  cases k with
  | zero =>
    have hi : i = l.length := by omega
    subst hi
    have hx := at_all (P := fun j (x : Str) => x ≠ t) hall
    have hn : t ∉ l := fun hm => by
      obtain ⟨j, hj, e⟩ := List.getElem_of_mem hm
      exact hx j _ (List.getElem?_eq_getElem hj) e
    simp [r0, r1, r5, h.len, hn]
  | succ k =>
    have hi : i < l.length := by omega
    obtain ⟨x, hx⟩ : ∃ c, l[i]? = some c := ⟨l[i], by simp [hi]⟩
    have hw : IntKind.i64.wrap ((i : Int) + 1) = ((i : Int) + 1) := wrap_i64 (by omega) (by omega)
    obtain ⟨id, o, e1, l0, _⟩ := strs_idx h hx
    by_cases g1 : x = t
    · have hm : t ∈ l := g1 ▸ List.mem_of_getElem? hx
      subst g1
      simp [r0, r1, r5, hi, h.len, e1, l0, hm]
    · simp [r0, r1, r5, hi, h.len, e1, l0, g1, hw]
      exact ⟨k, by omega, i + 1, by omega, by omega, at_step (P := fun j (x : Str) => x ≠ t) hall hx g1⟩

set_option maxRecDepth 10000 in
theorem s_At {H : List Ob} {v v' : V} {l : List PAttr} {t : Str} (h : AAttrs H v l) (ho : cellsOf v' = some [v']) : ∃ r : Int, callW C 144 [.agg [v', v], .str t] H = some (.int .i64 r, H) ∧ FirstAt PAttr.name l t r := by
  suffices hs : Ret C 144 [.agg [v', v], .str t] H fun q H' => (∃ r : Int, q = .int .i64 r ∧ FirstAt PAttr.name l t r) ∧ H' = H by
    obtain ⟨q, H', hc, ⟨r, rfl, hr⟩, rfl⟩ := hs
    exact ⟨r, hc, hr⟩
  rw [op144]
  have hb : l.length ≤ 9223372036854775807 := h.bound
  simp [code144, Tryz.f144]
  refine WP_loop (fun k σ => ∃ (i : Nat) (r : Nat → R), i + k = l.length ∧ σ = ⟨r, 1, H⟩ ∧ r 1 = .val (.str t) ∧ r 2 = .box 0 [v', v] ∧ r 5 = .val (.int .i64 i) ∧ ∀ j x, j < i → l[j]? = some x → x.name ≠ t) ?_ l.length _ ⟨0, _, by simp, rfl, by simp, by simp, by simp, by simp⟩
  rintro k σ ⟨i, r, hik, rfl, r1, r2, r5, hall⟩
  cases k with
  | zero =>
    have hi : i = l.length := by omega
    subst hi
    have hx := at_all (P := fun j (x : PAttr) => x.name ≠ t) hall
    simp [r1, r2, r5, h.len]
    exact .inr ⟨hx, rfl⟩
  | succ k =>
    have hi : i < l.length := by omega
    obtain ⟨x, hx⟩ : ∃ c, l[i]? = some c := ⟨l[i], by simp [hi]⟩
    have hw : IntKind.i64.wrap ((i : Int) + 1) = ((i : Int) + 1) := wrap_i64 (by omega) (by omega)
    obtain ⟨id, o, w, e1, l0, l1, _⟩ := attrs_idx h hx
    by_cases g1 : x.name = t
    · simp [r1, r2, r5, hi, h.len, e1, l0, g1]
      exact .inl ⟨i, x, hx, g1, hall, rfl⟩
    · simp [r1, r2, r5, hi, h.len, e1, l0, g1, hw]
      exact ⟨k, by omega, i + 1, by omega, by omega, at_step (P := fun j (x : PAttr) => x.name ≠ t) hall hx g1⟩

set_option maxRecDepth 10000 in
theorem s_ClassAt {H : List Ob} {v : V} {l : List PClass} {t : Str} (h : AClasses H v l) : ∃ r : Int, callW C 146 [v, .str t] H = some (.int .i64 r, H) ∧ FirstAt PClass.name l t r := by
  suffices hs : Ret C 146 [v, .str t] H fun q H' => (∃ r : Int, q = .int .i64 r ∧ FirstAt PClass.name l t r) ∧ H' = H by
    obtain ⟨q, H', hc, ⟨r, rfl, hr⟩, rfl⟩ := hs
    exact ⟨r, hc, hr⟩
  rw [op146]
  have hb : l.length ≤ 9223372036854775807 := h.bound
  simp [code146, Tryz.f146]
  refine WP_loop (fun k σ => ∃ (i : Nat) (r : Nat → R), i + k = l.length ∧ σ = ⟨r, 0, H⟩ ∧ r 0 = .val v ∧ r 1 = .val (.str t) ∧ r 5 = .val (.int .i64 i) ∧ ∀ j x, j < i → l[j]? = some x → x.name ≠ t) ?_ l.length _ ⟨0, _, by simp, rfl, by simp, by simp, by simp, by simp⟩
  rintro k σ ⟨i, r, hik, rfl, r0, r1, r5, hall⟩
  cases k with
  | zero =>
    have hi : i = l.length := by omega
    subst hi
    have hx := at_all (P := fun j (x : PClass) => x.name ≠ t) hall
    simp [r0, r1, r5, h.len]
    exact .inr ⟨hx, rfl⟩
  | succ k =>
    have hi : i < l.length := by omega
    obtain ⟨x, hx⟩ : ∃ c, l[i]? = some c := ⟨l[i], by simp [hi]⟩
    have hw : IntKind.i64.wrap ((i : Int) + 1) = ((i : Int) + 1) := wrap_i64 (by omega) (by omega)
    obtain ⟨id, o, w1, w2, w3, e1, l0, _⟩ := classes_idx h hx
    by_cases g1 : x.name = t
    · simp [r0, r1, r5, hi, h.len, e1, l0, g1]
      exact .inl ⟨i, x, hx, g1, hall, rfl⟩
    · simp [r0, r1, r5, hi, h.len, e1, l0, g1, hw]
      exact ⟨k, by omega, i + 1, by omega, by omega, at_step (P := fun j (x : PClass) => x.name ≠ t) hall hx g1⟩

set_option maxRecDepth 10000 in
theorem s_Of {H : List Ob} {v v' : V} {l : List PAttr} {t : Str} (h : AAttrs H v l) (ho : cellsOf v' = some [v']) (ho' : isOne v' = true) : ∃ w, callW C 231 [.agg [v', v], .str t] H = some (w, H) ∧ AStrs H w (valsOf l t) := by
  obtain ⟨r, hc, hr⟩ := s_At (t := t) h ho
  suffices hs : Ret C 231 [.agg [v', v], .str t] H fun q H' => AStrs H q (valsOf l t) ∧ H' = H by
    obtain ⟨q, H', hc, hr, rfl⟩ := hs
    exact ⟨q, hc, hr⟩
  rw [op231]
  rcases hr.pos with ⟨k, a, h1, rfl, h2⟩ | ⟨rfl, h2⟩
  · obtain ⟨id, o, w, e1, l0, l1, _, hw, _⟩ := attrs_idx h h1
    have hv : valsOf l t = a.vals := by unfold valsOf; rw [h2]
    have hk : ¬ ((k : Int) < 0) := by omega
    simp [code231, Tryz.f231, hc, hk, e1, l1, hv]
    exact hw
  · have hv : valsOf l t = [] := by unfold valsOf; rw [h2]
    simp [code231, Tryz.f231, hc, hv]
    exact At_slice.2 ⟨_, _, rfl, rfl, by simp, .inl ⟨rfl, rfl⟩⟩
end Go.Proofs.Try1
end

section
namespace Go.Proofs.Try1
open Go Go.Lite
set_option linter.unusedSimpArgs false
set_option linter.unusedVariables false

theorem wrap_one : IntKind.i64.wrap 1 = 1 := rfl
attribute [simp] wrap_one

theorem LtS_dec {a b : Str} (h : LtS a b) : Op.bytesLess a b = true := h
theorem LtS_no {a b : Str} (h : ¬ LtS a b) : Op.bytesLess a b = false := by
  cases hb : Op.bytesLess a b with
  | false => rfl
  | true => exact absurd hb h

theorem lo_of {H : List Ob} {id o : Nat} {v : V} (h : ∀ T : LT, T.one → ∀ r c, loadAt T ⟨r, c, H⟩ (.hp id o) = some v) : id < H.length := by
  have := h ⟨.str, 1, 16, [.str []]⟩ one_str (fun _ => .val .undef) 0
  unfold loadAt cellsAt at this
  rw [if_neg (by decide)] at this
  cases hg : H[id]? with
  | none => simp only [hg] at this; cases this
  | some o => exact (List.getElem?_eq_some_iff.1 hg).1

set_option maxRecDepth 10000 in
set_option maxHeartbeats 4000000 in
theorem s_Names {H : List Ob} {v : V} {l : List Str} (h : AStrs H v l) : callW C 168 [v] H = some (.bool (dec (NamesOk l)), H) := by
  apply Ret.dec
  rw [op168]
  have hb : l.length ≤ 9223372036854775807 := h.bound
  simp [code168, Tryz.f168]
  refine WP_loop (fun k σ => ∃ (i : Nat) (r : Nat → R), i + k = l.length ∧ σ = ⟨r, 0, H⟩ ∧ r 0 = .val v ∧ r 3 = .val (.int .i64 i) ∧ ∀ j x, j < i → l[j]? = some x → NameOk x ∧ PrevLt (fun x => x) l j x) ?_ l.length _ ⟨0, _, by simp, rfl, by simp, by simp, by simp⟩
  rintro k σ ⟨i, r, hik, rfl, r0, r3, hall⟩
  cases k with
  | zero =>
    have hi : i = l.length := by omega
    subst hi
    have hx : NamesOk l := at_all (P := fun j (x : Str) => NameOk x ∧ PrevLt (fun x => x) l j x) hall
    simp [r0, r3, h.len, hx]
  | succ k =>
    have hi : i < l.length := by omega
    obtain ⟨x, hx⟩ : ∃ c, l[i]? = some c := ⟨l[i], by simp [hi]⟩
    have hw : IntKind.i64.wrap ((i : Int) + 1) = ((i : Int) + 1) := wrap_i64 (by omega) (by omega)
    obtain ⟨id, o, e1, l0, _⟩ := strs_idx h hx
    have c1 := s_Name (t := x) (H := H)
    have hstep := fun h => at_step (P := fun j (x : Str) => NameOk x ∧ PrevLt (fun x => x) l j x) hall hx h
    by_cases g1 : NameOk x
    · rw [dec_pos g1] at c1
      by_cases hi0 : i = 0
      · have := hstep ⟨g1, fun y hy => by omega⟩
        subst hi0
        simp at e1
        simp [r0, r3, hi, h.len, e1, l0, c1, regionL_none]
        exact ⟨k, by omega, 1, by omega, by omega, this⟩
      · have hip : 0 < i := by omega
        obtain ⟨y, hy⟩ : ∃ c, l[i - 1]? = some c := ⟨l[i - 1]'(by omega), by simp⟩
        obtain ⟨id', o', e1', l0', _⟩ := strs_idx h hy
        have hw1 : IntKind.i64.wrap ((i : Int) - 1) = ((i - 1 : Nat) : Int) := by rw [wrap_i64 (by omega) (by omega)]; omega
        by_cases g2 : LtS y x
        · have := hstep ⟨g1, fun z _ hz => by rw [hy] at hz; cases hz; exact g2⟩
          simp [r0, r3, hi, h.len, e1, l0, c1, e1', l0', hw, hw1, hip, LtS_dec g2, regionL_none]
          exact ⟨k, by omega, i + 1, by omega, by omega, this⟩
        · have hn : ¬ NamesOk l := fun hd => g2 ((hd i x hx).2 y hip hy)
          simp [r0, r3, hi, h.len, e1, l0, c1, e1', l0', hw, hw1, hip, LtS_no g2, regionL_none, hn]
    · rw [dec_neg g1] at c1
      have hn : ¬ NamesOk l := fun hd => g1 (hd i x hx).1
      simp [r0, r3, hi, h.len, e1, l0, c1, hn, regionL_none]

set_option maxRecDepth 10000 in
set_option maxHeartbeats 4000000 in
theorem s_Values {H : List Ob} {v : V} {l : List Str} (h : AStrs H v l) : callW C 315 [v] H = some (.bool (dec (ValuesOk l)), H) := by
  apply Ret.dec
  rw [op315]
  have hb : l.length ≤ 9223372036854775807 := h.bound
  simp [code315, Tryz.f315]
  refine WP_loop (fun k σ => ∃ (i : Nat) (r : Nat → R), i + k = l.length ∧ σ = ⟨r, 0, H⟩ ∧ r 0 = .val v ∧ r 3 = .val (.int .i64 i) ∧ ∀ j x, j < i → l[j]? = some x → ValueOk x ∧ PrevLt norm l j x) ?_ l.length _ ⟨0, _, by simp, rfl, by simp, by simp, by simp⟩
  rintro k σ ⟨i, r, hik, rfl, r0, r3, hall⟩
  cases k with
  | zero =>
    have hi : i = l.length := by omega
    subst hi
    have hx := at_all (P := fun j (x : Str) => ValueOk x ∧ PrevLt norm l j x) hall
    by_cases g1 : 1 ≤ l.length
    · have g1' : (1 : Int) ≤ (l.length : Int) := by omega
      by_cases g2 : l.length ≤ 4
      · have g2' : (l.length : Int) ≤ 4 := by omega
        have hv : ValuesOk l := ⟨hx, g1, g2⟩
        simp [r0, r3, h.len, g1', g2', hv]
      · have g2' : ¬ (l.length : Int) ≤ 4 := by omega
        have hv : ¬ ValuesOk l := fun h => g2 h.2.2
        simp [r0, r3, h.len, g1', g2', hv]
    · have g1' : ¬ (1 : Int) ≤ (l.length : Int) := by omega
      have hv : ¬ ValuesOk l := fun h => g1 h.2.1
      simp [r0, r3, h.len, g1', hv]
  | succ k =>
    have hi : i < l.length := by omega
    obtain ⟨x, hx⟩ : ∃ c, l[i]? = some c := ⟨l[i], by simp [hi]⟩
    have hw : IntKind.i64.wrap ((i : Int) + 1) = ((i : Int) + 1) := wrap_i64 (by omega) (by omega)
    obtain ⟨id, o, e1, l0, _⟩ := strs_idx h hx
    have c1 := s_Value (t := x) (H := H)
    have c2 := s_Norm (t := x) (H := H)
    have hstep := fun h => at_step (P := fun j (x : Str) => ValueOk x ∧ PrevLt norm l j x) hall hx h
    by_cases g1 : ValueOk x
    · rw [dec_pos g1] at c1
      by_cases hi0 : i = 0
      · have := hstep ⟨g1, fun y hy => by omega⟩
        subst hi0
        simp at e1
        simp [r0, r3, hi, h.len, e1, l0, c1]
        exact ⟨k, by omega, 1, by omega, by omega, this⟩
      · have hip : 0 < i := by omega
        obtain ⟨y, hy⟩ : ∃ c, l[i - 1]? = some c := ⟨l[i - 1]'(by omega), by simp⟩
        obtain ⟨id', o', e1', l0', _⟩ := strs_idx h hy
        have c3 := s_Norm (t := y) (H := H)
        have hw1 : IntKind.i64.wrap ((i : Int) - 1) = ((i - 1 : Nat) : Int) := by rw [wrap_i64 (by omega) (by omega)]; omega
        have hlo := lo_of l0
        by_cases g2 : LtS (norm y) (norm x)
        · have := hstep ⟨g1, fun z _ hz => by rw [hy] at hz; cases hz; exact g2⟩
          simp [r0, r3, hi, h.len, e1, l0, c1, c2, c3, e1', l0', hw, hw1, hip, hlo, LtS_dec g2]
          exact ⟨k, by omega, i + 1, by omega, by omega, this⟩
        · have hn : ¬ ValuesOk l := fun hd => g2 ((hd.1 i x hx).2 y hip hy)
          simp [r0, r3, hi, h.len, e1, l0, c1, c2, c3, e1', l0', hw, hw1, hip, hlo, LtS_no g2, hn]
    · rw [dec_neg g1] at c1
      have hn : ¬ ValuesOk l := fun hd => g1 (hd.1 i x hx).1
      simp [r0, r3, hi, h.len, e1, l0, c1, hn]
end Go.Proofs.Try1
end

section
namespace Go.Proofs.Try1
open Go Go.Lite
set_option linter.unusedSimpArgs false
set_option linter.unusedVariables false

set_option maxRecDepth 10000 in
set_option maxHeartbeats 4000000 in
theorem s_Attrs {H : List Ob} {v : V} {l : List PAttr} (h : AAttrs H v l) : callW C 217 [v] H = some (.bool (dec (AttrsOk l)), H) := by
  apply Ret.dec
  rw [op217]
  have hb : l.length ≤ 9223372036854775807 := h.bound
  simp [code217, Tryz.f217]
  refine WP_loop (fun k σ => ∃ (i : Nat) (r : Nat → R), i + k = l.length ∧ σ = ⟨r, 0, H⟩ ∧ r 0 = .val v ∧ r 3 = .val (.int .i64 i) ∧ ∀ j x, j < i → l[j]? = some x → NameOk x.name ∧ PrevLt PAttr.name l j x ∧ ValuesOk x.vals) ?_ l.length _ ⟨0, _, by simp, rfl, by simp, by simp, by simp⟩
  rintro k σ ⟨i, r, hik, rfl, r0, r3, hall⟩
  cases k with
  | zero =>
    have hi : i = l.length := by omega
    subst hi
    have hx := at_all (P := fun j (x : PAttr) => NameOk x.name ∧ PrevLt PAttr.name l j x ∧ ValuesOk x.vals) hall
    by_cases g : l.length ≤ 8
    · have g' : (l.length : Int) ≤ 8 := by omega
      have hv : AttrsOk l := ⟨hx, g⟩
      simp [r0, r3, h.len, g', hv]
    · have g' : ¬ (l.length : Int) ≤ 8 := by omega
      have hv : ¬ AttrsOk l := fun h => g h.2
      simp [r0, r3, h.len, g', hv]
  | succ k =>
    have hi : i < l.length := by omega
    obtain ⟨x, hx⟩ : ∃ c, l[i]? = some c := ⟨l[i], by simp [hi]⟩
    have hw : IntKind.i64.wrap ((i : Int) + 1) = ((i : Int) + 1) := wrap_i64 (by omega) (by omega)
    obtain ⟨id, o, w, e1, l0, l1, _, hvs, _⟩ := attrs_idx h hx
    have c1 := s_Name (t := x.name) (H := H)
    have c2 := s_Values hvs
    have hstep := fun h => at_step (P := fun j (x : PAttr) => NameOk x.name ∧ PrevLt PAttr.name l j x ∧ ValuesOk x.vals) hall hx h
    by_cases g1 : NameOk x.name
    rotate_left
    · rw [dec_neg g1] at c1
      have hn : ¬ AttrsOk l := fun hd => g1 (hd.1 i x hx).1
      simp [r0, r3, hi, h.len, e1, l0, c1, hn, regionL_none]
    rw [dec_pos g1] at c1
    by_cases hi0 : i = 0
    · have hpv : PrevLt PAttr.name l i x := fun y hy => by omega
      by_cases g3 : ValuesOk x.vals
      · rw [dec_pos g3] at c2
        have := hstep ⟨g1, hpv, g3⟩
        subst hi0
        simp at e1
        simp [r0, r3, hi, h.len, e1, l0, l1, c1, c2, regionL_none]
        exact ⟨k, by omega, 1, by omega, by omega, this⟩
      · rw [dec_neg g3] at c2
        have hn : ¬ AttrsOk l := fun hd => g3 (hd.1 i x hx).2.2
        subst hi0
        simp at e1
        simp [r0, r3, hi, h.len, e1, l0, l1, c1, c2, regionL_none, hn]
    · have hip : 0 < i := by omega
      obtain ⟨y, hy⟩ : ∃ c, l[i - 1]? = some c := ⟨l[i - 1]'(by omega), by simp⟩
      obtain ⟨id', o', w', e1', l0', _⟩ := attrs_idx h hy
      have hw1 : IntKind.i64.wrap ((i : Int) - 1) = ((i - 1 : Nat) : Int) := by rw [wrap_i64 (by omega) (by omega)]; omega
      by_cases g2 : LtS y.name x.name
      · have hpv : PrevLt PAttr.name l i x := fun z _ hz => by rw [hy] at hz; cases hz; exact g2
        by_cases g3 : ValuesOk x.vals
        · rw [dec_pos g3] at c2
          have := hstep ⟨g1, hpv, g3⟩
          simp [r0, r3, hi, h.len, e1, l0, l1, c1, c2, e1', l0', hw, hw1, hip, LtS_dec g2, regionL_none]
          exact ⟨k, by omega, i + 1, by omega, by omega, this⟩
        · rw [dec_neg g3] at c2
          have hn : ¬ AttrsOk l := fun hd => g3 (hd.1 i x hx).2.2
          simp [r0, r3, hi, h.len, e1, l0, l1, c1, c2, e1', l0', hw, hw1, hip, LtS_dec g2, regionL_none, hn]
      · have hn : ¬ AttrsOk l := fun hd => g2 ((hd.1 i x hx).2.1 y hip hy)
        simp [r0, r3, hi, h.len, e1, l0, c1, e1', l0', hw, hw1, hip, LtS_no g2, regionL_none, hn]

set_option maxRecDepth 10000 in
theorem s_Entry {H : List Ob} {v w : V} {e : PEntry} (h1 : ARdns H v e.dn) (h2 : AAttrs H w e.attrs) : callW C 96 [.agg [v, w]] H = some (.bool (dec (EntryOk e)), H) := by
  apply Ret.dec
  rw [op96]
  have c1 := s_Dn h1
  have c2 := s_Attrs h2
  by_cases g0 : 0 < e.dn.length
  rotate_left
  · have hn : ¬ EntryOk e := fun h => g0 h.1
    have g0' : e.dn.length = 0 := by omega
    simp [code96, Tryz.f96, h1.len, g0', hn, h1.one, h2.one]
  by_cases g1 : DnOk e.dn
  rotate_left
  · rw [dec_neg g1] at c1
    have hn : ¬ EntryOk e := fun h => g1 h.2.1
    simp [code96, Tryz.f96, h1.len, g0, c1, hn, h1.one, h2.one]
  rw [dec_pos g1] at c1
  by_cases g2 : AttrsOk e.attrs
  · rw [dec_pos g2] at c2
    have hn : EntryOk e := ⟨g0, g1, g2⟩
    simp [code96, Tryz.f96, h1.len, g0, c1, c2, hn, h1.one, h2.one]
  · rw [dec_neg g2] at c2
    have hn : ¬ EntryOk e := fun h => g2 h.2.2
    simp [code96, Tryz.f96, h1.len, g0, c1, c2, hn, h1.one, h2.one]
end Go.Proofs.Try1
end

section
namespace Go.Proofs.Try1
open Go Go.Lite
set_option linter.unusedSimpArgs false
set_option linter.unusedVariables false

theorem has_class {H : List Ob} {v : V} {l : List Str} (h : AStrs H v l) : callW C 236 [v, .str [99, 108, 97, 115, 115]] H = some (.bool (dec (classT ∈ l)), H) := s_Has h

set_option maxRecDepth 10000 in
set_option maxHeartbeats 8000000 in
theorem s_Class {H : List Ob} {w1 w2 w3 : V} {c : PClass} (h1 : AStrs H w1 c.must) (h2 : AStrs H w2 c.may) (h3 : AStrs H w3 c.single) : callW C 150 [.agg [.str c.name, w1, w2, w3]] H = some (.bool (dec (ClassOk c)), H) := by
  apply Ret.dec
  rw [op150]
  have c0 := s_Name (t := c.name) (H := H)
  have c1 := s_Names h1
  have c2 := s_Names h2
  have c3 := s_Names h3
  by_cases g0 : NameOk c.name
  rotate_left
  · rw [dec_neg g0] at c0
    have hn : ¬ ClassOk c := fun h => g0 h.name
    simp [code150, Tryz.f150, c0, hn, h1.one, h2.one, h3.one]
  rw [dec_pos g0] at c0
  by_cases g1 : (c.must.length : Int) > 10
  · have hn : ¬ ClassOk c := fun h => by have := h.l1; omega
    simp [code150, Tryz.f150, c0, h1.len, g1, hn, h1.one, h2.one, h3.one]
  by_cases g2 : (c.may.length : Int) > 10
  · have hn : ¬ ClassOk c := fun h => by have := h.l2; omega
    simp [code150, Tryz.f150, c0, h1.len, h2.len, g1, g2, hn, h1.one, h2.one, h3.one]
  by_cases g3 : (c.single.length : Int) > 10
  · have hn : ¬ ClassOk c := fun h => by have := h.l3; omega
    simp [code150, Tryz.f150, c0, h1.len, h2.len, h3.len, g1, g2, g3, hn, h1.one, h2.one, h3.one]
  by_cases g4 : NamesOk c.must
  rotate_left
  · rw [dec_neg g4] at c1
    have hn : ¬ ClassOk c := fun h => g4 h.n1
    simp [code150, Tryz.f150, c0, c1, h1.len, h2.len, h3.len, g1, g2, g3, hn, h1.one, h2.one, h3.one]
  rw [dec_pos g4] at c1
  by_cases g5 : NamesOk c.may
  rotate_left
  · rw [dec_neg g5] at c2
    have hn : ¬ ClassOk c := fun h => g5 h.n2
    simp [code150, Tryz.f150, c0, c1, c2, h1.len, h2.len, h3.len, g1, g2, g3, hn, h1.one, h2.one, h3.one]
  rw [dec_pos g5] at c2
  by_cases g6 : NamesOk c.single
  rotate_left
  · rw [dec_neg g6] at c3
    have hn : ¬ ClassOk c := fun h => g6 h.n3
    simp [code150, Tryz.f150, c0, c1, c2, c3, h1.len, h2.len, h3.len, g1, g2, g3, hn, h1.one, h2.one, h3.one]
  rw [dec_pos g6] at c3
  simp [code150, Tryz.f150, c0, c1, c2, c3, h1.len, h2.len, h3.len, g1, g2, g3, h1.one, h2.one, h3.one]
  refine WP_loop (fun k σ => ∃ (i : Nat) (r : Nat → R), i + k = c.must.length ∧ σ = ⟨r, 1, H⟩ ∧ r 1 = .box 0 [.str c.name, w1, w2, w3] ∧ r 3 = .val (.int .i64 i) ∧ ∀ j x, j < i → c.must[j]? = some x → x ∉ c.may) ?_ c.must.length _ ⟨0, _, by simp, rfl, by simp, by simp, by simp⟩
  rintro k σ ⟨i, r, hik, rfl, r1, r3, hall⟩
  cases k with
  | succ k =>
    have hi : i < c.must.length := by omega
    obtain ⟨x, hx⟩ : ∃ y, c.must[i]? = some y := ⟨c.must[i], by simp [hi]⟩
    have hw : IntKind.i64.wrap ((i : Int) + 1) = ((i : Int) + 1) := wrap_i64 (by omega) (by omega)
    obtain ⟨id, o, e1, l0, _⟩ := strs_idx h1 hx
    have c4 := s_Has (t := x) h2
    by_cases g7 : x ∈ c.may
    · rw [dec_pos g7] at c4
      have hn : ¬ ClassOk c := fun h => h.apart x (List.mem_of_getElem? hx) g7
      simp [r1, r3, hi, h1.len, e1, l0, c4, regionL_none, hn]
    · rw [dec_neg g7] at c4
      simp [r1, r3, hi, h1.len, e1, l0, c4, regionL_none, hw]
      exact ⟨k, by omega, i + 1, by omega, by omega, at_step (P := fun j (x : Str) => x ∉ c.may) hall hx g7⟩
  | zero =>
  have hi : i = c.must.length := by omega
  subst hi
  have hap : ∀ t ∈ c.must, t ∉ c.may := fun t ht => by
    obtain ⟨j, hj, rfl⟩ := List.getElem_of_mem ht
    exact hall j _ hj (List.getElem?_eq_getElem hj)
  simp [r1, r3, h1.len]
  refine WP_loop (fun k σ => ∃ (i : Nat) (r : Nat → R), i + k = c.single.length ∧ σ = ⟨r, 1, H⟩ ∧ r 1 = .box 0 [.str c.name, w1, w2, w3] ∧ r 4 = .val (.int .i64 i) ∧ ∀ j x, j < i → c.single[j]? = some x → x ∈ c.may ∨ x ∈ c.must) ?_ c.single.length _ ⟨0, _, by simp, rfl, by simp [r1], by simp, by simp⟩
  clear hik r1 r3 hall r
  rintro k σ ⟨i, r, hik, rfl, r1, r4, hall⟩
  cases k with
  | succ k =>
    have hi : i < c.single.length := by omega
    obtain ⟨x, hx⟩ : ∃ y, c.single[i]? = some y := ⟨c.single[i], by simp [hi]⟩
    have hw : IntKind.i64.wrap ((i : Int) + 1) = ((i : Int) + 1) := wrap_i64 (by omega) (by omega)
    obtain ⟨id, o, e1, l0, _⟩ := strs_idx h3 hx
    have c4 := s_Has (t := x) h2
    have c5 := s_Has (t := x) h1
    have hstep := fun h => at_step (P := fun j (x : Str) => x ∈ c.may ∨ x ∈ c.must) hall hx h
    by_cases g7 : x ∈ c.may
    · rw [dec_pos g7] at c4
      have := hstep (.inl g7)
      simp [r1, r4, hi, h3.len, e1, l0, c4, regionL_none, hw]
      exact ⟨k, by omega, i + 1, by omega, by omega, this⟩
    · rw [dec_neg g7] at c4
      by_cases g8 : x ∈ c.must
      · rw [dec_pos g8] at c5
        have := hstep (.inr g8)
        simp [r1, r4, hi, h3.len, e1, l0, c4, c5, regionL_none, hw]
        exact ⟨k, by omega, i + 1, by omega, by omega, this⟩
      · rw [dec_neg g8] at c5
        have hn : ¬ ClassOk c := fun h => (h.known x (List.mem_of_getElem? hx)).elim g7 g8
        simp [r1, r4, hi, h3.len, e1, l0, c4, c5, regionL_none, hn]
  | zero =>
  have hi : i = c.single.length := by omega
  subst hi
  have hkn : ∀ t ∈ c.single, t ∈ c.may ∨ t ∈ c.must := fun t ht => by
    obtain ⟨j, hj, rfl⟩ := List.getElem_of_mem ht
    exact hall j _ hj (List.getElem?_eq_getElem hj)
  have c6 := has_class h1
  have c7 := has_class h2
  by_cases g7 : classT ∈ c.must
  · rw [dec_pos g7] at c6
    have hn : ¬ ClassOk c := fun h => h.noMust g7
    simp [r1, r4, h3.len, c6, hn]
  · rw [dec_neg g7] at c6
    by_cases g8 : classT ∈ c.may
    · rw [dec_pos g8] at c7
      have hn : ¬ ClassOk c := fun h => h.noMay g8
      simp [r1, r4, h3.len, c6, c7, hn]
    · rw [dec_neg g8] at c7
      have hn : ClassOk c := ⟨g0, by omega, by omega, by omega, g4, g5, g6, hap, hkn, g7, g8⟩
      simp [r1, r4, h3.len, c6, c7, hn]

set_option maxRecDepth 10000 in
set_option maxHeartbeats 4000000 in
theorem s_Schema {H : List Ob} {v : V} {l : List PClass} (h : AClasses H v l) : callW C 48 [v] H = some (.bool (dec (SchemaOk l)), H) := by
  apply Ret.dec
  rw [op48]
  have hb : l.length ≤ 9223372036854775807 := h.bound
  simp [code48, Tryz.f48]
  refine WP_loop (fun k σ => ∃ (i : Nat) (r : Nat → R), i + k = l.length ∧ σ = ⟨r, 0, H⟩ ∧ r 0 = .val v ∧ r 3 = .val (.int .i64 i) ∧ ∀ j x, j < i → l[j]? = some x → ClassOk x ∧ PrevLt PClass.name l j x) ?_ l.length _ ⟨0, _, by simp, rfl, by simp, by simp, by simp⟩
  rintro k σ ⟨i, r, hik, rfl, r0, r3, hall⟩
  cases k with
  | zero =>
    have hi : i = l.length := by omega
    subst hi
    have hx := at_all (P := fun j (x : PClass) => ClassOk x ∧ PrevLt PClass.name l j x) hall
    by_cases g : l.length ≤ 6
    · have g' : (l.length : Int) ≤ 6 := by omega
      have hv : SchemaOk l := ⟨hx, g⟩
      simp [r0, r3, h.len, g', hv]
    · have g' : ¬ (l.length : Int) ≤ 6 := by omega
      have hv : ¬ SchemaOk l := fun h => g h.2
      simp [r0, r3, h.len, g', hv]
  | succ k =>
    have hi : i < l.length := by omega
    obtain ⟨x, hx⟩ : ∃ c, l[i]? = some c := ⟨l[i], by simp [hi]⟩
    have hw : IntKind.i64.wrap ((i : Int) + 1) = ((i : Int) + 1) := wrap_i64 (by omega) (by omega)
    obtain ⟨id, o, w1, w2, w3, e1, l0, l4, q1, q2, q3, _⟩ := classes_idx h hx
    have c1 := s_Class q1 q2 q3
    have hstep := fun h => at_step (P := fun j (x : PClass) => ClassOk x ∧ PrevLt PClass.name l j x) hall hx h
    by_cases g1 : ClassOk x
    · rw [dec_pos g1] at c1
      by_cases hi0 : i = 0
      · have := hstep ⟨g1, fun y hy => by omega⟩
        subst hi0
        simp at e1
        simp [r0, r3, hi, h.len, e1, l4, c1, regionL_none]
        exact ⟨k, by omega, 1, by omega, by omega, this⟩
      · have hip : 0 < i := by omega
        obtain ⟨y, hy⟩ : ∃ c, l[i - 1]? = some c := ⟨l[i - 1]'(by omega), by simp⟩
        obtain ⟨id', o', _, _, _, e1', l0', _⟩ := classes_idx h hy
        have hw1 : IntKind.i64.wrap ((i : Int) - 1) = ((i - 1 : Nat) : Int) := by rw [wrap_i64 (by omega) (by omega)]; omega
        by_cases g2 : LtS y.name x.name
        · have := hstep ⟨g1, fun z _ hz => by rw [hy] at hz; cases hz; exact g2⟩
          simp [r0, r3, hi, h.len, e1, l0, l4, c1, e1', l0', hw, hw1, hip, LtS_dec g2, regionL_none]
          exact ⟨k, by omega, i + 1, by omega, by omega, this⟩
        · have hn : ¬ SchemaOk l := fun hd => g2 ((hd.1 i x hx).2 y hip hy)
          simp [r0, r3, hi, h.len, e1, l0, l4, c1, e1', l0', hw, hw1, hip, LtS_no g2, regionL_none, hn]
    · rw [dec_neg g1] at c1
      have hn : ¬ SchemaOk l := fun hd => g1 (hd.1 i x hx).1
      simp [r0, r3, hi, h.len, e1, l4, c1, hn, regionL_none]
end Go.Proofs.Try1
end

section
namespace Go.Proofs.Try1
open Go Go.Lite
set_option linter.unusedSimpArgs false
set_option linter.unusedVariables false

/-- A class as a call hands it back, or none. -/
def ClassRes (H : List Ob) (m : Option PClass) (cs : List V) (ok : Bool) : Prop :=
  (ok = true ∧ ∃ c w1 w2 w3, m = some c ∧ cs = [.str c.name, w1, w2, w3] ∧ AStrs H w1 c.must ∧ AStrs H w2 c.may ∧ AStrs H w3 c.single) ∨ (ok = false ∧ m = none ∧ cs = [.str [], .slc none 0, .slc none 0, .slc none 0])

theorem of_class {H : List Ob} {v v' : V} {l : List PAttr} (h : AAttrs H v l) (ho : cellsOf v' = some [v']) (ho' : isOne v' = true) : ∃ w, callW C 231 [.agg [v', v], .str [99, 108, 97, 115, 115]] H = some (w, H) ∧ AStrs H w (valsOf l classT) := s_Of h ho ho'

set_option maxRecDepth 10000 in
set_option maxHeartbeats 4000000 in
theorem s_Mine {H T : List Ob} {vl vd va : V} {l : List PClass} {as' : List PAttr} (hl : AClasses H vl l) (ha : AAttrs H va as') (ho : cellsOf vd = some [vd]) (ho' : isOne vd = true) :
    ∃ cs ok, callW C 143 [vl, .agg [vd, va]] (H ++ T) = some (.tup [.agg cs, .bool ok], H ++ T) ∧ ClassRes H (mineOf l as') cs ok := by
  suffices hs : Ret C 143 [vl, .agg [vd, va]] (H ++ T) fun q H' => (∃ cs ok, q = .tup [.agg cs, .bool ok] ∧ ClassRes H (mineOf l as') cs ok) ∧ H' = H ++ T by
    obtain ⟨q, H', hc, ⟨cs, ok, rfl, hr⟩, rfl⟩ := hs
    exact ⟨cs, ok, hc, hr⟩
  rw [op143]
  obtain ⟨w, c1, hw⟩ := of_class (ha.ext (T := T)) ho ho'
  have hone := ha.one
  by_cases g1 : (valsOf as' classT).length = 1
  rotate_left
  · have hm : mineOf l as' = none := by
      unfold mineOf
      split
      · rename_i v hv; rw [hv] at g1; exact absurd rfl g1
      · rfl
    have g1' : ¬ ((valsOf as' classT).length : Int) = 1 := by omega
    simp [code143, Tryz.f143, c1, hw.len, g1', ho, ho', hone, buildV, fillL]
    exact .inr ⟨rfl, hm, rfl⟩
  obtain ⟨s, hs⟩ : ∃ s, valsOf as' classT = [s] := by
    match h : valsOf as' classT, g1 with
    | [s], _ => exact ⟨s, rfl⟩
  rw [hs] at hw
  obtain ⟨id, o, e1, l0, _⟩ := strs_idx hw (i := 0) (s := s) rfl
  simp only [Int.ofNat_eq_natCast, Int.natCast_zero] at e1
  have c2 := s_Norm (t := s) (H := H ++ T)
  obtain ⟨r, c3, hr⟩ := s_ClassAt (t := norm s) (hl.ext (T := T))
  have hm : mineOf l as' = firstOf PClass.name l (norm s) := by unfold mineOf; rw [hs]
  rcases hr.pos with ⟨k, a, h1, rfl, h2⟩ | ⟨rfl, h2⟩
  · obtain ⟨id2, o2, w1, w2, w3, f1, l4, q1, q2, q3⟩ := classes_idxT hl h1
    have l4 := l4 T
    have hk : ¬ ((k : Int) < 0) := by omega
    simp [code143, Tryz.f143, c1, hw.len, e1, l0, c2, c3, hk, f1, l4, ho, ho', hone, q1.one, q2.one, q3.one]
    exact .inl ⟨rfl, a, w1, w2, w3, by rw [hm, h2], rfl, q1, q2, q3⟩
  · simp [code143, Tryz.f143, c1, hw.len, e1, l0, c2, c3, ho, ho', hone, buildV, fillL]
    exact .inr ⟨rfl, by rw [hm, h2], rfl⟩

theorem filter_take {l : List Str} {i : Nat} {x : Str} (h : l[i]? = some x) (p : Str → Bool) : (l.take (i + 1)).filter p = (l.take i).filter p ++ if p x then [x] else [] := by
  rw [take_get h, List.filter_append]
  cases hp : p x <;> simp [hp]

end Go.Proofs.Try1
end

section
namespace Go.Proofs.Try1
open Go Go.Lite
set_option linter.unusedSimpArgs false
set_option linter.unusedVariables false

set_option maxRecDepth 20000 in
set_option maxHeartbeats 4000000 in
theorem trimK {t : Str} {H : List Ob} (h0 : t ≠ []) (hl : t.length ≤ 1000) : ∃ q, callW C 225 [.str t, .str kset] H = some (.str q, H) ∧ (q = [] ↔ AllK t) := by
  suffices hs : Ret C 225 [.str t, .str kset] H fun q H' => (∃ s, q = .str s ∧ (s = [] ↔ AllK t)) ∧ H' = H by
    obtain ⟨q, H', hc, ⟨s, rfl, hr⟩, rfl⟩ := hs
    exact ⟨s, hc, hr⟩
  rw [op225]
  have hk0 : kset ≠ [] := by decide
  have hk1 : (kset.length : Int) = 37 := by decide
  have c1 := mkSet (t := kset) (H := H) (fun c hc => by
    rcases kset_mem.1 hc with h | h | h
    · have := h.2; omega
    · have := h.2; omega
    · omega) (by decide)
  have hz : setRange (List.replicate 256 (V.bool false)) 0 (setB kset) = setB kset := by
    unfold setRange
    rw [List.take_zero, List.nil_append, Nat.zero_add, setOf_len, List.drop_of_length_le (by rw [List.length_replicate]; omega), List.append_nil]
  have hall : (setB kset).all isOne = true := by
    rw [List.all_eq_true]
    intro x hx
    simp only [setB, List.mem_map] at hx
    obtain ⟨_, _, rfl⟩ := hx
    rfl
  have st := storeN (H := H ++ [.mk true 1 (List.replicate 256 (.bool false))]) (id := H.length) (o := 0) (l := setB kset) (cells := List.replicate 256 (.bool false)) (es := 1) get_last (by rw [setOf_len, List.length_replicate]; omega) (by intro h; have := setOf_len (l := kset); rw [h] at this; cases this) hall
  rw [setOf_len, hz, set_last] at st
  have hob : (H ++ [Ob.mk true 1 (setB kset)])[H.length]? = some (.mk true 1 (setB kset)) := get_last
  obtain ⟨s, c2, q1, q2, q3⟩ := trimR (t := t) hob hl
  obtain ⟨s', c3, q4, q5⟩ := trimL (t := s) hob q3
  have hres : s' = [] ↔ AllK t := by
    rw [← q1, ← q4]
    constructor
    · rintro rfl; intro c hc; cases hc
    · intro h
      rcases q5 with h' | h'
      · exact h'
      · exact absurd h h'
  simp [code225, Tryz.f225, h0, hk0, hk1, c1, strideOf, st, c2, c3, -List.reduceReplicate, -setRange]
  exact hres

theorem name_iff {t : Str} {c : UInt8} {s : Str} (h : t = c :: s) : NameOk t ↔ t.length ≤ 20 ∧ LowB c ∧ AllK t := by
  subst h
  constructor
  · rintro ⟨_, h1, h2⟩
    refine ⟨h1, ?_, fun d hd => ?_⟩
    · rcases h2 0 c rfl with h | ⟨h, _⟩
      · exact h
      · omega
    · obtain ⟨i, hi, rfl⟩ := List.getElem_of_mem hd
      rw [kset_mem]
      rcases h2 i _ (List.getElem?_eq_getElem hi) with h | ⟨_, h | h⟩
      · exact .inl h
      · exact .inr (.inl h)
      · exact .inr (.inr h)
  · rintro ⟨h1, h2, h3⟩
    refine ⟨by simp, h1, fun i d hd => ?_⟩
    cases i with
    | zero => cases hd; exact .inl h2
    | succ i =>
      rcases kset_mem.1 (h3 d (List.mem_of_getElem? hd)) with h | h | h
      · exact .inl h
      · exact .inr ⟨by omega, .inl h⟩
      · exact .inr ⟨by omega, .inr h⟩

set_option maxRecDepth 20000 in
set_option maxHeartbeats 4000000 in
theorem i_Name {t : Str} {H : List Ob} : callW C 105 [.str t] H = some (.bool (dec (NameOk t)), H) := by
  apply Ret.dec
  rw [op105]
  match t with
  | [] =>
    have hn : ¬ NameOk [] := fun h => by have := h.1; simp at this
    simp [code105, Tryz.f105, hn]
  | c :: s =>
  have hi := name_iff (t := c :: s) rfl
  have g0 : (1 : Int) ≤ (s.length : Int) + 1 := by omega
  by_cases g1 : ((c :: s).length : Int) ≤ 20
  rotate_left
  · have hn : ¬ NameOk (c :: s) := fun h => by have := h.2.1; omega
    simp only [List.length_cons, Int.natCast_add, Int.natCast_one] at g1
    simp [code105, Tryz.f105, g0, g1, hn]
  obtain ⟨q, hc, hq⟩ := trimK (t := c :: s) (H := H) (by simp) (by omega)
  simp only [kset] at hc
  have g1' := g1
  simp only [List.length_cons, Int.natCast_add, Int.natCast_one] at g1
  by_cases g2 : (c.toNat : Int) ≥ 97
  rotate_left
  · have hn : ¬ NameOk (c :: s) := fun h => by have := (hi.1 h).2.1.1; omega
    simp [code105, Tryz.f105, g0, g1, g2, hn]
  by_cases g3 : (c.toNat : Int) ≤ 122
  rotate_left
  · have hn : ¬ NameOk (c :: s) := fun h => by have := (hi.1 h).2.1.2; omega
    simp [code105, Tryz.f105, g0, g1, g2, g3, hn]
  by_cases g4 : q = []
  · have hn : NameOk (c :: s) := hi.2 ⟨by omega, ⟨by omega, by omega⟩, hq.1 g4⟩
    simp [code105, Tryz.f105, g0, g1, g2, g3, hc, g4, hn]
  · have hn : ¬ NameOk (c :: s) := fun h => g4 (hq.2 (hi.1 h).2.2)
    simp [code105, Tryz.f105, g0, g1, g2, g3, hc, g4, hn]

set_option maxRecDepth 10000 in
theorem i_isRdn {a b : Str} {H : List Ob} : callW C 323 [.agg [.str a, .str b]] H = some (.bool (dec (NameOk a ∧ ValueOk b)), H) := by
  apply Ret.dec
  rw [op323]
  have c1 := i_Name (t := a) (H := H)
  have c2 := i_Value (t := b) (H := H)
  by_cases g1 : NameOk a
  · rw [dec_pos g1] at c1
    by_cases g2 : ValueOk b
    · rw [dec_pos g2] at c2
      simp [code323, Tryz.f323, c1, c2, g1, g2]
    · rw [dec_neg g2] at c2
      simp [code323, Tryz.f323, c1, c2, g1, g2]
  · rw [dec_neg g1] at c1
    simp [code323, Tryz.f323, c1, g1]

set_option maxRecDepth 10000 in
theorem i_badRdn {a b : Str} {H : List Ob} : callW C 322 [.agg [.str a, .str b]] H = some (.bool (!dec (NameOk a ∧ ValueOk b)), H) := by
  apply Ret.eq
  rw [op322]
  have c1 := i_isRdn (a := a) (b := b) (H := H)
  simp [code322, Tryz.f322, c1]

set_option maxRecDepth 10000 in
theorem i_idxRdn {H : List Ob} {v : V} {l : List PRdn} (h : ARdns H v l) : ∃ r : Int, callW C 392 [v, .fn 322 [] []] H = some (.int .i64 r, H) ∧ (0 ≤ r ↔ ¬ ∀ (j : Nat) x, l[j]? = some x → NameOk x.attr ∧ ValueOk x.value) := by
  suffices hs : Ret C 392 [v, .fn 322 [] []] H fun q H' => (∃ r : Int, q = .int .i64 r ∧ (0 ≤ r ↔ ¬ ∀ (j : Nat) x, l[j]? = some x → NameOk x.attr ∧ ValueOk x.value)) ∧ H' = H by
    obtain ⟨q, H', hc, ⟨r, rfl, hr⟩, rfl⟩ := hs
    exact ⟨r, hc, hr⟩
  rw [op392]
  have hb : l.length ≤ 9223372036854775807 := h.bound
  simp [code392, Tryz.f392, h.len]
  refine WP_loop (fun k σ => ∃ (i : Nat) (r : Nat → R), i + k = l.length ∧ σ = ⟨r, 0, H⟩ ∧ r 0 = .val v ∧ r 1 = .val (.fn 322 [] []) ∧ r 7 = .val (.int .i64 l.length) ∧ r 8 = .val (.int .i64 i) ∧ ∀ j x, j < i → l[j]? = some x → NameOk x.attr ∧ ValueOk x.value) ?_ l.length _ ⟨0, _, by simp, rfl, by simp, by simp, by simp, by simp, by simp⟩
  rintro k σ ⟨i, r, hik, rfl, r0, r1, r7, r8, hall⟩
  cases k with
  | zero =>
    have hi : i = l.length := by omega
    subst hi
    have hx := at_all (P := fun j (x : PRdn) => NameOk x.attr ∧ ValueOk x.value) hall
    simp [r0, r1, r7, r8]
    exact fun j x hj => hx j x hj
  | succ k =>
    have hi : i < l.length := by omega
    obtain ⟨x, hx⟩ : ∃ c, l[i]? = some c := ⟨l[i], by simp [hi]⟩
    have hw : IntKind.i64.wrap ((i : Int) + 1) = ((i : Int) + 1) := wrap_i64 (by omega) (by omega)
    obtain ⟨id, o, e1, l0, l1, l2, _⟩ := rdns_idx h hx
    have c1 := i_badRdn (a := x.attr) (b := x.value) (H := H)
    by_cases g1 : NameOk x.attr ∧ ValueOk x.value
    · rw [dec_pos g1] at c1
      simp at c1
      simp [r0, r1, r7, r8, hi, e1, l2, c1, hw]
      exact ⟨k, by omega, i + 1, by omega, by omega, at_step (P := fun j (x : PRdn) => NameOk x.attr ∧ ValueOk x.value) hall hx g1⟩
    · rw [dec_neg g1] at c1
      simp at c1
      simp [r0, r1, r7, r8, hi, e1, l2, c1, hw]
      exact ⟨i, x, hx, fun h1 h2 => g1 ⟨h1, h2⟩⟩

set_option maxRecDepth 10000 in
theorem i_Dn {H : List Ob} {v : V} {l : List PRdn} (h : ARdns H v l) : callW C 224 [v] H = some (.bool (dec (DnOk l)), H) := by
  obtain ⟨r, c1, hr⟩ := i_idxRdn h
  have c2 : callW C 321 [v, .fn 322 [] []] H = some (.bool (decide (0 ≤ r)), H) := by
    apply Ret.eq
    rw [op321]
    simp [code321, Tryz.f321, c1]
  apply Ret.dec
  rw [op224]
  by_cases g1 : (l.length : Int) ≤ 6
  · by_cases g2 : 0 ≤ r
    · have hn : ¬ DnOk l := fun h => hr.1 g2 h.1
      simp [code224, Tryz.f224, h.len, g1, c2, g2, hn]
    · have hn : DnOk l := ⟨Classical.byContradiction fun h => g2 (hr.2 h), by omega⟩
      simp [code224, Tryz.f224, h.len, g1, c2, g2, hn]
  · have hn : ¬ DnOk l := fun h => g1 (by have := h.2; omega)
    simp [code224, Tryz.f224, h.len, g1, hn]
end Go.Proofs.Try1
end

section
namespace Go.Proofs.Try1
open Go Go.Lite
set_option linter.unusedSimpArgs false
set_option linter.unusedVariables false

theorem prim_cmp {a b : Str} {H : List Ob} : callW C 425 [.str a, .str b] H = some (.int .i64 (Lib.compareBytes a b), H) :=
  callW_prim (pr := cmpPrim) rfl
theorem l_CompareString {a b : Str} {H : List Ob} : callW C 391 [.str a, .str b] H = some (.int .i64 (Lib.compareBytes a b), H) := by
  apply Ret.eq
  rw [op391]
  simp [code391, Tryz.f391, prim_cmp]
theorem l_Compare {a b : Str} {H : List Ob} : callW C 319 [.str a, .str b] H = some (.int .i64 (Lib.compareBytes a b), H) := by
  apply Ret.eq
  rw [op319]
  simp [code319, Tryz.f319, l_CompareString]
theorem i_byNorm {a b : Str} {H : List Ob} : callW C 222 [.str a, .str b] H = some (.int .i64 (Lib.compareBytes (norm a) (norm b)), H) := by
  apply Ret.eq
  rw [op222]
  have c1 := i_Norm (t := a) (H := H)
  have c2 := i_Norm (t := b) (H := H)
  simp [code222, Tryz.f222, c1, c2, l_Compare]
end Go.Proofs.Try1
end

section
namespace Go.Proofs.Try1
open Go Go.Lite
set_option linter.unusedSimpArgs false
set_option linter.unusedVariables false

theorem cmp_lt : ∀ (a b : Str), (Lib.compareBytes a b < 0 ↔ LtS a b) ∧ (Lib.compareBytes a b = 0 ↔ a = b)
  | [], [] => by simp [Lib.compareBytes, LtS, Op.bytesLess]
  | [], _ :: _ => by simp [Lib.compareBytes, LtS, Op.bytesLess]
  | _ :: _, [] => by simp [Lib.compareBytes, LtS, Op.bytesLess]
  | a :: as', b :: bs => by
    obtain ⟨h1, h2⟩ := cmp_lt as' bs
    unfold LtS at h1 ⊢
    simp only [Lib.compareBytes, Op.bytesLess]
    by_cases g1 : a < b
    · have : a ≠ b := fun h => by subst h; exact absurd g1 (by simp)
      simp [g1, this]
    · by_cases g2 : b < a
      · have : a ≠ b := fun h => by subst h; exact absurd g2 (by simp)
        simp [g1, g2, this]
      · have : a = b := UInt8.toNat_inj.1 (by rw [UInt8.lt_iff_toNat_lt] at g1 g2; omega)
        subst this
        simp [h1, h2]

theorem l_size {H : List Ob} {v : V} {l : List Str} (h : AStrs H v l) : callW C 320 [v] H = some (.int .i64 l.length, H) := by
  apply Ret.eq
  rw [op320]
  simp [code320, Tryz.f320, h.len]
theorem l_between {a b c : Int} {H : List Ob} : callW C 299 [.int .i64 a, .int .i64 b, .int .i64 c] H = some (.bool (decide (b ≤ a ∧ a ≤ c)), H) := by
  apply Ret.eq
  rw [op299]
  by_cases g1 : b ≤ a
  · by_cases g2 : a ≤ c <;> simp [code299, Tryz.f299, g1, g2]
  · simp [code299, Tryz.f299, g1]

set_option maxRecDepth 10000 in
set_option maxHeartbeats 4000000 in
theorem i_Attr {H : List Ob} {n : Str} {v : V} {l : List Str} (h : AStrs H v l) : callW C 223 [.agg [.str n, v]] H = some (.bool (dec (NameOk n ∧ ValuesOk l)), H) := by
  apply Ret.dec
  rw [op223]
  have c1 := i_Name (t := n) (H := H)
  have c2 := l_size h
  have c3 := l_between (a := l.length) (b := 1) (c := 4) (H := H)
  have hb : l.length ≤ 9223372036854775807 := h.bound
  by_cases g1 : NameOk n
  rotate_left
  · rw [dec_neg g1] at c1
    simp [code223, Tryz.f223, c1, g1, h.one]
  rw [dec_pos g1] at c1
  by_cases g2 : (1 : Int) ≤ l.length ∧ (l.length : Int) ≤ 4
  rotate_left
  · rw [decide_eq_false g2] at c3
    have hn : ¬ ValuesOk l := fun h => g2 ⟨by have := h.2.1; omega, by have := h.2.2; omega⟩
    simp [code223, Tryz.f223, c1, c2, c3, hn, h.one]
  rw [decide_eq_true g2] at c3
  simp [code223, Tryz.f223, c1, c2, c3, h.one, h.len]
  refine WP_loop (fun k σ => ∃ (i : Nat) (r : Nat → R), i + k = l.length ∧ σ = ⟨r, 1, H⟩ ∧ r 1 = .box 0 [.str n, v] ∧ r 17 = .val v ∧ r 18 = .val (.int .i64 l.length) ∧ r 19 = .val (.int .i64 i) ∧ ∀ j x, j < i → l[j]? = some x → ValueOk x ∧ PrevLt norm l j x) ?_ l.length _ ⟨0, _, by simp, rfl, by simp, by simp, by simp, by simp, by simp⟩
  rintro k σ ⟨i, r, hik, rfl, r1, r17, r18, r19, hall⟩
  cases k with
  | zero =>
    have hi : i = l.length := by omega
    subst hi
    have hx := at_all (P := fun j (x : Str) => ValueOk x ∧ PrevLt norm l j x) hall
    have hv : ValuesOk l := ⟨hx, by omega, by omega⟩
    simp [r1, r17, r18, r19, g1, hv]
  | succ k =>
    have hi : i < l.length := by omega
    obtain ⟨x, hx⟩ : ∃ c, l[i]? = some c := ⟨l[i], by simp [hi]⟩
    have hw : IntKind.i64.wrap ((i : Int) + 1) = ((i : Int) + 1) := wrap_i64 (by omega) (by omega)
    obtain ⟨id, o, e1, l0, _⟩ := strs_idx h hx
    have c4 := i_Value (t := x) (H := H)
    have hstep := fun h => at_step (P := fun j (x : Str) => ValueOk x ∧ PrevLt norm l j x) hall hx h
    by_cases g3 : ValueOk x
    rotate_left
    · rw [dec_neg g3] at c4
      have hn : ¬ ValuesOk l := fun hd => g3 (hd.1 i x hx).1
      simp [r1, r17, r18, r19, hi, e1, l0, c4, hn]
    rw [dec_pos g3] at c4
    by_cases hi0 : i = 0
    · have := hstep ⟨g3, fun y hy => by omega⟩
      subst hi0
      simp at e1
      simp [r1, r17, r18, r19, hi, e1, l0, c4]
      exact ⟨k, by omega, 1, by omega, by omega, this⟩
    have hip : 0 < i := by omega
    obtain ⟨y, hy⟩ : ∃ c, l[i - 1]? = some c := ⟨l[i - 1]'(by omega), by simp⟩
    obtain ⟨id', o', e1', l0', _⟩ := strs_idx h hy
    have hw1 : IntKind.i64.wrap ((i : Int) - 1) = ((i - 1 : Nat) : Int) := by rw [wrap_i64 (by omega) (by omega)]; omega
    have c5 := i_byNorm (a := y) (b := x) (H := H)
    by_cases g4 : LtS (norm y) (norm x)
    · have := hstep ⟨g3, fun z _ hz => by rw [hy] at hz; cases hz; exact g4⟩
      have g5 : ¬ (0 ≤ Lib.compareBytes (norm y) (norm x)) := by have := (cmp_lt (norm y) (norm x)).1.2 g4; omega
      simp [r1, r17, r18, r19, hi, e1, l0, c4, e1', l0', hw, hw1, hip, c5, g5]
      exact ⟨k, by omega, i + 1, by omega, by omega, this⟩
    · have g5 : 0 ≤ Lib.compareBytes (norm y) (norm x) := by have := mt (cmp_lt (norm y) (norm x)).1.1 g4; omega
      have hn : ¬ ValuesOk l := fun hd => g4 ((hd.1 i x hx).2 y hip hy)
      simp [r1, r17, r18, r19, hi, e1, l0, c4, e1', l0', hw, hw1, hip, c5, g5, hn]

set_option maxRecDepth 10000 in
set_option maxHeartbeats 4000000 in
theorem i_Names {H : List Ob} {v : V} {l : List Str} (h : AStrs H v l) : callW C 172 [v] H = some (.bool (dec (NamesOk l)), H) := by
  apply Ret.dec
  rw [op172]
  have hb : l.length ≤ 9223372036854775807 := h.bound
  simp [code172, Tryz.f172, h.len]
  refine WP_loop (fun k σ => ∃ (i : Nat) (r : Nat → R), i + k = l.length ∧ σ = ⟨r, 0, H⟩ ∧ r 0 = .val v ∧ r 5 = .val v ∧ r 6 = .val (.int .i64 l.length) ∧ r 7 = .val (.int .i64 i) ∧ ∀ j x, j < i → l[j]? = some x → NameOk x ∧ PrevLt (fun x => x) l j x) ?_ l.length _ ⟨0, _, by simp, rfl, by simp, by simp, by simp, by simp, by simp⟩
  rintro k σ ⟨i, r, hik, rfl, r0, r5, r6, r7, hall⟩
  cases k with
  | zero =>
    have hi : i = l.length := by omega
    subst hi
    have hx : NamesOk l := at_all (P := fun j (x : Str) => NameOk x ∧ PrevLt (fun x => x) l j x) hall
    simp [r0, r5, r6, r7, hx]
  | succ k =>
    have hi : i < l.length := by omega
    obtain ⟨x, hx⟩ : ∃ c, l[i]? = some c := ⟨l[i], by simp [hi]⟩
    have hw : IntKind.i64.wrap ((i : Int) + 1) = ((i : Int) + 1) := wrap_i64 (by omega) (by omega)
    obtain ⟨id, o, e1, l0, _⟩ := strs_idx h hx
    have c1 := i_Name (t := x) (H := H)
    have hstep := fun h => at_step (P := fun j (x : Str) => NameOk x ∧ PrevLt (fun x => x) l j x) hall hx h
    by_cases g1 : NameOk x
    rotate_left
    · rw [dec_neg g1] at c1
      have hn : ¬ NamesOk l := fun hd => g1 (hd i x hx).1
      simp [r0, r5, r6, r7, hi, e1, l0, c1, hn]
    rw [dec_pos g1] at c1
    by_cases hi0 : i = 0
    · have := hstep ⟨g1, fun y hy => by omega⟩
      subst hi0
      simp at e1
      simp [r0, r5, r6, r7, hi, e1, l0, c1]
      exact ⟨k, by omega, 1, by omega, by omega, this⟩
    have hip : 0 < i := by omega
    obtain ⟨y, hy⟩ : ∃ c, l[i - 1]? = some c := ⟨l[i - 1]'(by omega), by simp⟩
    obtain ⟨id', o', e1', l0', _⟩ := strs_idx h hy
    have hw1 : IntKind.i64.wrap ((i : Int) - 1) = ((i - 1 : Nat) : Int) := by rw [wrap_i64 (by omega) (by omega)]; omega
    by_cases g2 : LtS y x
    · have := hstep ⟨g1, fun z _ hz => by rw [hy] at hz; cases hz; exact g2⟩
      simp [r0, r5, r6, r7, hi, e1, l0, c1, e1', l0', hw, hw1, hip, LtS_dec g2]
      exact ⟨k, by omega, i + 1, by omega, by omega, this⟩
    · have hn : ¬ NamesOk l := fun hd => g2 ((hd i x hx).2 y hip hy)
      simp [r0, r5, r6, r7, hi, e1, l0, c1, e1', l0', hw, hw1, hip, LtS_no g2, hn]

set_option maxRecDepth 10000 in
set_option maxHeartbeats 8000000 in
theorem i_Entry {H : List Ob} {v w : V} {e : PEntry} (h1 : ARdns H v e.dn) (h2 : AAttrs H w e.attrs) : callW C 104 [.agg [v, w]] H = some (.bool (dec (EntryOk e)), H) := by
  apply Ret.dec
  rw [op104]
  have c1 := i_Dn h1
  have hb : e.attrs.length ≤ 9223372036854775807 := h2.bound
  by_cases g0 : e.dn.length = 0
  · have hn : ¬ EntryOk e := fun h => by have := h.1; omega
    simp [code104, Tryz.f104, h1.len, g0, hn, h1.one, h2.one]
  have g0' : ¬ (e.dn.length : Int) = 0 := by omega
  by_cases g1 : DnOk e.dn
  rotate_left
  · rw [dec_neg g1] at c1
    have hn : ¬ EntryOk e := fun h => g1 h.2.1
    simp [code104, Tryz.f104, h1.len, g0, c1, hn, h1.one, h2.one]
  rw [dec_pos g1] at c1
  by_cases g2 : (e.attrs.length : Int) > 8
  · have hn : ¬ EntryOk e := fun h => by have := h.2.2.2; omega
    simp [code104, Tryz.f104, h1.len, h2.len, g0, g2, c1, hn, h1.one, h2.one]
  simp [code104, Tryz.f104, h1.len, h2.len, g0, g2, c1, h1.one, h2.one]
  refine WP_loop (fun k σ => ∃ (i n : Nat) (r : Nat → R), i + k = e.attrs.length ∧ σ = ⟨r, n, H⟩ ∧ r 1 = .box 0 [v, w] ∧ 1 ≤ n ∧ r 22 = .val w ∧ r 23 = .val (.int .i64 e.attrs.length) ∧ r 24 = .val (.int .i64 i) ∧ ∀ j x, j < i → e.attrs[j]? = some x → NameOk x.name ∧ PrevLt PAttr.name e.attrs j x ∧ ValuesOk x.vals) ?_ e.attrs.length _ ⟨0, 1, _, by simp, rfl, by simp, by omega, by simp, by simp, by simp, by simp⟩
  rintro k σ ⟨i, n, r, hik, rfl, r1, hn1, r22, r23, r24, hall⟩
  cases k with
  | zero =>
    have hi : i = e.attrs.length := by omega
    subst hi
    have hx := at_all (P := fun j (x : PAttr) => NameOk x.name ∧ PrevLt PAttr.name e.attrs j x ∧ ValuesOk x.vals) hall
    have hv : EntryOk e := ⟨by omega, g1, hx, by omega⟩
    simp [r1, r22, r23, r24, hv]
  | succ k =>
    have hi : i < e.attrs.length := by omega
    obtain ⟨x, hx⟩ : ∃ c, e.attrs[i]? = some c := ⟨e.attrs[i], by simp [hi]⟩
    have hw : IntKind.i64.wrap ((i : Int) + 1) = ((i : Int) + 1) := wrap_i64 (by omega) (by omega)
    obtain ⟨id, o, w', e1, l0, l1, l2, hvs, _⟩ := attrs_idx h2 hx
    have c2 := i_Attr (n := x.name) hvs
    have hstep := fun h => at_step (P := fun j (x : PAttr) => NameOk x.name ∧ PrevLt PAttr.name e.attrs j x ∧ ValuesOk x.vals) hall hx h
    by_cases g3 : NameOk x.name ∧ ValuesOk x.vals
    rotate_left
    · rw [dec_neg g3] at c2
      have hn : ¬ EntryOk e := fun hd => g3 ⟨(hd.2.2.1 i x hx).1, (hd.2.2.1 i x hx).2.2⟩
      simp [r1, r22, r23, r24, hi, e1, l2, c2, hn, hvs.one, regionL_none]
    rw [dec_pos g3] at c2
    by_cases hi0 : i = 0
    · have := hstep ⟨g3.1, fun y hy => by omega, g3.2⟩
      subst hi0
      simp at e1
      simp [r1, r22, r23, r24, hi, e1, l2, c2, hvs.one, regionL_none]
      exact ⟨k, by omega, 1, by omega, n + 1, _, ⟨rfl, rfl⟩, by simp [r1], by omega, by simp [r22], by simp [r23], by simp, this⟩
    have hip : 0 < i := by omega
    obtain ⟨y, hy⟩ : ∃ c, e.attrs[i - 1]? = some c := ⟨e.attrs[i - 1]'(by omega), by simp⟩
    obtain ⟨id', o', _, e1', l0', _⟩ := attrs_idx h2 hy
    have hw1 : IntKind.i64.wrap ((i : Int) - 1) = ((i - 1 : Nat) : Int) := by rw [wrap_i64 (by omega) (by omega)]; omega
    by_cases g4 : LtS y.name x.name
    · have := hstep ⟨g3.1, fun z _ hz => by rw [hy] at hz; cases hz; exact g4, g3.2⟩
      simp [r1, r22, r23, r24, hi, e1, l2, c2, e1', l0', hw, hw1, hip, LtS_dec g4, hvs.one, regionL_none]
      exact ⟨k, by omega, i + 1, by omega, n + 1, _, ⟨rfl, rfl⟩, by simp [r1], by omega, by simp [r22], by simp [r23], by simp, this⟩
    · have hn : ¬ EntryOk e := fun hd => g4 ((hd.2.2.1 i x hx).2.1 y hip hy)
      simp [r1, r22, r23, r24, hi, e1, l2, c2, e1', l0', hw, hw1, hip, LtS_no g4, hvs.one, regionL_none, hn]
end Go.Proofs.Try1
end

section
namespace Go.Proofs.Try1
open Go Go.Lite
set_option linter.unusedSimpArgs false
set_option linter.unusedVariables false

/-- A slice of one's own, or nil. -/
def Own (H G : List Ob) (w : V) (l : List Str) : Prop := (w = .slc none 0 ∧ l = []) ∨ Gs H G w (l.map V.str)

theorem strs_cells {H T : List Ob} {v : V} {l : List Str} (h : AStrs H v l) : ∃ p, v = .slc p l.length ∧ slcCells (H ++ T) p l.length = some (l.map V.str) ∧ (p = none → l = []) ∧ ∀ id off, p = some (id, off) → thereAt H id := by
  rcases h.sl with ⟨rfl, hl⟩ | ⟨id, off, own, cells, rfl, h2, h3, h4⟩
  · have : l = [] := by simpa using hl
    subst this
    exact ⟨none, rfl, rfl, fun _ => rfl, fun _ _ h => by cases h⟩
  · rw [List.length_map] at h3 ⊢
    refine ⟨some (id, off), rfl, ?_, (fun h => by cases h), (fun id' off' h => by cases h; exact ⟨_, _, _, h2⟩)⟩
    by_cases h0 : l.length = 0
    · have : l = [] := List.length_eq_zero_iff.1 h0
      subst this
      rfl
    · simp only [slcCells, up_append _ _ h2, if_neg h0]
      unfold rdCells
      simp only [Sh.size_str, Nat.mul_one] at h3 h4
      rw [if_pos h3]
      congr 1
      apply List.ext_getElem?
      intro j
      by_cases hj : j < l.length
      · rw [List.getElem?_take_of_lt hj, List.getElem?_drop, List.getElem?_map]
        obtain ⟨s, hs⟩ : ∃ s, l[j]? = some s := ⟨l[j], List.getElem?_eq_getElem hj⟩
        obtain ⟨t, e1, e2, _⟩ := At_str.1 (h4 j (.str s) (by rw [List.getElem?_map, hs]; rfl))
        cases e2
        rw [hs]
        have := cells_get e1 (j := 0) rfl
        simpa using this
      · rw [List.getElem?_eq_none (by simp; omega), List.getElem?_eq_none (by simp; omega)]

set_option maxRecDepth 10000 in
theorem l_Clone {H : List Ob} {v : V} {l : List Str} (h : AStrs H v l) (hl : l.length ≤ 1000000) : ∃ T w, callW C 153 [v] H = some (w, H ++ T) ∧ Own H (H ++ T) w l := by
  suffices hs : Ret C 153 [v] H fun q H' => ∃ T, H' = H ++ T ∧ Own H (H ++ T) q l by
    obtain ⟨q, H', hc, T, rfl, hr⟩ := hs
    exact ⟨T, q, hc, hr⟩
  rw [op153]
  obtain ⟨p, rfl, hc, hp, ht⟩ := strs_cells (T := [.mk true 1 []]) h
  cases p with
  | none =>
    have := hp rfl
    subst this
    simp [code153, Tryz.f153]
    exact .inl ⟨rfl, rfl⟩
  | some p =>
    by_cases h0 : l.length = 0
    · have : l = [] := List.length_eq_zero_iff.1 h0
      subst this
      have ha : appendV ⟨.str, 1, 16, [.str []]⟩ (H ++ [.mk true 1 []]) (.slc (some (H.length, 0)) 0) (.slc (some p) 0) = some (.slc (some (H.length, 0)) 0, H ++ [.mk true 1 []]) := by
        unfold appendV
        rw [if_pos (by simp [growOk])]
        simp [newCells, slcCells]
      simp [code153, Tryz.f153, elemT, fillL, zerosL, St.new, ha]
      exact .inr Gs.init
    · have hm : l.length * 16 ≤ maxMade := by unfold maxMade; omega
      have ha : appendV ⟨.str, 1, 16, [.str []]⟩ (H ++ [.mk true 1 []]) (.slc (some (H.length, 0)) 0) (.slc (some p) l.length) = some (.slc (some (H.length + 1, 0)) l.length, H ++ [.dead, .mk true 1 (l.map V.str)]) := by
        unfold appendV
        rw [if_pos (by simp [growOk])]
        simp only [newCells, Nat.mul_one, hc, if_neg h0]
        rw [if_pos (by simp)]
        simp [get_last, h0, hm]
      have hne : l ≠ [] := fun h => h0 (by rw [h]; rfl)
      have hgs : Gs H (H ++ [.dead, .mk true 1 (l.map V.str)]) (.slc (some (H.length + 1, 0)) l.length) (l.map V.str) :=
        ⟨_, H.length + 1, rfl, by omega, by rw [List.getElem?_append_right (by omega)]; simp, by simp⟩
      simp [code153, Tryz.f153, elemT, fillL, zerosL, St.new, ha, hgs.gc]
      exact .inr hgs

/-- The first one so, or -1. -/
def FirstIs (p : Str → Bool) (l : List Str) (r : Int) : Prop := (∃ (k : Nat) (x : Str), l[k]? = some x ∧ p x = true ∧ (∀ j y, j < k → l[j]? = some y → p y = false) ∧ r = k) ∨ ((∀ (j : Nat) y, l[j]? = some y → p y = false) ∧ r = -1)

set_option maxRecDepth 10000 in
theorem l_IndexFunc {H : List Ob} {v : V} {l : List Str} {g : Nat} {a b : List V} (h : AStrs H v l) (p : Str → Bool) (hg : ∀ x ∈ l, callW C g (a ++ ([.str x] ++ b)) H = some (.bool (p x), H)) :
    ∃ r : Int, callW C 343 [v, .fn g a b] H = some (.int .i64 r, H) ∧ FirstIs p l r := by
  suffices hs : Ret C 343 [v, .fn g a b] H fun q H' => (∃ r : Int, q = .int .i64 r ∧ FirstIs p l r) ∧ H' = H by
    obtain ⟨q, H', hc, ⟨r, rfl, hr⟩, rfl⟩ := hs
    exact ⟨r, hc, hr⟩
  rw [op343]
  have hb : l.length ≤ 9223372036854775807 := h.bound
  simp [code343, Tryz.f343, h.len]
  refine WP_loop (fun k σ => ∃ (i : Nat) (r : Nat → R), i + k = l.length ∧ σ = ⟨r, 0, H⟩ ∧ r 0 = .val v ∧ r 1 = .val (.fn g a b) ∧ r 7 = .val (.int .i64 l.length) ∧ r 8 = .val (.int .i64 i) ∧ ∀ j x, j < i → l[j]? = some x → p x = false) ?_ l.length _ ⟨0, _, by simp, rfl, by simp, by simp, by simp, by simp, by simp⟩
  rintro k σ ⟨i, r, hik, rfl, r0, r1, r7, r8, hall⟩
  cases k with
  | zero =>
    have hi : i = l.length := by omega
    subst hi
    have hx := at_all (P := fun j (x : Str) => p x = false) hall
    simp [r0, r1, r7, r8]
    exact .inr ⟨hx, rfl⟩
  | succ k =>
    have hi : i < l.length := by omega
    obtain ⟨x, hx⟩ : ∃ c, l[i]? = some c := ⟨l[i], by simp [hi]⟩
    have hw : IntKind.i64.wrap ((i : Int) + 1) = ((i : Int) + 1) := wrap_i64 (by omega) (by omega)
    obtain ⟨id, o, e1, l0, _⟩ := strs_idx h hx
    have c1 := hg x (List.mem_of_getElem? hx)
    simp only [List.singleton_append] at c1
    cases hp : p x with
    | false =>
      rw [hp] at c1
      simp [r0, r1, r7, r8, hi, e1, l0, c1, hw]
      exact ⟨k, by omega, i + 1, by omega, by omega, at_step (P := fun j (x : Str) => p x = false) hall hx hp⟩
    | true =>
      rw [hp] at c1
      simp [r0, r1, r7, r8, hi, e1, l0, c1, hw]
      exact .inl ⟨i, x, hx, hp, hall, rfl⟩

theorem FirstIs.mem {p : Str → Bool} {l : List Str} {r : Int} (h : FirstIs p l r) : 0 ≤ r ↔ ∃ x ∈ l, p x = true := by
  rcases h with ⟨k, x, h1, h2, _, rfl⟩ | ⟨h1, rfl⟩
  · exact ⟨fun _ => ⟨x, List.mem_of_getElem? h1, h2⟩, fun _ => by omega⟩
  · refine ⟨fun h => by omega, fun ⟨x, hx, hp⟩ => ?_⟩
    obtain ⟨j, hj, rfl⟩ := List.getElem_of_mem hx
    rw [h1 j _ (List.getElem?_eq_getElem hj)] at hp
    cases hp

theorem l_ContainsFunc {H : List Ob} {v : V} {l : List Str} {g : Nat} {a b : List V} (h : AStrs H v l) (p : Str → Bool) (hg : ∀ x ∈ l, callW C g (a ++ ([.str x] ++ b)) H = some (.bool (p x), H)) :
    callW C 254 [v, .fn g a b] H = some (.bool (dec (∃ x ∈ l, p x = true)), H) := by
  obtain ⟨r, c1, hr⟩ := l_IndexFunc h p hg
  apply Ret.dec
  rw [op254]
  by_cases g1 : 0 ≤ r
  · have := hr.mem.1 g1
    simp [code254, Tryz.f254, c1, g1]
    exact this
  · have := mt hr.mem.2 g1
    simp [code254, Tryz.f254, c1, g1]
    intro x hx
    cases hp : p x with
    | false => rfl
    | true => exact absurd ⟨x, hx, hp⟩ this

set_option maxRecDepth 10000 in
theorem l_Contains {H : List Ob} {v : V} {l : List Str} {t : Str} (h : AStrs H v l) : callW C 245 [v, .str t] H = some (.bool (dec (t ∈ l)), H) := by
  have hi : ∃ r : Int, callW C 340 [v, .str t] H = some (.int .i64 r, H) ∧ (0 ≤ r ↔ t ∈ l) := by
    suffices hs : Ret C 340 [v, .str t] H fun q H' => (∃ r : Int, q = .int .i64 r ∧ (0 ≤ r ↔ t ∈ l)) ∧ H' = H by
      obtain ⟨q, H', hc, ⟨r, rfl, hr⟩, rfl⟩ := hs
      exact ⟨r, hc, hr⟩
    rw [op340]
    have hb : l.length ≤ 9223372036854775807 := h.bound
    simp [code340, Tryz.f340, h.len]
    refine WP_loop (fun k σ => ∃ (i : Nat) (r : Nat → R), i + k = l.length ∧ σ = ⟨r, 0, H⟩ ∧ r 0 = .val v ∧ r 1 = .val (.str t) ∧ r 7 = .val (.int .i64 l.length) ∧ r 8 = .val (.int .i64 i) ∧ ∀ j x, j < i → l[j]? = some x → x ≠ t) ?_ l.length _ ⟨0, _, by simp, rfl, by simp, by simp, by simp, by simp, by simp⟩
    rintro k σ ⟨i, r, hik, rfl, r0, r1, r7, r8, hall⟩
    cases k with
    | zero =>
      have hi : i = l.length := by omega
      subst hi
      have hx := at_all (P := fun j (x : Str) => x ≠ t) hall
      have hn : t ∉ l := fun hm => by
        obtain ⟨j, hj, e⟩ := List.getElem_of_mem hm
        exact hx j _ (List.getElem?_eq_getElem hj) e
      simp [r0, r1, r7, r8, hn]
    | succ k =>
      have hi : i < l.length := by omega
      obtain ⟨x, hx⟩ : ∃ c, l[i]? = some c := ⟨l[i], by simp [hi]⟩
      have hw : IntKind.i64.wrap ((i : Int) + 1) = ((i : Int) + 1) := wrap_i64 (by omega) (by omega)
      obtain ⟨id, o, e1, l0, _⟩ := strs_idx h hx
      by_cases g1 : x = t
      · have hm : t ∈ l := g1 ▸ List.mem_of_getElem? hx
        subst g1
        simp [r0, r1, r7, r8, hi, e1, l0, hm]
      · have g1' : ¬ t = x := fun h => g1 h.symm
        simp [r0, r1, r7, r8, hi, e1, l0, g1', hw]
        exact ⟨k, by omega, i + 1, by omega, by omega, at_step (P := fun j (x : Str) => x ≠ t) hall hx g1⟩
  obtain ⟨r, c1, hr⟩ := hi
  apply Ret.dec
  rw [op245]
  by_cases g1 : 0 ≤ r
  · simp [code245, Tryz.f245, c1, g1, hr.1 g1]
  · simp [code245, Tryz.f245, c1, g1, mt hr.2 g1]

theorem i_noName {H : List Ob} {id : Nat} {own : Bool} {es : Nat} {va : V} {l : List Str} {t : Str} (h0 : H[id]? = some (.mk own es [va])) (h : AStrs H va l) : callW C 255 [.str t, .ptr (some (id, 0))] H = some (.bool (!dec (t ∈ l)), H) := by
  apply Ret.eq
  rw [op255]
  have ld := load1 (o := 0) (v := va) h0 rfl
  have c1 := l_Contains (t := t) h
  simp [code255, Tryz.f255, ld, c1]
end Go.Proofs.Try1
end

section
namespace Go.Proofs.Try1
open Go Go.Lite
set_option linter.unusedSimpArgs false
set_option linter.unusedVariables false

set_option maxRecDepth 10000 in
theorem s_In {H : List Ob} {v : V} {l : List Str} {n : Str} (h : AStrs H v l) : ∃ r : Int, callW C 218 [v, .str n] H = some (.int .i64 r, H) ∧ FirstIs (fun x => decide (norm x = n)) l r := by
  suffices hs : Ret C 218 [v, .str n] H fun q H' => (∃ r : Int, q = .int .i64 r ∧ FirstIs (fun x => decide (norm x = n)) l r) ∧ H' = H by
    obtain ⟨q, H', hc, ⟨r, rfl, hr⟩, rfl⟩ := hs
    exact ⟨r, hc, hr⟩
  rw [op218]
  have hb : l.length ≤ 9223372036854775807 := h.bound
  simp [code218, Tryz.f218]
  refine WP_loop (fun k σ => ∃ (i : Nat) (r : Nat → R), i + k = l.length ∧ σ = ⟨r, 0, H⟩ ∧ r 0 = .val v ∧ r 1 = .val (.str n) ∧ r 5 = .val (.int .i64 i) ∧ ∀ j x, j < i → l[j]? = some x → norm x ≠ n) ?_ l.length _ ⟨0, _, by simp, rfl, by simp, by simp, by simp, by simp⟩
  rintro k σ ⟨i, r, hik, rfl, r0, r1, r5, hall⟩
  cases k with
  | zero =>
    have hi : i = l.length := by omega
    subst hi
    have hx := at_all (P := fun j (x : Str) => norm x ≠ n) hall
    simp [r0, r1, r5, h.len]
    exact .inr ⟨fun j x hj => by simpa using hx j x hj, rfl⟩
  | succ k =>
    have hi : i < l.length := by omega
    obtain ⟨x, hx⟩ : ∃ c, l[i]? = some c := ⟨l[i], by simp [hi]⟩
    have hw : IntKind.i64.wrap ((i : Int) + 1) = ((i : Int) + 1) := wrap_i64 (by omega) (by omega)
    obtain ⟨id, o, e1, l0, _⟩ := strs_idx h hx
    have c1 := s_Norm (t := x) (H := H)
    by_cases g1 : norm x = n
    · simp [r0, r1, r5, hi, h.len, e1, l0, c1, g1]
      exact .inl ⟨i, x, hx, by simpa using g1, fun j y hj hy => by simpa using hall j y hj hy, rfl⟩
    · simp [r0, r1, r5, hi, h.len, e1, l0, c1, g1, hw]
      exact ⟨k, by omega, i + 1, by omega, by omega, at_step (P := fun j (x : Str) => norm x ≠ n) hall hx g1⟩

end Go.Proofs.Try1
end

section
namespace Go.Proofs.Try1
open Go Go.Lite
set_option linter.unusedSimpArgs false
set_option linter.unusedVariables false

theorem load_lt {H : List Ob} {id o : Nat} {x : V} (h : ∀ T : LT, T.one → ∀ r c, loadAt T ⟨r, c, H⟩ (.hp id o) = some x) : id < H.length := by
  by_cases hi : id < H.length
  · exact hi
  · have h1 := h ⟨.str, 1, 16, [.str []]⟩ one_str (fun _ => .val .undef) 0
    have h2 : H[id]? = none := List.getElem?_eq_none (by omega)
    simp [loadAt, cellsAt, h2] at h1

set_option maxRecDepth 10000 in
theorem s_Key {H : List Ob} {v : V} {l : List PRdn} (h : ARdns H v l) (hd : DnOk l) : callW C 122 [v] H = some (.str (keyD l), H) := by
  apply Ret.eq
  rw [op122]
  have hb := hd.2
  have hw0 : IntKind.i64.wrap ((l.length : Int) - 1) = (l.length : Int) - 1 := wrap_i64 (by omega) (by omega)
  simp [code122, Tryz.f122, h.len, hw0]
  refine WP_loop (fun m σ => ∃ (r : Nat → R), m ≤ l.length ∧ σ = ⟨r, 0, H⟩ ∧ r 0 = .val v ∧ r 3 = .val (.str (kacc l m)) ∧ r 4 = .val (.int .i64 ((m : Int) - 1))) ?_ l.length _ ⟨_, by omega, rfl, by simp, by simp [kacc_end], by simp⟩
  rintro m σ ⟨r, hm, rfl, r0, r3, r4⟩
  cases m with
  | zero =>
    simp at r4
    simp [r0, r3, r4, kacc_zero]
  | succ m =>
    have hi : m < l.length := by omega
    obtain ⟨x, hx⟩ : ∃ c, l[m]? = some c := ⟨l[m], by simp [hi]⟩
    have r4' : r 4 = .val (.int .i64 m) := by rw [r4]; congr 2; omega
    have hw : IntKind.i64.wrap ((m : Int) - 1) = (m : Int) - 1 := wrap_i64 (by omega) (by omega)
    obtain ⟨id, o, e1, l0, l1, _, _⟩ := rdns_idx h hx
    have c1 := s_Norm (t := x.value) (H := H)
    have k1 := kacc_len hd (m + 1)
    have k2 := (hd.1 m x hx).1.2.1
    have k3 := norm_len (t := x.value)
    have kst := kacc_step hx
    have b1 : (kacc l (m + 1)).length + 1 ≤ maxStr := by unfold maxStr; omega
    have b2 : (kacc l (m + 1)).length + (x.attr.length + 1) ≤ maxStr := by unfold maxStr; omega
    have b3 : (kacc l (m + 1)).length + (x.attr.length + 1 + 1) ≤ maxStr := by unfold maxStr; omega
    have b4 : (kacc l (m + 1)).length + (x.attr.length + ((norm x.value).length + 1) + 1) ≤ maxStr := by unfold maxStr; omega
    have hid := load_lt l0
    have b5 : (kacc l (m + 1)).length + 1 + x.attr.length ≤ maxStr := by unfold maxStr; omega
    have b6 : (kacc l (m + 1)).length + (x.attr.length + 1) + 1 ≤ maxStr := by unfold maxStr; omega
    have b7 : (kacc l (m + 1)).length + (x.attr.length + 1 + 1) + (norm x.value).length ≤ maxStr := by unfold maxStr; omega
    simp [r0, r3, r4', e1, l0, l1, c1, hw, strBin, b1, b2, b3, b4, b5, b6, b7, hid]
    exact ⟨m, by omega, by omega, by rw [kst]; simp [keyStep], rfl⟩
end Go.Proofs.Try1
end

section
namespace Go.Proofs.Try1
open Go Go.Lite
set_option linter.unusedSimpArgs false
set_option linter.unusedVariables false

abbrev LTstr : LT := ⟨.str, 1, 16, [.str []]⟩

set_option maxRecDepth 10000 in
theorem l_Grow {H : List Ob} {n : Nat} (hn : n ≤ 1000) : callW C 344 [.slc none 0, .int .i64 n] H = some (if n = 0 then (.slc none 0, H) else (.slc (some (H.length, 0)) 0, H ++ [.mk true 1 (zerosL LTstr n)])) := by
  have hw0 : IntKind.i64.wrap 0 = 0 := rfl
  have hwn : IntKind.i64.wrap (n : Int) = n := wrap_i64 (by omega) (by omega)
  have h1 : ¬ ((n : Int) < 0) := by omega
  by_cases h0 : n = 0
  · subst h0
    rw [if_pos rfl]
    apply Ret.eq
    rw [op344]
    simp [code344, Tryz.f344, hw0]
  · rw [if_neg h0]
    have h2 : (0 : Int) < n := by omega
    have h2' : 0 < n := by omega
    have h3 : (n : Int) * 16 ≤ 1099511627776 := by omega
    suffices hs : Ret C 344 [.slc none 0, .int .i64 n] H fun q H' => q = .slc (some (H.length, 0)) 0 ∧ H' = H ++ [.mk true 1 (zerosL LTstr n)] by
      obtain ⟨q, H', hc, rfl, rfl⟩ := hs
      exact hc
    rw [op344]
    simp [code344, Tryz.f344, hw0, hwn, h1, h2, h2', elemT, appendZ, growOk, maxMade, h3, strideIs]

theorem app_fill {H : List Ob} {ds xs zs : List V} {m : Nat} {x : V} (hx : newCells LTstr (H ++ [.mk true 1 (ds ++ zs)]) x = some (xs, m)) (hm : xs.length = m) (hm0 : m ≠ 0) (hone : xs.all isOne = true) (hz : m ≤ zs.length) :
    appendV LTstr (H ++ [.mk true 1 (ds ++ zs)]) (.slc (some (H.length, 0)) ds.length) x = some (.slc (some (H.length, 0)) (ds.length + m), H ++ [.mk true 1 (ds ++ xs ++ zs.drop m)]) := by
  unfold appendV
  rw [if_pos (by simp [growOk]), hx]
  simp only [if_neg hm0, hone, if_true, get_last]
  have e1 : 0 + (ds.length + m) * 1 ≤ (ds ++ zs).length := by simp; omega
  rw [if_pos e1, set_last]
  congr 4
  unfold setRange
  rw [Nat.zero_add, Nat.mul_one, List.take_left, hm, List.drop_append]
  simp
theorem app_none {H : List Ob} {s x : V} {xs : List V} (hx : newCells LTstr H x = some (xs, 0)) (hs : ∃ p n, s = .slc (some p) n ∨ s = .slc none 0) : appendV LTstr H s x = some (s, H) := by
  unfold appendV
  rw [if_pos (by simp [growOk]), hx]
  obtain ⟨p, n, rfl | rfl⟩ := hs <;> simp

theorem zerosL_str {n : Nat} : (zerosL LTstr n).length = n := by simp [zerosL]

/-- The first lists, one behind the other. -/
def fl (ls : List (List Str)) (i : Nat) : List Str := (ls.take i).flatten
theorem fl_zero {ls : List (List Str)} : fl ls 0 = [] := by simp [fl]
theorem fl_step {ls : List (List Str)} {i : Nat} {l : List Str} (h : ls[i]? = some l) : fl ls (i + 1) = fl ls i ++ l := by
  unfold fl
  rw [take_get h, List.flatten_append]
  simp
theorem fl_le {ls : List (List Str)} {i : Nat} : (fl ls i).length ≤ (fl ls ls.length).length := by
  unfold fl
  have := congrArg List.length (congrArg List.flatten (List.take_append_drop i ls))
  rw [List.flatten_append, List.length_append] at this
  rw [List.take_length]
  omega

set_option maxRecDepth 10000 in
set_option maxHeartbeats 4000000 in
theorem l_Concat {H : List Ob} {id : Nat} {own : Bool} {ws : List V} {ls : List (List Str)} (h0 : H[id]? = some (.mk own 1 ws)) (hl : ws.length = ls.length) (hw : ∀ (i : Nat) w l, ws[i]? = some w → ls[i]? = some l → AStrs H w l)
    (hb : (fl ls ls.length).length ≤ 1000) (hb2 : ls.length ≤ 1000) : ∃ T w, callW C 253 [.slc (some (id, 0)) ls.length] H = some (w, H ++ T) ∧ Own H (H ++ T) w (fl ls ls.length) := by
  suffices hs : Ret C 253 [.slc (some (id, 0)) ls.length] H fun q H' => ∃ T, H' = H ++ T ∧ Own H (H ++ T) q (fl ls ls.length) by
    obtain ⟨q, H', hc, T, rfl, hr⟩ := hs
    exact ⟨T, q, hc, hr⟩
  rw [op253]
  simp [code253, Tryz.f253]
  refine WP_loop (fun k σ => ∃ (i : Nat) (r : Nat → R), i + k = ls.length ∧ σ = ⟨r, 0, H⟩ ∧ r 0 = .val (.slc (some (id, 0)) ls.length) ∧ r 3 = .val (.int .i64 ((fl ls i).length : Nat)) ∧ r 9 = .val (.slc (some (id, 0)) ls.length) ∧ r 10 = .val (.int .i64 ls.length) ∧ r 11 = .val (.int .i64 i)) ?_ ls.length _ ⟨0, _, by simp, rfl, by simp, by simp [fl_zero], by simp, by simp, by simp⟩
  rintro k σ ⟨i, r, hik, rfl, r0, r3, r9, r10, r11⟩
  cases k with
  | succ k =>
    have hi : i < ls.length := by omega
    obtain ⟨w, hwi⟩ : ∃ w, ws[i]? = some w := ⟨ws[i]'(by omega), List.getElem?_eq_getElem _⟩
    obtain ⟨l, hli⟩ : ∃ l, ls[i]? = some l := ⟨ls[i], List.getElem?_eq_getElem hi⟩
    have hs := hw i w l hwi hli
    have ld := load1 h0 hwi
    have hf := fl_step hli
    have hle := fl_le (ls := ls) (i := i + 1)
    have hfl := congrArg List.length hf
    rw [List.length_append] at hfl
    have hw1 : IntKind.i64.wrap ((i : Int) + 1) = ((i : Int) + 1) := wrap_i64 (by omega) (by omega)
    have hw2 : IntKind.i64.wrap (((fl ls i).length : Nat) + (l.length : Int)) = (((fl ls (i + 1)).length : Nat) : Int) := by rw [wrap_i64 (by omega) (by omega)]; omega
    have hn : ¬ ((((fl ls (i + 1)).length : Nat) : Int) < 0) := by omega
    simp [r0, r3, r9, r10, r11, hi, ld, hs.len, hw1, hw2, hn]
    exact ⟨k, by omega, i + 1, by omega, rfl, by omega⟩
  | zero =>
  have hi : i = ls.length := by omega
  subst hi
  have hg := l_Grow (H := H) (n := (fl ls ls.length).length) hb
  generalize hN : (fl ls ls.length).length = N at r3 hg hb
  by_cases hN0 : N = 0
  · rw [if_pos hN0] at hg
    simp [r0, r3, r9, r10, r11, hg]
    refine WP_loop (fun k σ => ∃ (i : Nat) (r : Nat → R), i + k = ls.length ∧ σ = ⟨r, 0, H⟩ ∧ r 6 = .val (.slc none 0) ∧ r 25 = .val (.slc (some (id, 0)) ls.length) ∧ r 26 = .val (.int .i64 ls.length) ∧ r 27 = .val (.int .i64 i)) ?_ ls.length _ ⟨0, _, by simp, rfl, by simp, by simp [r0], by simp, by simp⟩
    clear hik r0 r3 r9 r10 r11 r
    rintro k σ ⟨i, r, hik, rfl, r6, r25, r26, r27⟩
    cases k with
    | zero =>
      have hi : i = ls.length := by omega
      subst hi
      simp [r6, r25, r26, r27]
      exact .inl ⟨rfl, List.length_eq_zero_iff.1 (by omega)⟩
    | succ k =>
      have hi : i < ls.length := by omega
      obtain ⟨w, hwi⟩ : ∃ w, ws[i]? = some w := ⟨ws[i]'(by omega), List.getElem?_eq_getElem _⟩
      obtain ⟨l, hli⟩ : ∃ l, ls[i]? = some l := ⟨ls[i], List.getElem?_eq_getElem hi⟩
      have hs := hw i w l hwi hli
      have ld := load1 h0 hwi
      have hl0 : l.length = 0 := by
        have h1 := congrArg List.length (fl_step hli)
        have h2 := fl_le (ls := ls) (i := i + 1)
        rw [List.length_append] at h1
        omega
      obtain ⟨p, rfl, hc, _⟩ := strs_cells (T := []) hs
      rw [hl0] at hc ld
      have ha := app_none (s := .slc none 0) (H := H) (x := .slc p 0) (xs := []) (by simp [newCells, slcCells]; cases p <;> simp) ⟨(0, 0), 0, .inr rfl⟩
      have hw1 : IntKind.i64.wrap ((i : Int) + 1) = ((i : Int) + 1) := wrap_i64 (by omega) (by omega)
      simp [r6, r25, r26, r27, hi, ld, elemT, ha, hw1]
      exact ⟨k, by omega, i + 1, by omega, by omega⟩
  · rw [if_neg hN0] at hg
    simp [r0, r3, r9, r10, r11, hg]
    refine WP_loop (fun k σ => ∃ (i : Nat) (r : Nat → R) (zs : List V), i + k = ls.length ∧ σ = ⟨r, 0, H ++ [.mk true 1 ((fl ls i).map V.str ++ zs)]⟩ ∧ (fl ls i).length + zs.length = N ∧ r 6 = .val (.slc (some (H.length, 0)) (fl ls i).length) ∧ r 25 = .val (.slc (some (id, 0)) ls.length) ∧ r 26 = .val (.int .i64 ls.length) ∧ r 27 = .val (.int .i64 i)) ?_ ls.length _ ⟨0, _, zerosL LTstr N, by simp, by rw [fl_zero]; rfl, by simp [zerosL_str, fl_zero], by simp [fl_zero], by simp [r0], by simp, by simp⟩
    clear hik r0 r3 r9 r10 r11 r
    rintro k σ ⟨i, r, zs, hik, rfl, hzs, r6, r25, r26, r27⟩
    cases k with
    | zero =>
      have hi : i = ls.length := by omega
      subst hi
      have hz0 : zs = [] := List.length_eq_zero_iff.1 (by omega)
      subst hz0
      rw [List.append_nil]
      have hgs : Gs H (H ++ [.mk true 1 ((fl ls ls.length).map V.str)]) (.slc (some (H.length, 0)) (fl ls ls.length).length) ((fl ls ls.length).map V.str) := ⟨_, H.length, rfl, Nat.le_refl _, get_last, by simp⟩
      simp [r6, r25, r26, r27]
      exact .inr hgs
    | succ k =>
      have hi : i < ls.length := by omega
      obtain ⟨w, hwi⟩ : ∃ w, ws[i]? = some w := ⟨ws[i]'(by omega), List.getElem?_eq_getElem _⟩
      obtain ⟨l, hli⟩ : ∃ l, ls[i]? = some l := ⟨ls[i], List.getElem?_eq_getElem hi⟩
      have hs := hw i w l hwi hli
      have hf := fl_step hli
      have hfl := congrArg List.length hf
      rw [List.length_append] at hfl
      have hle := fl_le (ls := ls) (i := i + 1)
      have ld := load1 (H := H ++ [.mk true 1 ((fl ls i).map V.str ++ zs)]) (up_append _ _ h0) hwi
      obtain ⟨p, rfl, hc, _⟩ := strs_cells (T := [.mk true 1 ((fl ls i).map V.str ++ zs)]) hs
      have hw1 : IntKind.i64.wrap ((i : Int) + 1) = ((i : Int) + 1) := wrap_i64 (by omega) (by omega)
      have hnc : newCells LTstr (H ++ [.mk true 1 ((fl ls i).map V.str ++ zs)]) (.slc p l.length) = some (l.map V.str, l.length) := by
        simp only [newCells, Nat.mul_one, hc]
      by_cases hl0 : l.length = 0
      · have hl1 : l = [] := List.length_eq_zero_iff.1 hl0
        subst hl1
        have ha := app_none (s := .slc (some (H.length, 0)) (fl ls i).length) hnc ⟨_, _, .inl rfl⟩
        rw [List.append_nil] at hf
        rw [← hf] at ha ld r6 hzs ⊢
        simp at ld ha
        simp [r6, r25, r26, r27, hi, ld, elemT, ha, hw1]
        exact ⟨k, by omega, i + 1, by omega, _, zs, ⟨rfl, rfl⟩, by omega, by simp [r6], by simp [r25], by simp [r26], by simp⟩
      · have ha := app_fill (H := H) (ds := (fl ls i).map V.str) (zs := zs) hnc (by simp) hl0 (by simp) (by omega)
        rw [List.length_map] at ha
        rw [← List.map_append, ← hf] at ha
        simp [r6, r25, r26, r27, hi, ld, elemT, ha, hw1]
        exact ⟨k, by omega, i + 1, by omega, _, zs.drop l.length, ⟨rfl, rfl⟩, by simp; omega, by simp; omega, by simp [r25], by simp [r26], by simp⟩
end Go.Proofs.Try1
end

section
namespace Go.Proofs.Try1
open Go Go.Lite
set_option linter.unusedSimpArgs false
set_option linter.unusedVariables false

theorem strsOf_map : ∀ (l : List Str), strsOf (l.map V.str) = some l
  | [] => rfl
  | s :: l => by simp only [List.map_cons, strsOf, strsOf_map l]

def sorted (l : List Str) : List Str := l.mergeSort fun x y => decide (x ≤ y)
theorem sorted_len {l : List Str} : (sorted l).length = l.length := List.length_mergeSort l
theorem sorted_perm {l : List Str} : (sorted l).Perm l := List.mergeSort_perm l _

theorem prim_sort {G : List Ob} {id : Nat} {l : List Str} (h : G[id]? = some (.mk true 1 (l.map V.str))) (h0 : 0 < l.length) (hl : l.length ≤ 1000000) :
    callW C 341 [.slc (some (id, 0)) l.length] G = some (.tup [], G.set id (.mk true 1 ((sorted l).map V.str))) := by
  rw [callW_prim (pr := sortPrim) rfl]
  simp only [sortPrim, if_neg (show ¬ l.length = 0 by omega), h]
  rw [if_pos ⟨trivial, by simp, hl⟩]
  rw [List.drop_zero, List.take_of_length_le (by simp), strsOf_map]
  simp only
  congr 4
  unfold setRange
  simp [sorted]

/-- No two neighbours are the same. -/
def Apart (l : List Str) : Prop := ∀ (i : Nat) x, l[i]? = some x → l[i + 1]? ≠ some x

theorem keep_append {H G : List Ob} (h : ∀ q, q < H.length → G[q]? = H[q]?) (hl : H.length ≤ G.length) : ∃ T, G = H ++ T := by
  refine ⟨G.drop H.length, ?_⟩
  apply List.ext_getElem?
  intro q
  by_cases hq : q < H.length
  · rw [h q hq, List.getElem?_append_left hq]
  · rw [List.getElem?_append_right (by omega), List.getElem?_drop]
    congr 1
    omega

theorem gcH_leq {H H' : List Ob} {r : V} (h : H'.length = H.length) : gcH H H' r = H' := by
  unfold gcH
  split
  · rename_i hc
    obtain ⟨⟨T, rfl⟩, _⟩ := hc
    simp at h
    rw [h, List.append_nil]
  · rfl

set_option maxRecDepth 10000 in
set_option maxHeartbeats 8000000 in
theorem l_Compact {G0 : List Ob} {id : Nat} {l : List Str} (h : G0[id]? = some (.mk true 1 (l.map V.str))) (hl : l.length ≤ 1000) :
    ∃ G' k, callW C 342 [.slc (some (id, 0)) l.length] G0 = some (.slc (some (id, 0)) k, G') ∧ G'.length = G0.length ∧ (∀ q, q ≠ id → G'[q]? = G0[q]?) ∧ (k = l.length ↔ Apart l) := by
  suffices hs : Ret C 342 [.slc (some (id, 0)) l.length] G0 fun w G' => ∃ k, w = .slc (some (id, 0)) k ∧ G'.length = G0.length ∧ (∀ q, q ≠ id → G'[q]? = G0[q]?) ∧ (k = l.length ↔ Apart l) by
    obtain ⟨w, G', hc, k, rfl, h1, h2, h3⟩ := hs
    exact ⟨G', k, hc, h1, h2, h3⟩
  rw [op342]
  by_cases hl2 : (l.length : Int) < 2
  · have ha : Apart l := fun i x _ hx => by
      have := (List.getElem?_eq_some_iff.1 hx).1
      omega
    simp [code342, Tryz.f342, hl2, ha]
  simp [code342, Tryz.f342, hl2]
  refine WP_loop (fun m σ => ∃ (k : Nat) (r : Nat → R), k + m = l.length ∧ σ = ⟨r, 0, G0⟩ ∧ r 0 = .val (.slc (some (id, 0)) l.length) ∧ r 3 = .val (.int .i64 k) ∧ 1 ≤ k ∧ ∀ i x, i + 1 < k → l[i]? = some x → l[i + 1]? ≠ some x) ?_ (l.length - 1) _ ⟨1, _, by omega, rfl, by simp, by simp, by omega, fun i x h => by omega⟩
  rintro m σ ⟨k, r, hkm, rfl, r0, r3, hk1, hall⟩
  cases m with
  | zero =>
    have hk : k = l.length := by omega
    subst hk
    have ha : Apart l := fun i x hx hx' => hall i x (List.getElem?_eq_some_iff.1 hx').1 hx hx'
    simp [r0, r3, ha]
  | succ m =>
    have hk : k < l.length := by omega
    have hkI : (k : Int) < l.length := by omega
    obtain ⟨x, hx⟩ : ∃ c, l[k]? = some c := ⟨l[k], by simp [hk]⟩
    obtain ⟨y, hy⟩ : ∃ c, l[k - 1]? = some c := ⟨l[k - 1]'(by omega), by simp⟩
    have hw : IntKind.i64.wrap ((k : Int) + 1) = ((k : Int) + 1) := wrap_i64 (by omega) (by omega)
    have hw1 : IntKind.i64.wrap ((k : Int) - 1) = ((k - 1 : Nat) : Int) := by rw [wrap_i64 (by omega) (by omega)]; omega
    have hk' : ((k - 1 : Nat) : Int) < l.length := by omega
    have hk'' : k - 1 < l.length := by omega
    have ldx := load1 (o := k) (v := .str x) h (by simp [hx])
    have ldy := load1 (o := k - 1) (v := .str y) h (by simp [hy])
    by_cases hxy : x = y
    rotate_left
    · simp [r0, r3, hk, hk'', ldx, ldy, hw, hw1, hxy, regionL_none]
      refine ⟨m, by omega, k + 1, by omega, by omega, by omega, fun i z hi hz => ?_⟩
      by_cases hik : i + 1 = k
      · have : i = k - 1 := by omega
        subst this
        rw [hy] at hz
        cases hz
        rw [hik, hx]
        simpa using hxy
      · exact hall i z (by omega) hz
    have hna : ¬ Apart l := fun ha => ha (k - 1) y hy (by rw [show k - 1 + 1 = k by omega, hx, hxy])
    have hst : strideIs G0 id 1 = true := by simp [strideIs, h]
    have hle : k ≤ l.length := by omega
    simp [r0, r3, hk, hk'', hle, ldx, ldy, hw1, hxy, hst, regionL_none]
    refine WP_loop (fun m σ => ∃ (k2 k' : Nat) (r : Nat → R) (G : List Ob) (cs : List Str), k2 + m = l.length - k ∧ σ = ⟨r, 0, G⟩ ∧ r 0 = .val (.slc (some (id, 0)) l.length) ∧ r 3 = .val (.int .i64 k') ∧ r 4 = .val (.slc (some (id, k)) (l.length - k)) ∧ r 5 = .val (.int .i64 k2) ∧ 1 ≤ k2 ∧ k' + 1 ≤ k + k2 ∧
      G.length = G0.length ∧ (∀ q, q ≠ id → G[q]? = G0[q]?) ∧ G[id]? = some (.mk true 1 (cs.map V.str)) ∧ cs.length = l.length) ?_ (l.length - k - 1) _ ⟨1, k, _, G0, l, by omega, rfl, by simp [r0], by simp [r3], by simp, by simp, by omega, by omega, rfl, fun _ _ => rfl, h, rfl⟩
    clear r0 r3 r hst
    rintro m2 σ ⟨k2, k', r, G, cs, hkm2, rfl, r0, r3, r4, r5, hk2, hkk, hG1, hG2, hG3, hcs⟩
    have hst : strideIs G id 1 = true := by simp [strideIs, hG3]
    have hid : id < G.length := (List.getElem?_eq_some_iff.1 hG3).1
    cases m2 with
    | zero =>
      have hk2' : ((l.length - k : Nat) : Int) = k2 := by omega
      have hk2'' : l.length - k = k2 := by omega
      have hlt : k' < l.length := by omega
      have hle' : k' ≤ l.length := by omega
      have hnz : ¬ (l.length - k' = 0) := by omega
      have hwa : ∀ r c, writeAt ⟨r, c, G⟩ (.hp id k') (zerosL LTstr (l.length - k')) = some ⟨r, c, G.set id (.mk true 1 (setRange (cs.map V.str) k' (zerosL LTstr (l.length - k'))))⟩ := by
        intro r c
        simp only [writeAt, hG3]
        rw [if_pos (by rw [zerosL_str, List.length_map]; omega)]
      have hst2 : ∀ o, strideIs (G.set id (.mk true 1 o)) id 1 = true := fun o => by simp [strideIs, hid]
      have hne : ¬ (k' = l.length) := by omega
      have hgl : ∀ o w, gcH G0 (G.set id o) w = G.set id o := fun o w => gcH_leq (by rw [List.length_set]; exact hG1)
      simp [r0, r3, r4, r5, hk2'', hle', hst, elemT, hnz, hwa, hst2, hgl, -setRange]
      refine ⟨hG1, fun q hq => ?_, fun h => absurd h hne, fun h => absurd h hna⟩
      rw [List.getElem?_set_ne (Ne.symm hq)]
      exact hG2 q hq
    | succ m2 =>
      have hlt : k2 < l.length - k := by omega
      obtain ⟨a, ha⟩ : ∃ c, cs[k + k2]? = some c := ⟨cs[k + k2]'(by omega), by simp⟩
      obtain ⟨b, hb⟩ : ∃ c, cs[k + (k2 - 1)]? = some c := ⟨cs[k + (k2 - 1)]'(by omega), by simp⟩
      have ld1 := load1 (o := k + k2) (v := .str a) hG3 (by simp [ha])
      have ld2 := load1 (o := k + (k2 - 1)) (v := .str b) hG3 (by simp [hb])
      have hw2 : IntKind.i64.wrap ((k2 : Int) - 1) = ((k2 - 1 : Nat) : Int) := by rw [wrap_i64 (by omega) (by omega)]; omega
      have hw3 : IntKind.i64.wrap ((k2 : Int) + 1) = ((k2 : Int) + 1) := wrap_i64 (by omega) (by omega)
      have hw4 : IntKind.i64.wrap ((k' : Int) + 1) = ((k' : Int) + 1) := wrap_i64 (by omega) (by omega)
      have hlt2 : k2 - 1 < l.length - k := by omega
      have hlt3 : k' < l.length := by omega
      by_cases hab : a = b
      · simp [r0, r3, r4, r5, hlt, hlt2, ld1, ld2, hw2, hw3, hab, regionL_none]
        exact ⟨m2, by omega, k2 + 1, by omega, k', _, G, ⟨rfl, rfl⟩, by simp [r0], by simp [r3], by simp [r4], by simp, by omega, by omega, hG1, hG2, cs, hG3, hcs⟩
      · have st := store1 (v := .str a) (o := k') hG3 (by simp; omega) rfl rfl
        simp [r0, r3, r4, r5, hlt, hlt2, hlt3, ld1, ld2, hw2, hw3, hw4, hab, regionL_none, st]
        exact ⟨m2, by omega, k2 + 1, by omega, k' + 1, _, _, ⟨rfl, rfl⟩, by simp [r0], by simp, by simp [r4], by simp, by omega, by omega, by simpa using hG1, fun q hq => by rw [List.getElem?_set_ne (Ne.symm hq)]; exact hG2 q hq, cs.set k' a, by rw [List.getElem?_set_self hid, List.map_set], by simpa using hcs⟩
end Go.Proofs.Try1
end

section
namespace Go.Proofs.Try1
open Go Go.Lite
set_option linter.unusedSimpArgs false
set_option linter.unusedVariables false

theorem nodup_apart {l : List Str} (h : l.Pairwise fun a b => a ≤ b) : Apart l ↔ l.Nodup := by
  constructor
  · intro ha
    induction l with
    | nil => exact List.nodup_nil
    | cons x l ih =>
      rw [List.pairwise_cons] at h
      rw [List.nodup_cons]
      have ha' : Apart l := fun i y hy => ha (i + 1) y (by simpa using hy)
      refine ⟨fun hx => ?_, ih h.2 ha'⟩
      cases l with
      | nil => cases hx
      | cons y l =>
        have hxy : x ≠ y := fun he => ha 0 x rfl (by simp [he])
        have h1 : x ≤ y := h.1 y List.mem_cons_self
        rcases List.mem_cons.1 hx with rfl | hx
        · exact hxy rfl
        · have h2 : y ≤ x := (List.pairwise_cons.1 h.2).1 x hx
          exact hxy (List.le_antisymm h1 h2)
  · intro hn i x h1 h2
    obtain ⟨hi, h1⟩ := List.getElem?_eq_some_iff.1 h1
    obtain ⟨hi2, h2⟩ := List.getElem?_eq_some_iff.1 h2
    exact List.pairwise_iff_getElem.1 hn i (i + 1) hi hi2 (by omega) (h1.trans h2.symm)

theorem sorted_pair {l : List Str} : (sorted l).Pairwise fun a b => a ≤ b := by
  have := List.pairwise_mergeSort (le := fun x y : Str => decide (x ≤ y)) (fun a b c h1 h2 => by simp at h1 h2 ⊢; exact List.le_trans h1 h2) (fun a b => by simp; exact List.le_total a b) l
  exact this.imp fun h => by simpa using h

set_option maxRecDepth 10000 in
set_option maxHeartbeats 4000000 in
theorem i_union {H : List Ob} {id : Nat} {own : Bool} {va : V} {l : List Str} (h0 : H[id]? = some (.mk own 1 [va])) (hw : AStrs H va l) (hb : l.length ≤ 1000) :
    ∃ T p n, callW C 247 [.slc (some (id, 0)) 1] H = some (.slc p n, H ++ T) ∧ (n = l.length ↔ l.Nodup) := by
  suffices hs : Ret C 247 [.slc (some (id, 0)) 1] H fun q H' => ∃ T p n, q = .slc p n ∧ H' = H ++ T ∧ (n = l.length ↔ l.Nodup) by
    obtain ⟨q, H', hc, T, p, n, rfl, rfl, hr⟩ := hs
    exact ⟨T, p, n, hc, hr⟩
  rw [op247]
  have hfl : fl [l] 1 = l := by simp [fl]
  obtain ⟨T, w, c1, hown⟩ := l_Concat (ls := [l]) h0 rfl (fun i w l' h1 h2 => by
    cases i with
    | zero => cases h1; cases h2; exact hw
    | succ i => simp at h1) (by simp only [List.length_singleton, hfl]; exact hb) (by simp)
  simp only [List.length_singleton, hfl] at c1 hown
  rcases hown with ⟨rfl, rfl⟩ | hgs
  · have c2 : callW C 341 [.slc none 0] (H ++ T) = some (.tup [], H ++ T) := callW_prim (pr := sortPrim) rfl
    have c3 : callW C 342 [.slc none 0] (H ++ T) = some (.slc none 0, H ++ T) := by
      apply Ret.eq
      rw [op342]
      simp [code342, Tryz.f342]
    simp [code247, Tryz.f247, c1, c2, c3]
    exact ⟨[], by simp [gcH, ext_append, lowV]⟩
  · obtain ⟨T', id', hT, h1, h2, rfl⟩ := hgs
    have hT' := List.append_cancel_left hT
    subst hT'
    rw [List.length_map] at c1
    have hid : id' < (H ++ T).length := (List.getElem?_eq_some_iff.1 h2).1
    by_cases hl0 : l.length = 0
    · have : l = [] := List.length_eq_zero_iff.1 hl0
      subst this
      have c2 : callW C 341 [.slc (some (id', 0)) 0] (H ++ T) = some (.tup [], H ++ T) := callW_prim (pr := sortPrim) rfl
      have c3 : callW C 342 [.slc (some (id', 0)) 0] (H ++ T) = some (.slc (some (id', 0)) 0, H ++ T) := by
        apply Ret.eq
        rw [op342]
        simp [code342, Tryz.f342]
      have hgc : gcH H (H ++ T) (.slc (some (id', 0)) 0) = H ++ T := Gs.gc ⟨T, id', rfl, h1, h2, rfl⟩
      simp at c1
      simp [code247, Tryz.f247, c1, c2, c3, hgc]
    · have c2 := prim_sort h2 (by omega) (by omega)
      obtain ⟨G', k, c3, k1, k2, k3⟩ := l_Compact (l := sorted l) (G0 := (H ++ T).set id' (.mk true 1 ((sorted l).map V.str))) (id := id') (by rw [List.getElem?_set_self hid]) (by rw [sorted_len]; exact hb)
      rw [sorted_len] at c3 k3
      rw [List.length_set] at k1
      obtain ⟨T2, hT2⟩ : ∃ T2, G' = H ++ T2 := keep_append (fun q hq => by
        rw [k2 q (by omega), List.getElem?_set_ne (by omega), List.getElem?_append_left hq]) (by rw [k1]; simp)
      subst hT2
      have hgc : ∀ n, gcH H (H ++ T2) (.slc (some (id', 0)) n) = H ++ T2 := fun n => by
        unfold gcH
        rw [if_neg]
        rintro ⟨_, own, es, cells, h⟩
        have := (List.getElem?_eq_some_iff.1 h).1
        omega
      have hnd : k = l.length ↔ l.Nodup := by
        rw [k3, nodup_apart sorted_pair]
        exact sorted_perm.nodup_iff
      simp [code247, Tryz.f247, c1, c2, c3, hgc]
      exact ⟨T2, _, _, ⟨rfl, rfl⟩, rfl, hnd⟩
end Go.Proofs.Try1
end

section
namespace Go.Proofs.Try1
open Go Go.Lite
set_option linter.unusedSimpArgs false
set_option linter.unusedVariables false

theorem Own.strs {H G : List Ob} {w : V} {l : List Str} (h : Own H G w l) (hl : l.length ≤ maxLen) (hs : ∀ s ∈ l, s.length ≤ maxLen) : AStrs G w l := by
  rcases h with ⟨rfl, rfl⟩ | h
  · exact At_slice.2 ⟨_, _, rfl, rfl, by simp, .inl ⟨rfl, rfl⟩⟩
  · exact (h.strs hl hs).1
theorem strs_max {H : List Ob} {v : V} {l : List Str} (h : AStrs H v l) : ∀ s ∈ l, s.length ≤ maxLen := fun s hs => by
  obtain ⟨j, hj, rfl⟩ := List.getElem_of_mem hs
  obtain ⟨_, _, _, _, h⟩ := strs_idx h (List.getElem?_eq_getElem hj)
  exact h
theorem Keep_both {H X Y : List Ob} : Keep H.length (H ++ X) (H ++ Y) := fun id hid => by rw [List.getElem?_append_left hid, List.getElem?_append_left hid]
theorem Keep_one {H Y : List Ob} : Keep H.length H (H ++ Y) := fun id hid => by rw [List.getElem?_append_left hid]
theorem Own.one {H G : List Ob} {w : V} {l : List Str} (h : Own H G w l) : isOne w = true ∧ cellsOf w = some [w] := by
  rcases h with ⟨rfl, rfl⟩ | h
  · exact ⟨rfl, rfl⟩
  · exact h.one

theorem LtS_iff : ∀ (a b : Str), LtS a b ↔ a < b
  | a, [] => by simp [LtS, Op.bytesLess]
  | [], b :: bs => by simp [LtS, Op.bytesLess]
  | a :: as', b :: bs => by
    have := LtS_iff as' bs
    unfold LtS at this ⊢
    simp [Op.bytesLess, List.cons_lt_cons_iff, this]
theorem names_pair : ∀ {l : List Str}, NamesOk l → l.Pairwise fun a b => a < b
  | [], _ => .nil
  | [x], _ => by simp
  | x :: y :: l, h => by
    have h' : NamesOk (y :: l) := fun j z hz => by
      obtain ⟨h1, h2⟩ := h (j + 1) z (by simpa using hz)
      refine ⟨h1, fun v hj hv => h2 v (by omega) ?_⟩
      rw [show j + 1 - 1 = (j - 1) + 1 by omega]
      simpa using hv
    have ih := names_pair h'
    have hxy : x < y := (LtS_iff x y).1 ((h 1 y rfl).2 x (by omega) rfl)
    rw [List.pairwise_cons]
    refine ⟨fun z hz => ?_, ih⟩
    rcases List.mem_cons.1 hz with rfl | hz
    · exact hxy
    · exact List.lt_trans hxy ((List.pairwise_cons.1 ih).1 z hz)
theorem names_nodup {l : List Str} (h : NamesOk l) : l.Nodup := (names_pair h).imp fun h e => by subst e; exact List.lt_irrefl _ h

set_option maxRecDepth 10000 in
set_option maxHeartbeats 8000000 in
theorem i_Class {H : List Ob} {w1 w2 w3 : V} {c : PClass} (h1 : AStrs H w1 c.must) (h2 : AStrs H w2 c.may) (h3 : AStrs H w3 c.single) : callW C 149 [.agg [.str c.name, w1, w2, w3]] H = some (.bool (dec (ClassOk c)), H) := by
  apply Ret.dec
  rw [op149]
  simp [code149, Tryz.f149, h1.one, h2.one, h3.one, elemT, fillL, zerosL, St.new]
  refine WP_loop (fun k σ => ∃ (i : Nat) (r : Nat → R), i + k = 3 ∧ σ = ⟨r, 1, H ++ [.mk true 1 [w1, w2, w3]]⟩ ∧ r 1 = .box 0 [.str c.name, w1, w2, w3] ∧ r 12 = .val (.slc (some (H.length, 0)) 3) ∧ r 13 = .val (.int .i64 3) ∧ r 14 = .val (.int .i64 i) ∧ ∀ j l, j < i → [c.must, c.may, c.single][j]? = some l → l.length ≤ 10 ∧ NamesOk l) ?_ 3 _ ⟨0, _, by simp, rfl, by simp, by simp, by simp, by simp, by simp⟩
  rintro k σ ⟨i, r, hik, rfl, r1, r12, r13, r14, hall⟩
  cases k with
  | succ k =>
    have hi : i < 3 := by omega
    have hiI : (i : Int) < 3 := by omega
    obtain ⟨l, w, hli, hwi, hs, hcl⟩ : ∃ l w, [c.must, c.may, c.single][i]? = some l ∧ [w1, w2, w3][i]? = some w ∧ AStrs H w l ∧ (ClassOk c → l.length ≤ 10 ∧ NamesOk l) := by
      match i, hi with
      | 0, _ => exact ⟨_, _, rfl, rfl, h1, fun h => ⟨h.l1, h.n1⟩⟩
      | 1, _ => exact ⟨_, _, rfl, rfl, h2, fun h => ⟨h.l2, h.n2⟩⟩
      | 2, _ => exact ⟨_, _, rfl, rfl, h3, fun h => ⟨h.l3, h.n3⟩⟩
    have ld := load1 (H := H ++ [.mk true 1 [w1, w2, w3]]) (o := i) get_last hwi
    have hw : IntKind.i64.wrap ((i : Int) + 1) = ((i : Int) + 1) := wrap_i64 (by omega) (by omega)
    have c1 := i_Names (hs.ext (T := [.mk true 1 [w1, w2, w3]]))
    by_cases g1 : (l.length : Int) > 10
    · have hn : ¬ ClassOk c := fun h => by have := (hcl h).1; omega
      simp [r1, r12, r13, r14, hiI, hi, ld, (hs.ext (T := [.mk true 1 [w1, w2, w3]])).len, g1, hn]
    by_cases g2 : NamesOk l
    · rw [dec_pos g2] at c1
      simp [r1, r12, r13, r14, hiI, hi, ld, (hs.ext (T := [.mk true 1 [w1, w2, w3]])).len, g1, c1, hw]
      exact ⟨k, by omega, i + 1, by omega, by omega, at_step (P := fun j (l : List Str) => l.length ≤ 10 ∧ NamesOk l) hall hli ⟨by omega, g2⟩⟩
    · rw [dec_neg g2] at c1
      have hn : ¬ ClassOk c := fun h => g2 (hcl h).2
      simp [r1, r12, r13, r14, hiI, hi, ld, (hs.ext (T := [.mk true 1 [w1, w2, w3]])).len, g1, c1, hn]
  | zero =>
  have hi : i = 3 := by omega
  subst hi
  obtain ⟨m1, m2⟩ := hall 0 c.must (by omega) rfl
  obtain ⟨m3, m4⟩ := hall 1 c.may (by omega) rfl
  obtain ⟨m5, m6⟩ := hall 2 c.single (by omega) rfl
  have hfl : fl [c.must, c.may] 2 = c.must ++ c.may := by simp [fl]
  obtain ⟨T, w, c1, hown⟩ := l_Concat (H := H ++ [.mk true 1 [w1, w2, w3]] ++ [.mk true 1 [w1, w2]]) (id := H.length + 1) (ls := [c.must, c.may]) (ws := [w1, w2]) (own := true) (by rw [List.getElem?_append_right (by simp)]; simp) rfl (fun i v l g1 g2 => by
    match i with
    | 0 => cases g1; cases g2; exact h1.ext.ext
    | 1 => cases g1; cases g2; exact h2.ext.ext
    | i + 2 => simp at g1) (by simp only [List.length_cons, List.length_nil, Nat.reduceAdd, hfl, List.length_append]; omega) (by simp)
  simp only [List.length_cons, List.length_nil, Nat.reduceAdd, hfl, List.append_assoc, List.cons_append, List.nil_append] at c1 hown
  have how := hown.one
  have st := store1 (H := H ++ .mk true 1 [w1, w2, w3] :: .mk true 1 [w1, w2] :: (T ++ [.mk true 1 [.slc none 0]])) (id := H.length + (T.length + 1 + 1)) (es := 1) (cells := [.slc none 0]) (v := w) (o := 0) (by rw [List.getElem?_append_right (by omega)]; simp) (by simp) how.2 how.1
  have hmem : (H ++ Ob.mk true 1 [w1, w2, w3] :: Ob.mk true 1 [w1, w2] :: (T ++ [Ob.mk true 1 [V.slc none 0]])).length = H.length + (T.length + 1 + 1) + 1 := by simp; omega
  have hold : ∀ (q : Nat) o, (H ++ Ob.mk true 1 [w1, w2, w3] :: Ob.mk true 1 [w1, w2] :: T)[q]? = some o → ((H ++ Ob.mk true 1 [w1, w2, w3] :: Ob.mk true 1 [w1, w2] :: (T ++ [Ob.mk true 1 [V.slc none 0]])).set (H.length + (T.length + 1 + 1)) (Ob.mk true 1 ([V.slc none 0].set 0 w)))[q]? = some o := fun q o hq => by
    have hql := (List.getElem?_eq_some_iff.1 hq).1
    simp at hql
    rw [List.getElem?_set_ne (by omega), show H ++ Ob.mk true 1 [w1, w2, w3] :: Ob.mk true 1 [w1, w2] :: (T ++ [Ob.mk true 1 [V.slc none 0]]) = (H ++ Ob.mk true 1 [w1, w2, w3] :: Ob.mk true 1 [w1, w2] :: T) ++ [Ob.mk true 1 [V.slc none 0]] by simp]
    exact up_append _ _ hq
  have hobj : ((H ++ Ob.mk true 1 [w1, w2, w3] :: Ob.mk true 1 [w1, w2] :: (T ++ [Ob.mk true 1 [V.slc none 0]])).set (H.length + (T.length + 1 + 1)) (Ob.mk true 1 ([V.slc none 0].set 0 w)))[H.length + (T.length + 1 + 1)]? = some (Ob.mk true 1 [w]) := by
    rw [List.getElem?_set_self (by omega)]
    rfl
  obtain ⟨H3, hH3⟩ : ∃ H3, H3 = (H ++ Ob.mk true 1 [w1, w2, w3] :: Ob.mk true 1 [w1, w2] :: (T ++ [Ob.mk true 1 [V.slc none 0]])).set (H.length + (T.length + 1 + 1)) (Ob.mk true 1 ([V.slc none 0].set 0 w)) := ⟨_, rfl⟩
  rw [← hH3] at st hobj hold
  obtain ⟨T3, hT3⟩ : ∃ T3, H3 = H ++ T3 := by
    refine ⟨(Ob.mk true 1 [w1, w2, w3] :: Ob.mk true 1 [w1, w2] :: (T ++ [Ob.mk true 1 [V.slc none 0]])).set (T.length + 1 + 1) (Ob.mk true 1 ([V.slc none 0].set 0 w)), ?_⟩
    rw [hH3, List.set_append_right _ _ (by omega), Nat.add_sub_cancel_left]
  simp [r1, r12, r13, r14, h1.one, h2.one, h3.one, elemT, fillL, zerosL, St.new, c1, strideOf, st, -regionL_some]
  generalize H.length + (T.length + 1 + 1) = id5 at hobj
  have hall3 : AStrs H3 w (c.must ++ c.may) := (hown.strs (by rw [List.length_append]; unfold maxLen; omega) (fun s hs => by
    rcases List.mem_append.1 hs with hs | hs
    · exact strs_max h1 s hs
    · exact strs_max h2 s hs)).up hold
  have hid5 : id5 < H3.length := (List.getElem?_eq_some_iff.1 hobj).1
  have h33 : AStrs H3 w3 c.single := by rw [hT3]; exact h3.ext
  have hgc1 : ∀ b, gcH H H3 (.bool b) = H := fun b => by rw [hT3]; exact gcH_bool
  have hgc2 : ∀ b X, gcH H (H3 ++ X) (.bool b) = H := fun b X => by rw [hT3, List.append_assoc]; exact gcH_bool
  clear hH3 hold hT3 st c1 hown hmem
  have ld := load1 (o := 0) hobj rfl
  have c2 := i_Name (t := c.name) (H := H3)
  have hok : ClassOk c ↔ NameOk c.name ∧ (c.must ++ c.may).Nodup ∧ classT ∉ c.must ++ c.may ∧ ∀ t ∈ c.single, t ∈ c.must ++ c.may := by
    constructor
    · intro h
      refine ⟨h.name, ?_, ?_, ?_⟩
      · rw [List.nodup_append]
        exact ⟨names_nodup h.n1, names_nodup h.n2, fun a ha b hb hab => h.apart a ha (hab ▸ hb)⟩
      · rw [List.mem_append]; exact fun h' => h'.elim h.noMust h.noMay
      · intro t ht; rw [List.mem_append]; exact (h.known t ht).symm
    · rintro ⟨k1, k2, k3, k4⟩
      rw [List.nodup_append] at k2
      rw [List.mem_append] at k3
      exact ⟨k1, m1, m3, m5, m2, m4, m6, fun t ht ht' => k2.2.2 t ht t ht' rfl, fun t ht => (List.mem_append.1 (k4 t ht)).symm, fun h => k3 (.inl h), fun h => k3 (.inr h)⟩
  by_cases g1 : NameOk c.name
  rotate_left
  · rw [dec_neg g1] at c2
    have hn : ¬ ClassOk c := fun h => g1 h.name
    simp [r1, hid5, c2, hn, hgc1, hgc2, List.lookup]
  rw [dec_pos g1] at c2
  obtain ⟨T4, p, n, c3, hn⟩ := i_union (H := H3 ++ [Ob.mk true 1 [w]]) (id := H3.length) get_last hall3.ext (by rw [List.length_append]; omega)
  simp only [List.append_assoc, List.cons_append, List.nil_append] at c3
  have hln := fun {e s b : Nat} {z : List V} => hall3.len (e := e) (s := s) (b := b) (z := z)
  by_cases g2 : (n : Int) = (c.must ++ c.may).length
  rotate_left
  · have hno : ¬ ClassOk c := fun h => g2 (by have := hn.2 (hok.1 h).2.1; omega)
    simp only [List.length_append, Int.natCast_add] at g2 hln
    simp [r1, hid5, c2, c3, ld, hln, g2, elemT, fillL, zerosL, St.new, Keep_both, Keep_one, hall3.one, hno, hgc1, hgc2, List.lookup]
  have c4 : callW C 245 [w, .str [99, 108, 97, 115, 115]] (H3 ++ Ob.mk true 1 [w] :: T4) = some (.bool (dec (classT ∈ c.must ++ c.may)), H3 ++ Ob.mk true 1 [w] :: T4) := l_Contains hall3.ext
  have ld2 := load1 (H := H3 ++ Ob.mk true 1 [w] :: T4) (o := 0) (v := w) (up_append _ _ hobj) rfl
  have g2' : (c.must ++ c.may).Nodup := hn.1 (by omega)
  by_cases g3 : classT ∈ c.must ++ c.may
  · rw [dec_pos g3] at c4
    have hno : ¬ ClassOk c := fun h => (hok.1 h).2.2.1 g3
    simp only [List.length_append, Int.natCast_add] at g2 hln
    simp [r1, hid5, c2, c3, c4, ld, ld2, hln, g2, elemT, fillL, zerosL, St.new, Keep_both, Keep_one, hall3.one, hno, hgc1, hgc2, List.lookup]
  rw [dec_neg g3] at c4
  have c5 := l_ContainsFunc (H := H3 ++ Ob.mk true 1 [w] :: T4) (g := 255) (a := []) (b := [.ptr (some (id5, 0))]) h33.ext (fun x => !dec (x ∈ c.must ++ c.may)) (fun x _ => i_noName (up_append _ _ hobj) hall3.ext)
  by_cases g4 : ∃ x ∈ c.single, (!dec (x ∈ c.must ++ c.may)) = true
  · rw [dec_pos g4] at c5
    have hno : ¬ ClassOk c := fun h => by
      obtain ⟨x, hx, hd⟩ := g4
      rw [dec_pos ((hok.1 h).2.2.2 x hx)] at hd
      cases hd
    simp only [List.length_append, Int.natCast_add] at g2 hln
    simp [r1, hid5, c2, c3, c4, c5, ld, ld2, hln, g2, elemT, fillL, zerosL, St.new, Keep_both, Keep_one, hall3.one, hno, hgc1, hgc2, List.lookup, h3.one]
  · rw [dec_neg g4] at c5
    have hyes : ClassOk c := hok.2 ⟨g1, g2', g3, fun t ht => Classical.byContradiction fun h => g4 ⟨t, ht, by rw [dec_neg h]; rfl⟩⟩
    simp only [List.length_append, Int.natCast_add] at g2 hln
    simp [r1, hid5, c2, c3, c4, c5, ld, ld2, hln, g2, elemT, fillL, zerosL, St.new, Keep_both, Keep_one, hall3.one, hyes, hgc1, hgc2, List.lookup, h3.one]
end Go.Proofs.Try1
end

section
namespace Go.Proofs.Try1
open Go Go.Lite
set_option linter.unusedSimpArgs false
set_option linter.unusedVariables false

set_option maxRecDepth 10000 in
set_option maxHeartbeats 4000000 in
theorem i_Schema {H : List Ob} {v : V} {l : List PClass} (h : AClasses H v l) : callW C 47 [v] H = some (.bool (dec (SchemaOk l)), H) := by
  apply Ret.dec
  rw [op47]
  have hb : l.length ≤ 9223372036854775807 := h.bound
  by_cases g0 : (l.length : Int) > 6
  · have hn : ¬ SchemaOk l := fun h => by have := h.2; omega
    simp [code47, Tryz.f47, h.len, g0, hn]
  simp [code47, Tryz.f47, h.len, g0]
  refine WP_loop (fun k σ => ∃ (i n : Nat) (r : Nat → R), i + k = l.length ∧ σ = ⟨r, n, H⟩ ∧ r 0 = .val v ∧ r 8 = .val v ∧ r 9 = .val (.int .i64 l.length) ∧ r 10 = .val (.int .i64 i) ∧ ∀ j x, j < i → l[j]? = some x → ClassOk x ∧ PrevLt PClass.name l j x) ?_ l.length _ ⟨0, 0, _, by simp, rfl, by simp, by simp, by simp, by simp, by simp⟩
  rintro k σ ⟨i, n, r, hik, rfl, r0, r8, r9, r10, hall⟩
  cases k with
  | zero =>
    have hi : i = l.length := by omega
    subst hi
    have hx := at_all (P := fun j (x : PClass) => ClassOk x ∧ PrevLt PClass.name l j x) hall
    have hv : SchemaOk l := ⟨hx, by omega⟩
    simp [r0, r8, r9, r10, hv]
  | succ k =>
    have hi : i < l.length := by omega
    obtain ⟨x, hx⟩ : ∃ c, l[i]? = some c := ⟨l[i], by simp [hi]⟩
    have hw : IntKind.i64.wrap ((i : Int) + 1) = ((i : Int) + 1) := wrap_i64 (by omega) (by omega)
    obtain ⟨id, o, w1, w2, w3, e1, l0, l4, q1, q2, q3, _⟩ := classes_idx h hx
    have c1 := i_Class q1 q2 q3
    have hstep := fun h => at_step (P := fun j (x : PClass) => ClassOk x ∧ PrevLt PClass.name l j x) hall hx h
    by_cases g1 : ClassOk x
    rotate_left
    · rw [dec_neg g1] at c1
      have hn : ¬ SchemaOk l := fun hd => g1 (hd.1 i x hx).1
      simp [r0, r8, r9, r10, hi, e1, l4, c1, hn, regionL_none, q1.one, q2.one, q3.one]
    rw [dec_pos g1] at c1
    by_cases hi0 : i = 0
    · have := hstep ⟨g1, fun y hy => by omega⟩
      subst hi0
      simp at e1
      simp [r0, r8, r9, r10, hi, e1, l4, c1, regionL_none, q1.one, q2.one, q3.one]
      exact ⟨k, by omega, 1, by omega, n + 1, _, ⟨rfl, rfl⟩, by simp [r0], by simp [r8], by simp [r9], by simp, this⟩
    have hip : 0 < i := by omega
    obtain ⟨y, hy⟩ : ∃ c, l[i - 1]? = some c := ⟨l[i - 1]'(by omega), by simp⟩
    obtain ⟨id', o', _, _, _, e1', l0', _⟩ := classes_idx h hy
    have hw1 : IntKind.i64.wrap ((i : Int) - 1) = ((i - 1 : Nat) : Int) := by rw [wrap_i64 (by omega) (by omega)]; omega
    by_cases g2 : LtS y.name x.name
    · have := hstep ⟨g1, fun z _ hz => by rw [hy] at hz; cases hz; exact g2⟩
      simp [r0, r8, r9, r10, hi, e1, l0, l4, c1, e1', l0', hw, hw1, hip, LtS_dec g2, regionL_none, q1.one, q2.one, q3.one]
      exact ⟨k, by omega, i + 1, by omega, n + 1, _, ⟨rfl, rfl⟩, by simp [r0], by simp [r8], by simp [r9], by simp, this⟩
    · have hn : ¬ SchemaOk l := fun hd => g2 ((hd.1 i x hx).2 y hip hy)
      simp [r0, r8, r9, r10, hi, e1, l0, l4, c1, e1', l0', hw, hw1, hip, LtS_no g2, regionL_none, q1.one, q2.one, q3.one, hn]

noncomputable def cmpS (a b : Str) : Int := if dec (LtS a b) = true then -1 else if dec (LtS b a) = true then 1 else 0
theorem cmpS_lt {a b : Str} : cmpS a b < 0 ↔ LtS a b := by
  unfold cmpS
  by_cases h : LtS a b
  · rw [dec_pos h]; simp [h]
  · rw [dec_neg h]
    by_cases h' : LtS b a
    · rw [dec_pos h']; simp [h]
    · rw [dec_neg h']; simp [h]
theorem cmpS_eq {a b : Str} : cmpS a b = 0 ↔ a = b := by
  unfold cmpS
  by_cases h : LtS a b
  · rw [dec_pos h]
    have : a ≠ b := fun e => by subst e; exact List.lt_irrefl _ ((LtS_iff a a).1 h)
    simp [this]
  · rw [dec_neg h]
    by_cases h' : LtS b a
    · rw [dec_pos h']
      have : a ≠ b := fun e => by subst e; exact List.lt_irrefl _ ((LtS_iff a a).1 h')
      simp [this]
    · rw [dec_neg h']
      have h1 : b ≤ a := fun hh => h ((LtS_iff a b).2 hh)
      have h2 : a ≤ b := fun hh => h' ((LtS_iff b a).2 hh)
      simp [List.le_antisymm h2 h1]

set_option maxRecDepth 10000 in
theorem l_cmp {a b : Str} {H : List Ob} : callW C 260 [.str a, .str b] H = some (.int .i64 (cmpS a b), H) := by
  have c0 : ∀ x : Str, callW C 346 [.str x] H = some (.bool false, H) := fun x => by
    apply Ret.eq
    rw [op346]
    simp [code346, Tryz.f346]
  apply Ret.eq
  rw [op260]
  by_cases g1 : LtS a b
  · have : cmpS a b = -1 := by unfold cmpS; rw [dec_pos g1]; rfl
    simp [code260, Tryz.f260, c0, LtS_dec g1, this]
  · by_cases g2 : LtS b a
    · have hne : a ≠ b := fun e => by subst e; exact g1 g2
      have : cmpS a b = 1 := by unfold cmpS; rw [dec_neg g1, dec_pos g2]; rfl
      simp [code260, Tryz.f260, c0, LtS_no g1, hne, this]
    · have : cmpS a b = 0 := by unfold cmpS; rw [dec_neg g1, dec_neg g2]; rfl
      have he := cmpS_eq.1 this
      simp [code260, Tryz.f260, c0, LtS_no g1, he, this]
      subst he
      simp [LtS_no g1, this]

theorem i_byName {n t : Str} {w : V} {H : List Ob} (ho : cellsOf w = some [w]) : callW C 332 [.agg [.str n, w], .str t] H = some (.int .i64 (cmpS n t), H) := by
  apply Ret.eq
  rw [op332]
  simp [code332, Tryz.f332, l_cmp]

theorem rise_pair {α : Type} {key : α → Str} : ∀ {l : List α}, (∀ (j : Nat) x, l[j]? = some x → PrevLt key l j x) → l.Pairwise fun a b => key a < key b
  | [], _ => .nil
  | [x], _ => by simp
  | x :: y :: l, h => by
    have h' : ∀ (j : Nat) z, (y :: l)[j]? = some z → PrevLt key (y :: l) j z := fun j z hz v hj hv => by
      refine h (j + 1) z (by simpa using hz) v (by omega) ?_
      rw [show j + 1 - 1 = (j - 1) + 1 by omega]
      simpa using hv
    have ih := rise_pair h'
    have hxy : key x < key y := (LtS_iff _ _).1 (h 1 y rfl x (by omega) rfl)
    rw [List.pairwise_cons]
    refine ⟨fun z hz => ?_, ih⟩
    rcases List.mem_cons.1 hz with rfl | hz
    · exact hxy
    · exact List.lt_trans hxy ((List.pairwise_cons.1 ih).1 z hz)

set_option maxRecDepth 10000 in
set_option maxHeartbeats 4000000 in
theorem l_search {H : List Ob} {v : V} {l : List PAttr} {t : Str} (h : AAttrs H v l) (hl : l.length ≤ 1000) (hp : l.Pairwise fun a b => a.name < b.name) :
    ∃ (i : Nat) (ok : Bool), callW C 331 [v, .str t, .fn 332 [] []] H = some (.tup [.int .i64 i, .bool ok], H) ∧
      (ok = true → ∃ a, l[i]? = some a ∧ a.name = t) ∧ (ok = false → ∀ a ∈ l, a.name ≠ t) := by
  suffices hs : Ret C 331 [v, .str t, .fn 332 [] []] H fun q H' =>
      (∃ (i : Nat) (ok : Bool), q = .tup [.int .i64 i, .bool ok] ∧ (ok = true → ∃ a, l[i]? = some a ∧ a.name = t) ∧ (ok = false → ∀ a ∈ l, a.name ≠ t)) ∧ H' = H by
    obtain ⟨q, H', hc, ⟨i, ok, rfl, h1, h2⟩, rfl⟩ := hs
    exact ⟨i, ok, hc, h1, h2⟩
  rw [op331]
  simp [code331, Tryz.f331, h.len]
  refine WP_loop (fun k σ => ∃ (i j : Nat) (r : Nat → R), j - i = k ∧ i ≤ j ∧ j ≤ l.length ∧ σ = ⟨r, 0, H⟩ ∧ r 0 = .val v ∧ r 1 = .val (.str t) ∧ r 2 = .val (.fn 332 [] []) ∧ r 8 = .val (.int .i64 l.length) ∧ r 9 = .val (.int .i64 i) ∧ r 10 = .val (.int .i64 j) ∧
    (∀ q a, q < i → l[q]? = some a → LtS a.name t) ∧ (∀ q a, j ≤ q → l[q]? = some a → ¬ LtS a.name t)) ?_ l.length _ ⟨0, l.length, _, by omega, by omega, by omega, rfl, by simp, by simp, by simp, by simp, by simp, by simp, fun q a h => by omega, fun q a h1 h2 => by have := (List.getElem?_eq_some_iff.1 h2).1; omega⟩
  rintro k σ ⟨i, j, r, hk, hij, hjl, rfl, r0, r1, r2, r8, r9, r10, hlo, hhi⟩
  cases k with
  | succ k =>
    have hlt : (i : Int) < j := by omega
    have hlt' : i < j := by omega
    have hw1 : IntKind.i64.wrap ((i : Int) + j) = (i : Int) + j := wrap_i64 (by omega) (by omega)
    have hw2 : IntKind.u64.wrap ((i : Int) + j) = (i : Int) + j := by unfold IntKind.wrap; simp [IntKind.bits, IntKind.signed]; omega
    have hq : ((i : Int) + j).fdiv 2 = (((i + j) / 2 : Nat) : Int) := by rw [Int.fdiv_eq_ediv_of_nonneg _ (by omega)]; omega
    obtain ⟨m, hm⟩ : ∃ m, m = (i + j) / 2 := ⟨_, rfl⟩
    rw [← hm] at hq
    have hw3 : IntKind.i64.wrap (m : Int) = m := wrap_i64 (by omega) (by omega)
    have hw4 : IntKind.i64.wrap ((m : Int) + 1) = (m : Int) + 1 := wrap_i64 (by omega) (by omega)
    have hml : m < l.length := by omega
    obtain ⟨a, ha⟩ : ∃ a, l[m]? = some a := ⟨l[m], List.getElem?_eq_getElem hml⟩
    obtain ⟨id, o, w, e1, l0, l1, l2, hvs, _⟩ := attrs_idx h ha
    have c1 := i_byName (n := a.name) (t := t) (w := w) (H := H) hvs.one.2
    have hord : ∀ q b, l[q]? = some b → (q < m → b.name < a.name) ∧ (m < q → a.name < b.name) := fun q b hb => by
      obtain ⟨hq1, hb⟩ := List.getElem?_eq_some_iff.1 hb
      obtain ⟨_, ha⟩ := List.getElem?_eq_some_iff.1 ha
      have := List.pairwise_iff_getElem.1 hp
      exact ⟨fun hh => by have := this q m hq1 hml hh; rwa [hb, ha] at this, fun hh => by have := this m q hml hq1 hh; rwa [hb, ha] at this⟩
    by_cases g1 : LtS a.name t
    · have g1' := cmpS_lt.2 g1
      simp [r0, r1, r2, r8, r9, r10, hlt, hlt', hw1, hw2, hq, hw3, hw4, e1, l2, c1, g1', intShift, IntKind.bits]
      refine ⟨j - (m + 1), by omega, m + 1, j, by omega, by omega, by omega, by omega, rfl, fun q b hq1 hb => ?_, hhi⟩
      by_cases hqm : q = m
      · subst hqm; rw [ha] at hb; cases hb; exact g1
      · exact (LtS_iff _ _).2 (List.lt_trans ((hord q b hb).1 (by omega)) ((LtS_iff _ _).1 g1))
    · have g1' : ¬ cmpS a.name t < 0 := mt cmpS_lt.1 g1
      simp [r0, r1, r2, r8, r9, r10, hlt, hlt', hw1, hw2, hq, hw3, hw4, e1, l2, c1, g1', intShift, IntKind.bits]
      refine ⟨m - i, by omega, i, m, by omega, by omega, by omega, rfl, rfl, hlo, fun q b hq1 hb hlt2 => ?_⟩
      by_cases hqm : q = m
      · subst hqm; rw [ha] at hb; cases hb; exact g1 hlt2
      · exact g1 ((LtS_iff _ _).2 (List.lt_trans ((hord q b hb).2 (by omega)) ((LtS_iff _ _).1 hlt2)))
  | zero =>
    have hij' : i = j := by omega
    subst hij'
    by_cases hil : i < l.length
    · have hilI : (i : Int) < l.length := by omega
      obtain ⟨a, ha⟩ : ∃ a, l[i]? = some a := ⟨l[i], List.getElem?_eq_getElem hil⟩
      obtain ⟨id, o, w, e1, l0, l1, l2, hvs, _⟩ := attrs_idx h ha
      have c1 := i_byName (n := a.name) (t := t) (w := w) (H := H) hvs.one.2
      by_cases g1 : a.name = t
      · have g1' := cmpS_eq.2 g1
        simp [r0, r1, r2, r8, r9, r10, hil, e1, l2, c1, g1']
        exact ⟨i, rfl, a, ha, g1⟩
      · have g1' : ¬ cmpS a.name t = 0 := mt cmpS_eq.1 g1
        simp [r0, r1, r2, r8, r9, r10, hil, e1, l2, c1, g1']
        refine ⟨⟨i, rfl⟩, fun b hb hbt => ?_⟩
        obtain ⟨q, hq1, rfl⟩ := List.getElem_of_mem hb
        have hqe := List.getElem?_eq_getElem hq1
        rcases Nat.lt_trichotomy q i with hh | hh | hh
        · have := hlo q _ hh hqe
          rw [hbt] at this
          exact List.lt_irrefl _ ((LtS_iff _ _).1 this)
        · subst hh; rw [ha] at hqe; cases hqe; exact g1 hbt
        · have h1 := hhi i a (by omega) ha
          obtain ⟨_, ha'⟩ := List.getElem?_eq_some_iff.1 ha
          have h2 := List.pairwise_iff_getElem.1 hp i q hil hq1 hh
          rw [ha', hbt] at h2
          exact h1 ((LtS_iff _ _).2 h2)
    · simp [r0, r1, r2, r8, r9, r10, hil]
      refine ⟨⟨i, rfl⟩, fun b hb hbt => ?_⟩
      obtain ⟨q, hq1, rfl⟩ := List.getElem_of_mem hb
      have := hlo q _ (by omega) (List.getElem?_eq_getElem hq1)
      rw [hbt] at this
      exact List.lt_irrefl _ ((LtS_iff _ _).1 this)
end Go.Proofs.Try1
end
