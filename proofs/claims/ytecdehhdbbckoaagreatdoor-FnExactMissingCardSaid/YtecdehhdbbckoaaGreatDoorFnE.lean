/- What functions of the program compute, over the interpreter. Conditions: none but those that each theorem names. -/
import Derived.Test.YtecdehhdbbckoaaGreatDoorFnA
import Derived.Test.YtecdehhdbbckoaaGreatDoorFnD
import Derived.Test.YtecdehhdbbckoaaGreatDoorLiteE

namespace Go.Proofs.Try1
open Go Go.Lite
set_option linter.unusedSimpArgs false
set_option linter.unusedVariables false

set_option maxRecDepth 20000 in
set_option maxHeartbeats 4000000 in
theorem trimK {t : Str} {H : List Ob} (h0 : t ≠ []) (hl : t.length ≤ 1000) : ∃ q, callW C 114 [.str t, .str kset] H = some (.str q, H) ∧ (q = [] ↔ AllK t) := by
  suffices hs : Ret C 114 [.str t, .str kset] H fun q H' => (∃ s, q = .str s ∧ (s = [] ↔ AllK t)) ∧ H' = H by
    obtain ⟨q, H', hc, ⟨s, rfl, hr⟩, rfl⟩ := hs
    exact ⟨s, hc, hr⟩
  rw [op114]
  have hk0 : kset ≠ [] := by decide
  have hk1 : (kset.length : Int) = 37 := by decide
  have c1 := mkSet (t := kset) (H := H) (fun c hc => by
    rcases kset_mem.1 hc with h | h | h
    · have := h.2; omega
    · have := h.2; omega
    · omega) (by decide)
  have hz : setRange (List.replicate 256 (V.bool false)) 0 (setOf kset) = setOf kset := by
    unfold setRange
    rw [List.take_zero, List.nil_append, Nat.zero_add, setOf_len, List.drop_of_length_le (by rw [List.length_replicate]; omega), List.append_nil]
  have hall : (setOf kset).all isOne = true := by
    rw [List.all_eq_true]
    intro x hx
    simp only [setOf, List.mem_map] at hx
    obtain ⟨_, _, rfl⟩ := hx
    rfl
  have st := storeN (H := H ++ [.mk true 1 (List.replicate 256 (.bool false))]) (id := H.length) (o := 0) (l := setOf kset) (cells := List.replicate 256 (.bool false)) (es := 1) get_last (by rw [setOf_len, List.length_replicate]; omega) (by intro h; have := setOf_len (l := kset); rw [h] at this; cases this) hall
  rw [setOf_len, hz, set_last] at st
  have hob : (H ++ [Ob.mk true 1 (setOf kset)])[H.length]? = some (.mk true 1 (setOf kset)) := get_last
  obtain ⟨s, c2, q1, q2, q3⟩ := trimR (t := t) hob hl
  obtain ⟨s', c3, q4, q5⟩ := trimL (t := s) hob q3
  have hres : s' = [] ↔ AllK t := by
    rw [← q1, ← q4]
    constructor
    · rintro rfl; intro c hc; cases hc
    · intro h
      rcases q5 with h' | h'
      · exact h'
      · exact absurd h h'
  simp [code114, Tryz.f114, h0, hk0, hk1, c1, strideOf, st, c2, c3, -List.reduceReplicate, -setRange]
  exact hres

theorem name_iff {t : Str} {c : UInt8} {s : Str} (h : t = c :: s) : NameOk t ↔ t.length ≤ 20 ∧ LowB c ∧ AllK t := by
  subst h
  constructor
  · rintro ⟨_, h1, h2⟩
    refine ⟨h1, ?_, fun d hd => ?_⟩
    · rcases h2 0 c rfl with h | ⟨h, _⟩
      · exact h
      · omega
    · obtain ⟨i, hi, rfl⟩ := List.getElem_of_mem hd
      rw [kset_mem]
      rcases h2 i _ (List.getElem?_eq_getElem hi) with h | ⟨_, h | h⟩
      · exact .inl h
      · exact .inr (.inl h)
      · exact .inr (.inr h)
  · rintro ⟨h1, h2, h3⟩
    refine ⟨by simp, h1, fun i d hd => ?_⟩
    cases i with
    | zero => cases hd; exact .inl h2
    | succ i =>
      rcases kset_mem.1 (h3 d (List.mem_of_getElem? hd)) with h | h | h
      · exact .inl h
      · exact .inr ⟨by omega, .inl h⟩
      · exact .inr ⟨by omega, .inr h⟩

set_option maxRecDepth 20000 in
set_option maxHeartbeats 4000000 in
theorem i_Name {t : Str} {H : List Ob} : callW C 66 [.str t] H = some (.bool (dec (NameOk t)), H) := by
  apply Ret.dec
  rw [op66]
  match t with
  | [] =>
    have hn : ¬ NameOk [] := fun h => by have := h.1; simp at this
    simp [code66, Tryz.f66, hn]
  | c :: s =>
  have hi := name_iff (t := c :: s) rfl
  have g0 : (1 : Int) ≤ (s.length : Int) + 1 := by omega
  by_cases g1 : ((c :: s).length : Int) ≤ 20
  rotate_left
  · have hn : ¬ NameOk (c :: s) := fun h => by have := h.2.1; omega
    simp only [List.length_cons, Int.natCast_add, Int.natCast_one] at g1
    simp [code66, Tryz.f66, g0, g1, hn]
  obtain ⟨q, hc, hq⟩ := trimK (t := c :: s) (H := H) (by simp) (by omega)
  simp only [kset] at hc
  have g1' := g1
  simp only [List.length_cons, Int.natCast_add, Int.natCast_one] at g1
  by_cases g2 : (c.toNat : Int) ≥ 97
  rotate_left
  · have hn : ¬ NameOk (c :: s) := fun h => by have := (hi.1 h).2.1.1; omega
    simp [code66, Tryz.f66, g0, g1, g2, hn]
  by_cases g3 : (c.toNat : Int) ≤ 122
  rotate_left
  · have hn : ¬ NameOk (c :: s) := fun h => by have := (hi.1 h).2.1.2; omega
    simp [code66, Tryz.f66, g0, g1, g2, g3, hn]
  by_cases g4 : q = []
  · have hn : NameOk (c :: s) := hi.2 ⟨by omega, ⟨by omega, by omega⟩, hq.1 g4⟩
    simp [code66, Tryz.f66, g0, g1, g2, g3, hc, g4, hn]
  · have hn : ¬ NameOk (c :: s) := fun h => g4 (hq.2 (hi.1 h).2.2)
    simp [code66, Tryz.f66, g0, g1, g2, g3, hc, g4, hn]

set_option maxRecDepth 10000 in
theorem i_isRdn {a b : Str} {H : List Ob} : callW C 146 [.agg [.str a, .str b]] H = some (.bool (dec (NameOk a ∧ ValueOk b)), H) := by
  apply Ret.dec
  rw [op146]
  have c1 := i_Name (t := a) (H := H)
  have c2 := i_Value (t := b) (H := H)
  by_cases g1 : NameOk a
  · rw [dec_pos g1] at c1
    by_cases g2 : ValueOk b
    · rw [dec_pos g2] at c2
      simp [code146, Tryz.f146, c1, c2, g1, g2]
    · rw [dec_neg g2] at c2
      simp [code146, Tryz.f146, c1, c2, g1, g2]
  · rw [dec_neg g1] at c1
    simp [code146, Tryz.f146, c1, g1]

set_option maxRecDepth 10000 in
theorem i_badRdn {a b : Str} {H : List Ob} : callW C 145 [.agg [.str a, .str b]] H = some (.bool (!dec (NameOk a ∧ ValueOk b)), H) := by
  apply Ret.eq
  rw [op145]
  have c1 := i_isRdn (a := a) (b := b) (H := H)
  simp [code145, Tryz.f145, c1]

set_option maxRecDepth 10000 in
theorem i_idxRdn {H : List Ob} {v : V} {l : List PRdn} (h : ARdns H v l) : ∃ r : Int, callW C 176 [v, .fn 145 [] []] H = some (.int .i64 r, H) ∧ (0 ≤ r ↔ ¬ ∀ (j : Nat) x, l[j]? = some x → NameOk x.attr ∧ ValueOk x.value) := by
  suffices hs : Ret C 176 [v, .fn 145 [] []] H fun q H' => (∃ r : Int, q = .int .i64 r ∧ (0 ≤ r ↔ ¬ ∀ (j : Nat) x, l[j]? = some x → NameOk x.attr ∧ ValueOk x.value)) ∧ H' = H by
    obtain ⟨q, H', hc, ⟨r, rfl, hr⟩, rfl⟩ := hs
    exact ⟨r, hc, hr⟩
  rw [op176]
  have hb : l.length ≤ 9223372036854775807 := h.bound
  simp [code176, Tryz.f176, h.len]
  refine WP_loop (fun k σ => ∃ (i : Nat) (r : Nat → R), i + k = l.length ∧ σ = ⟨r, 0, H⟩ ∧ r 0 = .val v ∧ r 1 = .val (.fn 145 [] []) ∧ r 7 = .val (.int .i64 l.length) ∧ r 8 = .val (.int .i64 i) ∧ ∀ j x, j < i → l[j]? = some x → NameOk x.attr ∧ ValueOk x.value) ?_ l.length _ ⟨0, _, by simp, rfl, by simp, by simp, by simp, by simp, by simp⟩
  rintro k σ ⟨i, r, hik, rfl, r0, r1, r7, r8, hall⟩
  cases k with
  | zero =>
    have hi : i = l.length := by omega
    subst hi
    have hx := at_all (P := fun j (x : PRdn) => NameOk x.attr ∧ ValueOk x.value) hall
    simp [r0, r1, r7, r8]
    exact fun j x hj => hx j x hj
  | succ k =>
    have hi : i < l.length := by omega
    obtain ⟨x, hx⟩ : ∃ c, l[i]? = some c := ⟨l[i], by simp [hi]⟩
    have hw : IntKind.i64.wrap ((i : Int) + 1) = ((i : Int) + 1) := wrap_i64 (by omega) (by omega)
    obtain ⟨id, o, e1, l0, l1, l2, _⟩ := rdns_idx h hx
    have c1 := i_badRdn (a := x.attr) (b := x.value) (H := H)
    by_cases g1 : NameOk x.attr ∧ ValueOk x.value
    · rw [dec_pos g1] at c1
      simp at c1
      simp [r0, r1, r7, r8, hi, e1, l2, c1, hw]
      exact ⟨k, by omega, i + 1, by omega, by omega, at_step (P := fun j (x : PRdn) => NameOk x.attr ∧ ValueOk x.value) hall hx g1⟩
    · rw [dec_neg g1] at c1
      simp at c1
      simp [r0, r1, r7, r8, hi, e1, l2, c1, hw]
      exact ⟨i, x, hx, fun h1 h2 => g1 ⟨h1, h2⟩⟩

set_option maxRecDepth 10000 in
theorem i_Dn {H : List Ob} {v : V} {l : List PRdn} (h : ARdns H v l) : callW C 103 [v] H = some (.bool (dec (DnOk l)), H) := by
  obtain ⟨r, c1, hr⟩ := i_idxRdn h
  have c2 : callW C 144 [v, .fn 145 [] []] H = some (.bool (decide (0 ≤ r)), H) := by
    apply Ret.eq
    rw [op144]
    simp [code144, Tryz.f144, c1]
  apply Ret.dec
  rw [op103]
  by_cases g1 : (l.length : Int) ≤ 6
  · by_cases g2 : 0 ≤ r
    · have hn : ¬ DnOk l := fun h => hr.1 g2 h.1
      simp [code103, Tryz.f103, h.len, g1, c2, g2, hn]
    · have hn : DnOk l := ⟨Classical.byContradiction fun h => g2 (hr.2 h), by omega⟩
      simp [code103, Tryz.f103, h.len, g1, c2, g2, hn]
  · have hn : ¬ DnOk l := fun h => g1 (by have := h.2; omega)
    simp [code103, Tryz.f103, h.len, g1, hn]
end Go.Proofs.Try1

namespace Go.Proofs.Try1
open Go Go.Lite
set_option linter.unusedSimpArgs false
set_option linter.unusedVariables false

theorem cmp_lt : ∀ (a b : Str), (Lib.compareBytes a b < 0 ↔ LtS a b) ∧ (Lib.compareBytes a b = 0 ↔ a = b)
  | [], [] => by simp [Lib.compareBytes, LtS, Op.bytesLess]
  | [], _ :: _ => by simp [Lib.compareBytes, LtS, Op.bytesLess]
  | _ :: _, [] => by simp [Lib.compareBytes, LtS, Op.bytesLess]
  | a :: as', b :: bs => by
    obtain ⟨h1, h2⟩ := cmp_lt as' bs
    unfold LtS at h1 ⊢
    simp only [Lib.compareBytes, Op.bytesLess]
    by_cases g1 : a < b
    · have : a ≠ b := fun h => by subst h; exact absurd g1 (by simp)
      simp [g1, this]
    · by_cases g2 : b < a
      · have : a ≠ b := fun h => by subst h; exact absurd g2 (by simp)
        simp [g1, g2, this]
      · have : a = b := UInt8.toNat_inj.1 (by rw [UInt8.lt_iff_toNat_lt] at g1 g2; omega)
        subst this
        simp [h1, h2]

theorem prim_cmp {a b : Str} {H : List Ob} : callW C 203 [.str a, .str b] H = some (.int .i64 (Lib.compareBytes a b), H) :=
  callW_prim (pr := cmpPrim) rfl
theorem l_CompareString {a b : Str} {H : List Ob} : callW C 187 [.str a, .str b] H = some (.int .i64 (Lib.compareBytes a b), H) := by
  apply Ret.eq
  rw [op187]
  simp [code187, Tryz.f187, prim_cmp]
theorem l_Compare {a b : Str} {H : List Ob} : callW C 155 [.str a, .str b] H = some (.int .i64 (Lib.compareBytes a b), H) := by
  apply Ret.eq
  rw [op155]
  simp [code155, Tryz.f155, l_CompareString]
theorem i_byNorm {a b : Str} {H : List Ob} : callW C 113 [.str a, .str b] H = some (.int .i64 (Lib.compareBytes (norm a) (norm b)), H) := by
  apply Ret.eq
  rw [op113]
  have c1 := i_Norm (t := a) (H := H)
  have c2 := i_Norm (t := b) (H := H)
  simp [code113, Tryz.f113, c1, c2, l_Compare]
theorem l_size {H : List Ob} {v : V} {l : List Str} (h : AStrs H v l) : callW C 148 [v] H = some (.int .i64 l.length, H) := by
  apply Ret.eq
  rw [op148]
  simp [code148, Tryz.f148, h.len]
theorem l_between {a b c : Int} {H : List Ob} : callW C 147 [.int .i64 a, .int .i64 b, .int .i64 c] H = some (.bool (decide (b ≤ a ∧ a ≤ c)), H) := by
  apply Ret.eq
  rw [op147]
  by_cases g1 : b ≤ a
  · by_cases g2 : a ≤ c <;> simp [code147, Tryz.f147, g1, g2]
  · simp [code147, Tryz.f147, g1]

set_option maxRecDepth 10000 in
set_option maxHeartbeats 4000000 in
theorem i_Attr {H : List Ob} {n : Str} {v : V} {l : List Str} (h : AStrs H v l) : callW C 104 [.agg [.str n, v]] H = some (.bool (dec (NameOk n ∧ ValuesOk l)), H) := by
  apply Ret.dec
  rw [op104]
  have c1 := i_Name (t := n) (H := H)
  have c2 := l_size h
  have c3 := l_between (a := l.length) (b := 1) (c := 4) (H := H)
  have hb : l.length ≤ 9223372036854775807 := h.bound
  by_cases g1 : NameOk n
  rotate_left
  · rw [dec_neg g1] at c1
    simp [code104, Tryz.f104, c1, g1, h.one]
  rw [dec_pos g1] at c1
  by_cases g2 : (1 : Int) ≤ l.length ∧ (l.length : Int) ≤ 4
  rotate_left
  · rw [decide_eq_false g2] at c3
    have hn : ¬ ValuesOk l := fun h => g2 ⟨by have := h.2.1; omega, by have := h.2.2; omega⟩
    simp [code104, Tryz.f104, c1, c2, c3, hn, h.one]
  rw [decide_eq_true g2] at c3
  simp [code104, Tryz.f104, c1, c2, c3, h.one, h.len]
  refine WP_loop (fun k σ => ∃ (i : Nat) (r : Nat → R), i + k = l.length ∧ σ = ⟨r, 1, H⟩ ∧ r 1 = .box 0 [.str n, v] ∧ r 17 = .val v ∧ r 18 = .val (.int .i64 l.length) ∧ r 19 = .val (.int .i64 i) ∧ ∀ j x, j < i → l[j]? = some x → ValueOk x ∧ PrevLt norm l j x) ?_ l.length _ ⟨0, _, by simp, rfl, by simp, by simp, by simp, by simp, by simp⟩
  rintro k σ ⟨i, r, hik, rfl, r1, r17, r18, r19, hall⟩
  cases k with
  | zero =>
    have hi : i = l.length := by omega
    subst hi
    have hx := at_all (P := fun j (x : Str) => ValueOk x ∧ PrevLt norm l j x) hall
    have hv : ValuesOk l := ⟨hx, by omega, by omega⟩
    simp [r1, r17, r18, r19, g1, hv]
  | succ k =>
    have hi : i < l.length := by omega
    obtain ⟨x, hx⟩ : ∃ c, l[i]? = some c := ⟨l[i], by simp [hi]⟩
    have hw : IntKind.i64.wrap ((i : Int) + 1) = ((i : Int) + 1) := wrap_i64 (by omega) (by omega)
    obtain ⟨id, o, e1, l0, _⟩ := strs_idx h hx
    have c4 := i_Value (t := x) (H := H)
    have hstep := fun h => at_step (P := fun j (x : Str) => ValueOk x ∧ PrevLt norm l j x) hall hx h
    by_cases g3 : ValueOk x
    rotate_left
    · rw [dec_neg g3] at c4
      have hn : ¬ ValuesOk l := fun hd => g3 (hd.1 i x hx).1
      simp [r1, r17, r18, r19, hi, e1, l0, c4, hn]
    rw [dec_pos g3] at c4
    by_cases hi0 : i = 0
    · have := hstep ⟨g3, fun y hy => by omega⟩
      subst hi0
      simp at e1
      simp [r1, r17, r18, r19, hi, e1, l0, c4]
      exact ⟨k, by omega, 1, by omega, by omega, this⟩
    have hip : 0 < i := by omega
    obtain ⟨y, hy⟩ : ∃ c, l[i - 1]? = some c := ⟨l[i - 1]'(by omega), by simp⟩
    obtain ⟨id', o', e1', l0', _⟩ := strs_idx h hy
    have hw1 : IntKind.i64.wrap ((i : Int) - 1) = ((i - 1 : Nat) : Int) := by rw [wrap_i64 (by omega) (by omega)]; omega
    have c5 := i_byNorm (a := y) (b := x) (H := H)
    by_cases g4 : LtS (norm y) (norm x)
    · have := hstep ⟨g3, fun z _ hz => by rw [hy] at hz; cases hz; exact g4⟩
      have g5 : ¬ (0 ≤ Lib.compareBytes (norm y) (norm x)) := by have := (cmp_lt (norm y) (norm x)).1.2 g4; omega
      simp [r1, r17, r18, r19, hi, e1, l0, c4, e1', l0', hw, hw1, hip, c5, g5]
      exact ⟨k, by omega, i + 1, by omega, by omega, this⟩
    · have g5 : 0 ≤ Lib.compareBytes (norm y) (norm x) := by have := mt (cmp_lt (norm y) (norm x)).1.1 g4; omega
      have hn : ¬ ValuesOk l := fun hd => g4 ((hd.1 i x hx).2 y hip hy)
      simp [r1, r17, r18, r19, hi, e1, l0, c4, e1', l0', hw, hw1, hip, c5, g5, hn]

set_option maxRecDepth 10000 in
set_option maxHeartbeats 4000000 in
theorem i_Names {H : List Ob} {v : V} {l : List Str} (h : AStrs H v l) : callW C 139 [v] H = some (.bool (dec (NamesOk l)), H) := by
  apply Ret.dec
  rw [op139]
  have hb : l.length ≤ 9223372036854775807 := h.bound
  simp [code139, Tryz.f139, h.len]
  refine WP_loop (fun k σ => ∃ (i : Nat) (r : Nat → R), i + k = l.length ∧ σ = ⟨r, 0, H⟩ ∧ r 0 = .val v ∧ r 5 = .val v ∧ r 6 = .val (.int .i64 l.length) ∧ r 7 = .val (.int .i64 i) ∧ ∀ j x, j < i → l[j]? = some x → NameOk x ∧ PrevLt (fun x => x) l j x) ?_ l.length _ ⟨0, _, by simp, rfl, by simp, by simp, by simp, by simp, by simp⟩
  rintro k σ ⟨i, r, hik, rfl, r0, r5, r6, r7, hall⟩
  cases k with
  | zero =>
    have hi : i = l.length := by omega
    subst hi
    have hx : NamesOk l := at_all (P := fun j (x : Str) => NameOk x ∧ PrevLt (fun x => x) l j x) hall
    simp [r0, r5, r6, r7, hx]
  | succ k =>
    have hi : i < l.length := by omega
    obtain ⟨x, hx⟩ : ∃ c, l[i]? = some c := ⟨l[i], by simp [hi]⟩
    have hw : IntKind.i64.wrap ((i : Int) + 1) = ((i : Int) + 1) := wrap_i64 (by omega) (by omega)
    obtain ⟨id, o, e1, l0, _⟩ := strs_idx h hx
    have c1 := i_Name (t := x) (H := H)
    have hstep := fun h => at_step (P := fun j (x : Str) => NameOk x ∧ PrevLt (fun x => x) l j x) hall hx h
    by_cases g1 : NameOk x
    rotate_left
    · rw [dec_neg g1] at c1
      have hn : ¬ NamesOk l := fun hd => g1 (hd i x hx).1
      simp [r0, r5, r6, r7, hi, e1, l0, c1, hn]
    rw [dec_pos g1] at c1
    by_cases hi0 : i = 0
    · have := hstep ⟨g1, fun y hy => by omega⟩
      subst hi0
      simp at e1
      simp [r0, r5, r6, r7, hi, e1, l0, c1]
      exact ⟨k, by omega, 1, by omega, by omega, this⟩
    have hip : 0 < i := by omega
    obtain ⟨y, hy⟩ : ∃ c, l[i - 1]? = some c := ⟨l[i - 1]'(by omega), by simp⟩
    obtain ⟨id', o', e1', l0', _⟩ := strs_idx h hy
    have hw1 : IntKind.i64.wrap ((i : Int) - 1) = ((i - 1 : Nat) : Int) := by rw [wrap_i64 (by omega) (by omega)]; omega
    by_cases g2 : LtS y x
    · have := hstep ⟨g1, fun z _ hz => by rw [hy] at hz; cases hz; exact g2⟩
      simp [r0, r5, r6, r7, hi, e1, l0, c1, e1', l0', hw, hw1, hip, LtS_dec g2]
      exact ⟨k, by omega, i + 1, by omega, by omega, this⟩
    · have hn : ¬ NamesOk l := fun hd => g2 ((hd i x hx).2 y hip hy)
      simp [r0, r5, r6, r7, hi, e1, l0, c1, e1', l0', hw, hw1, hip, LtS_no g2, hn]

set_option maxRecDepth 10000 in
set_option maxHeartbeats 8000000 in
theorem i_Entry {H : List Ob} {v w : V} {e : PEntry} (h1 : ARdns H v e.dn) (h2 : AAttrs H w e.attrs) : callW C 50 [.agg [v, w]] H = some (.bool (dec (EntryOk e)), H) := by
  apply Ret.dec
  rw [op50]
  have c1 := i_Dn h1
  have hb : e.attrs.length ≤ 9223372036854775807 := h2.bound
  by_cases g0 : e.dn.length = 0
  · have hn : ¬ EntryOk e := fun h => by have := h.1; omega
    simp [code50, Tryz.f50, h1.len, g0, hn, h1.one, h2.one]
  have g0' : ¬ (e.dn.length : Int) = 0 := by omega
  by_cases g1 : DnOk e.dn
  rotate_left
  · rw [dec_neg g1] at c1
    have hn : ¬ EntryOk e := fun h => g1 h.2.1
    simp [code50, Tryz.f50, h1.len, g0, c1, hn, h1.one, h2.one]
  rw [dec_pos g1] at c1
  by_cases g2 : (e.attrs.length : Int) > 8
  · have hn : ¬ EntryOk e := fun h => by have := h.2.2.2; omega
    simp [code50, Tryz.f50, h1.len, h2.len, g0, g2, c1, hn, h1.one, h2.one]
  simp [code50, Tryz.f50, h1.len, h2.len, g0, g2, c1, h1.one, h2.one]
  refine WP_loop (fun k σ => ∃ (i n : Nat) (r : Nat → R), i + k = e.attrs.length ∧ σ = ⟨r, n, H⟩ ∧ r 1 = .box 0 [v, w] ∧ 1 ≤ n ∧ r 22 = .val w ∧ r 23 = .val (.int .i64 e.attrs.length) ∧ r 24 = .val (.int .i64 i) ∧ ∀ j x, j < i → e.attrs[j]? = some x → NameOk x.name ∧ PrevLt PAttr.name e.attrs j x ∧ ValuesOk x.vals) ?_ e.attrs.length _ ⟨0, 1, _, by simp, rfl, by simp, by omega, by simp, by simp, by simp, by simp⟩
  rintro k σ ⟨i, n, r, hik, rfl, r1, hn1, r22, r23, r24, hall⟩
  cases k with
  | zero =>
    have hi : i = e.attrs.length := by omega
    subst hi
    have hx := at_all (P := fun j (x : PAttr) => NameOk x.name ∧ PrevLt PAttr.name e.attrs j x ∧ ValuesOk x.vals) hall
    have hv : EntryOk e := ⟨by omega, g1, hx, by omega⟩
    simp [r1, r22, r23, r24, hv]
  | succ k =>
    have hi : i < e.attrs.length := by omega
    obtain ⟨x, hx⟩ : ∃ c, e.attrs[i]? = some c := ⟨e.attrs[i], by simp [hi]⟩
    have hw : IntKind.i64.wrap ((i : Int) + 1) = ((i : Int) + 1) := wrap_i64 (by omega) (by omega)
    obtain ⟨id, o, w', e1, l0, l1, l2, hvs, _⟩ := attrs_idx h2 hx
    have c2 := i_Attr (n := x.name) hvs
    have hstep := fun h => at_step (P := fun j (x : PAttr) => NameOk x.name ∧ PrevLt PAttr.name e.attrs j x ∧ ValuesOk x.vals) hall hx h
    by_cases g3 : NameOk x.name ∧ ValuesOk x.vals
    rotate_left
    · rw [dec_neg g3] at c2
      have hn : ¬ EntryOk e := fun hd => g3 ⟨(hd.2.2.1 i x hx).1, (hd.2.2.1 i x hx).2.2⟩
      simp [r1, r22, r23, r24, hi, e1, l2, c2, hn, hvs.one, regionL_none]
    rw [dec_pos g3] at c2
    by_cases hi0 : i = 0
    · have := hstep ⟨g3.1, fun y hy => by omega, g3.2⟩
      subst hi0
      simp at e1
      simp [r1, r22, r23, r24, hi, e1, l2, c2, hvs.one, regionL_none]
      exact ⟨k, by omega, 1, by omega, n + 1, _, ⟨rfl, rfl⟩, by simp [r1], by omega, by simp [r22], by simp [r23], by simp, this⟩
    have hip : 0 < i := by omega
    obtain ⟨y, hy⟩ : ∃ c, e.attrs[i - 1]? = some c := ⟨e.attrs[i - 1]'(by omega), by simp⟩
    obtain ⟨id', o', _, e1', l0', _⟩ := attrs_idx h2 hy
    have hw1 : IntKind.i64.wrap ((i : Int) - 1) = ((i - 1 : Nat) : Int) := by rw [wrap_i64 (by omega) (by omega)]; omega
    by_cases g4 : LtS y.name x.name
    · have := hstep ⟨g3.1, fun z _ hz => by rw [hy] at hz; cases hz; exact g4, g3.2⟩
      simp [r1, r22, r23, r24, hi, e1, l2, c2, e1', l0', hw, hw1, hip, LtS_dec g4, hvs.one, regionL_none]
      exact ⟨k, by omega, i + 1, by omega, n + 1, _, ⟨rfl, rfl⟩, by simp [r1], by omega, by simp [r22], by simp [r23], by simp, this⟩
    · have hn : ¬ EntryOk e := fun hd => g4 ((hd.2.2.1 i x hx).2.1 y hip hy)
      simp [r1, r22, r23, r24, hi, e1, l2, c2, e1', l0', hw, hw1, hip, LtS_no g4, hvs.one, regionL_none, hn]
end Go.Proofs.Try1
