/- What functions of the program compute, over the interpreter. Conditions: none but those that each theorem names. -/
import Derived.Test.YtecdehhdbbckoaaGreatDoorFnE

namespace Go.Proofs.Try1
open Go Go.Lite
set_option linter.unusedSimpArgs false
set_option linter.unusedVariables false

/-- A slice of one's own, or nil. -/
def Own (H G : List Ob) (w : V) (l : List Str) : Prop := (w = .slc none 0 ∧ l = []) ∨ Gs H G w (l.map V.str)

theorem strs_cells {H T : List Ob} {v : V} {l : List Str} (h : AStrs H v l) : ∃ p, v = .slc p l.length ∧ slcCells (H ++ T) p l.length = some (l.map V.str) ∧ (p = none → l = []) ∧ ∀ id off, p = some (id, off) → thereAt H id := by
  rcases h.sl with ⟨rfl, hl⟩ | ⟨id, off, own, cells, rfl, h2, h3, h4⟩
  · have : l = [] := by simpa using hl
    subst this
    exact ⟨none, rfl, rfl, fun _ => rfl, fun _ _ h => by cases h⟩
  · rw [List.length_map] at h3 ⊢
    refine ⟨some (id, off), rfl, ?_, (fun h => by cases h), (fun id' off' h => by cases h; exact ⟨_, _, _, h2⟩)⟩
    by_cases h0 : l.length = 0
    · have : l = [] := List.length_eq_zero_iff.1 h0
      subst this
      rfl
    · simp only [slcCells, up_append _ _ h2, if_neg h0]
      unfold rdCells
      simp only [Sh.size_str, Nat.mul_one] at h3 h4
      rw [if_pos h3]
      congr 1
      apply List.ext_getElem?
      intro j
      by_cases hj : j < l.length
      · rw [List.getElem?_take_of_lt hj, List.getElem?_drop, List.getElem?_map]
        obtain ⟨s, hs⟩ : ∃ s, l[j]? = some s := ⟨l[j], List.getElem?_eq_getElem hj⟩
        obtain ⟨t, e1, e2, _⟩ := At_str.1 (h4 j (.str s) (by rw [List.getElem?_map, hs]; rfl))
        cases e2
        rw [hs]
        have := cells_get e1 (j := 0) rfl
        simpa using this
      · rw [List.getElem?_eq_none (by simp; omega), List.getElem?_eq_none (by simp; omega)]

set_option maxRecDepth 10000 in
theorem l_Clone {H : List Ob} {v : V} {l : List Str} (h : AStrs H v l) (hl : l.length ≤ 1000000) : ∃ T w, callW C 82 [v] H = some (w, H ++ T) ∧ Own H (H ++ T) w l := by
  suffices hs : Ret C 82 [v] H fun q H' => ∃ T, H' = H ++ T ∧ Own H (H ++ T) q l by
    obtain ⟨q, H', hc, T, rfl, hr⟩ := hs
    exact ⟨T, q, hc, hr⟩
  rw [op82]
  obtain ⟨p, rfl, hc, hp, ht⟩ := strs_cells (T := [.mk true 1 []]) h
  cases p with
  | none =>
    have := hp rfl
    subst this
    simp [code82, Tryz.f82]
    exact .inl ⟨rfl, rfl⟩
  | some p =>
    by_cases h0 : l.length = 0
    · have : l = [] := List.length_eq_zero_iff.1 h0
      subst this
      have ha : appendV ⟨.str, 1, 16, [.str []]⟩ (H ++ [.mk true 1 []]) (.slc (some (H.length, 0)) 0) (.slc (some p) 0) = some (.slc (some (H.length, 0)) 0, H ++ [.mk true 1 []]) := by
        unfold appendV
        rw [if_pos (by simp [growOk])]
        simp [newCells, slcCells]
      simp [code82, Tryz.f82, elemT, fillL, zerosL, St.new, ha]
      exact .inr Gs.init
    · have hm : l.length * 16 ≤ maxMade := by unfold maxMade; omega
      have ha : appendV ⟨.str, 1, 16, [.str []]⟩ (H ++ [.mk true 1 []]) (.slc (some (H.length, 0)) 0) (.slc (some p) l.length) = some (.slc (some (H.length + 1, 0)) l.length, H ++ [.dead, .mk true 1 (l.map V.str)]) := by
        unfold appendV
        rw [if_pos (by simp [growOk])]
        simp only [newCells, Nat.mul_one, hc, if_neg h0]
        rw [if_pos (by simp)]
        simp [get_last, h0, hm]
      have hne : l ≠ [] := fun h => h0 (by rw [h]; rfl)
      have hgs : Gs H (H ++ [.dead, .mk true 1 (l.map V.str)]) (.slc (some (H.length + 1, 0)) l.length) (l.map V.str) :=
        ⟨_, H.length + 1, rfl, by omega, by rw [List.getElem?_append_right (by omega)]; simp, by simp⟩
      simp [code82, Tryz.f82, elemT, fillL, zerosL, St.new, ha, hgs.gc]
      exact .inr hgs

/-- The first one so, or -1. -/
def FirstIs (p : Str → Bool) (l : List Str) (r : Int) : Prop := (∃ (k : Nat) (x : Str), l[k]? = some x ∧ p x = true ∧ (∀ j y, j < k → l[j]? = some y → p y = false) ∧ r = k) ∨ ((∀ (j : Nat) y, l[j]? = some y → p y = false) ∧ r = -1)

set_option maxRecDepth 10000 in
theorem l_IndexFunc {H : List Ob} {v : V} {l : List Str} {g : Nat} {a b : List V} (h : AStrs H v l) (p : Str → Bool) (hg : ∀ x ∈ l, callW C g (a ++ ([.str x] ++ b)) H = some (.bool (p x), H)) :
    ∃ r : Int, callW C 151 [v, .fn g a b] H = some (.int .i64 r, H) ∧ FirstIs p l r := by
  suffices hs : Ret C 151 [v, .fn g a b] H fun q H' => (∃ r : Int, q = .int .i64 r ∧ FirstIs p l r) ∧ H' = H by
    obtain ⟨q, H', hc, ⟨r, rfl, hr⟩, rfl⟩ := hs
    exact ⟨r, hc, hr⟩
  rw [op151]
  have hb : l.length ≤ 9223372036854775807 := h.bound
  simp [code151, Tryz.f151, h.len]
  refine WP_loop (fun k σ => ∃ (i : Nat) (r : Nat → R), i + k = l.length ∧ σ = ⟨r, 0, H⟩ ∧ r 0 = .val v ∧ r 1 = .val (.fn g a b) ∧ r 7 = .val (.int .i64 l.length) ∧ r 8 = .val (.int .i64 i) ∧ ∀ j x, j < i → l[j]? = some x → p x = false) ?_ l.length _ ⟨0, _, by simp, rfl, by simp, by simp, by simp, by simp, by simp⟩
  rintro k σ ⟨i, r, hik, rfl, r0, r1, r7, r8, hall⟩
  cases k with
  | zero =>
    have hi : i = l.length := by omega
    subst hi
    have hx := at_all (P := fun j (x : Str) => p x = false) hall
    simp [r0, r1, r7, r8]
    exact .inr ⟨hx, rfl⟩
  | succ k =>
    have hi : i < l.length := by omega
    obtain ⟨x, hx⟩ : ∃ c, l[i]? = some c := ⟨l[i], by simp [hi]⟩
    have hw : IntKind.i64.wrap ((i : Int) + 1) = ((i : Int) + 1) := wrap_i64 (by omega) (by omega)
    obtain ⟨id, o, e1, l0, _⟩ := strs_idx h hx
    have c1 := hg x (List.mem_of_getElem? hx)
    simp only [List.singleton_append] at c1
    cases hp : p x with
    | false =>
      rw [hp] at c1
      simp [r0, r1, r7, r8, hi, e1, l0, c1, hw]
      exact ⟨k, by omega, i + 1, by omega, by omega, at_step (P := fun j (x : Str) => p x = false) hall hx hp⟩
    | true =>
      rw [hp] at c1
      simp [r0, r1, r7, r8, hi, e1, l0, c1, hw]
      exact .inl ⟨i, x, hx, hp, hall, rfl⟩

theorem FirstIs.mem {p : Str → Bool} {l : List Str} {r : Int} (h : FirstIs p l r) : 0 ≤ r ↔ ∃ x ∈ l, p x = true := by
  rcases h with ⟨k, x, h1, h2, _, rfl⟩ | ⟨h1, rfl⟩
  · exact ⟨fun _ => ⟨x, List.mem_of_getElem? h1, h2⟩, fun _ => by omega⟩
  · refine ⟨fun h => by omega, fun ⟨x, hx, hp⟩ => ?_⟩
    obtain ⟨j, hj, rfl⟩ := List.getElem_of_mem hx
    rw [h1 j _ (List.getElem?_eq_getElem hj)] at hp
    cases hp

theorem l_ContainsFunc {H : List Ob} {v : V} {l : List Str} {g : Nat} {a b : List V} (h : AStrs H v l) (p : Str → Bool) (hg : ∀ x ∈ l, callW C g (a ++ ([.str x] ++ b)) H = some (.bool (p x), H)) :
    callW C 131 [v, .fn g a b] H = some (.bool (dec (∃ x ∈ l, p x = true)), H) := by
  obtain ⟨r, c1, hr⟩ := l_IndexFunc h p hg
  apply Ret.dec
  rw [op131]
  by_cases g1 : 0 ≤ r
  · have := hr.mem.1 g1
    simp [code131, Tryz.f131, c1, g1]
    exact this
  · have := mt hr.mem.2 g1
    simp [code131, Tryz.f131, c1, g1]
    intro x hx
    cases hp : p x with
    | false => rfl
    | true => exact absurd ⟨x, hx, hp⟩ this

set_option maxRecDepth 10000 in
theorem l_Contains {H : List Ob} {v : V} {l : List Str} {t : Str} (h : AStrs H v l) : callW C 142 [v, .str t] H = some (.bool (dec (t ∈ l)), H) := by
  have hi : ∃ r : Int, callW C 175 [v, .str t] H = some (.int .i64 r, H) ∧ (0 ≤ r ↔ t ∈ l) := by
    suffices hs : Ret C 175 [v, .str t] H fun q H' => (∃ r : Int, q = .int .i64 r ∧ (0 ≤ r ↔ t ∈ l)) ∧ H' = H by
      obtain ⟨q, H', hc, ⟨r, rfl, hr⟩, rfl⟩ := hs
      exact ⟨r, hc, hr⟩
    rw [op175]
    have hb : l.length ≤ 9223372036854775807 := h.bound
    simp [code175, Tryz.f175, h.len]
    refine WP_loop (fun k σ => ∃ (i : Nat) (r : Nat → R), i + k = l.length ∧ σ = ⟨r, 0, H⟩ ∧ r 0 = .val v ∧ r 1 = .val (.str t) ∧ r 7 = .val (.int .i64 l.length) ∧ r 8 = .val (.int .i64 i) ∧ ∀ j x, j < i → l[j]? = some x → x ≠ t) ?_ l.length _ ⟨0, _, by simp, rfl, by simp, by simp, by simp, by simp, by simp⟩
    rintro k σ ⟨i, r, hik, rfl, r0, r1, r7, r8, hall⟩
    cases k with
    | zero =>
      have hi : i = l.length := by omega
      subst hi
      have hx := at_all (P := fun j (x : Str) => x ≠ t) hall
      have hn : t ∉ l := fun hm => by
        obtain ⟨j, hj, e⟩ := List.getElem_of_mem hm
        exact hx j _ (List.getElem?_eq_getElem hj) e
      simp [r0, r1, r7, r8, hn]
    | succ k =>
      have hi : i < l.length := by omega
      obtain ⟨x, hx⟩ : ∃ c, l[i]? = some c := ⟨l[i], by simp [hi]⟩
      have hw : IntKind.i64.wrap ((i : Int) + 1) = ((i : Int) + 1) := wrap_i64 (by omega) (by omega)
      obtain ⟨id, o, e1, l0, _⟩ := strs_idx h hx
      by_cases g1 : x = t
      · have hm : t ∈ l := g1 ▸ List.mem_of_getElem? hx
        subst g1
        simp [r0, r1, r7, r8, hi, e1, l0, hm]
      · have g1' : ¬ t = x := fun h => g1 h.symm
        simp [r0, r1, r7, r8, hi, e1, l0, g1', hw]
        exact ⟨k, by omega, i + 1, by omega, by omega, at_step (P := fun j (x : Str) => x ≠ t) hall hx g1⟩
  obtain ⟨r, c1, hr⟩ := hi
  apply Ret.dec
  rw [op142]
  by_cases g1 : 0 ≤ r
  · simp [code142, Tryz.f142, c1, g1, hr.1 g1]
  · simp [code142, Tryz.f142, c1, g1, mt hr.2 g1]

theorem i_noName {H : List Ob} {id : Nat} {own : Bool} {es : Nat} {va : V} {l : List Str} {t : Str} (h0 : H[id]? = some (.mk own es [va])) (h : AStrs H va l) : callW C 143 [.str t, .ptr (some (id, 0))] H = some (.bool (!dec (t ∈ l)), H) := by
  apply Ret.eq
  rw [op143]
  have ld := load1 (o := 0) (v := va) h0 rfl
  have c1 := l_Contains (t := t) h
  simp [code143, Tryz.f143, ld, c1]
end Go.Proofs.Try1

namespace Go.Proofs.Try1
open Go Go.Lite
set_option linter.unusedSimpArgs false
set_option linter.unusedVariables false

abbrev LTstr : LT := ⟨.str, 1, 16, [.str []]⟩

set_option maxRecDepth 10000 in
theorem l_Grow {H : List Ob} {n : Nat} (hn : n ≤ 1000) : callW C 172 [.slc none 0, .int .i64 n] H = some (if n = 0 then (.slc none 0, H) else (.slc (some (H.length, 0)) 0, H ++ [.mk true 1 (zerosL LTstr n)])) := by
  have hw0 : IntKind.i64.wrap 0 = 0 := rfl
  have hwn : IntKind.i64.wrap (n : Int) = n := wrap_i64 (by omega) (by omega)
  have h1 : ¬ ((n : Int) < 0) := by omega
  by_cases h0 : n = 0
  · subst h0
    rw [if_pos rfl]
    apply Ret.eq
    rw [op172]
    simp [code172, Tryz.f172, hw0]
  · rw [if_neg h0]
    have h2 : (0 : Int) < n := by omega
    have h2' : 0 < n := by omega
    have h3 : (n : Int) * 16 ≤ 1099511627776 := by omega
    suffices hs : Ret C 172 [.slc none 0, .int .i64 n] H fun q H' => q = .slc (some (H.length, 0)) 0 ∧ H' = H ++ [.mk true 1 (zerosL LTstr n)] by
      obtain ⟨q, H', hc, rfl, rfl⟩ := hs
      exact hc
    rw [op172]
    simp [code172, Tryz.f172, hw0, hwn, h1, h2, h2', elemT, appendZ, growOk, maxMade, h3, strideIs]

theorem app_fill {H : List Ob} {ds xs zs : List V} {m : Nat} {x : V} (hx : newCells LTstr (H ++ [.mk true 1 (ds ++ zs)]) x = some (xs, m)) (hm : xs.length = m) (hm0 : m ≠ 0) (hone : xs.all isOne = true) (hz : m ≤ zs.length) :
    appendV LTstr (H ++ [.mk true 1 (ds ++ zs)]) (.slc (some (H.length, 0)) ds.length) x = some (.slc (some (H.length, 0)) (ds.length + m), H ++ [.mk true 1 (ds ++ xs ++ zs.drop m)]) := by
  unfold appendV
  rw [if_pos (by simp [growOk]), hx]
  simp only [if_neg hm0, hone, if_true, get_last]
  have e1 : 0 + (ds.length + m) * 1 ≤ (ds ++ zs).length := by simp; omega
  rw [if_pos e1, set_last]
  congr 4
  unfold setRange
  rw [Nat.zero_add, Nat.mul_one, List.take_left, hm, List.drop_append]
  simp
theorem app_none {H : List Ob} {s x : V} {xs : List V} (hx : newCells LTstr H x = some (xs, 0)) (hs : ∃ p n, s = .slc (some p) n ∨ s = .slc none 0) : appendV LTstr H s x = some (s, H) := by
  unfold appendV
  rw [if_pos (by simp [growOk]), hx]
  obtain ⟨p, n, rfl | rfl⟩ := hs <;> simp

theorem zerosL_str {n : Nat} : (zerosL LTstr n).length = n := by simp [zerosL]

/-- The first lists, one behind the other. -/
def fl (ls : List (List Str)) (i : Nat) : List Str := (ls.take i).flatten
theorem fl_zero {ls : List (List Str)} : fl ls 0 = [] := by simp [fl]
theorem fl_step {ls : List (List Str)} {i : Nat} {l : List Str} (h : ls[i]? = some l) : fl ls (i + 1) = fl ls i ++ l := by
  unfold fl
  rw [take_get h, List.flatten_append]
  simp
theorem fl_le {ls : List (List Str)} {i : Nat} : (fl ls i).length ≤ (fl ls ls.length).length := by
  unfold fl
  have := congrArg List.length (congrArg List.flatten (List.take_append_drop i ls))
  rw [List.flatten_append, List.length_append] at this
  rw [List.take_length]
  omega

set_option maxRecDepth 10000 in
set_option maxHeartbeats 4000000 in
theorem l_Concat {H : List Ob} {id : Nat} {own : Bool} {ws : List V} {ls : List (List Str)} (h0 : H[id]? = some (.mk own 1 ws)) (hl : ws.length = ls.length) (hw : ∀ (i : Nat) w l, ws[i]? = some w → ls[i]? = some l → AStrs H w l)
    (hb : (fl ls ls.length).length ≤ 1000) (hb2 : ls.length ≤ 1000) : ∃ T w, callW C 140 [.slc (some (id, 0)) ls.length] H = some (w, H ++ T) ∧ Own H (H ++ T) w (fl ls ls.length) := by
  suffices hs : Ret C 140 [.slc (some (id, 0)) ls.length] H fun q H' => ∃ T, H' = H ++ T ∧ Own H (H ++ T) q (fl ls ls.length) by
    obtain ⟨q, H', hc, T, rfl, hr⟩ := hs
    exact ⟨T, q, hc, hr⟩
  rw [op140]
  simp [code140, Tryz.f140]
  refine WP_loop (fun k σ => ∃ (i : Nat) (r : Nat → R), i + k = ls.length ∧ σ = ⟨r, 0, H⟩ ∧ r 0 = .val (.slc (some (id, 0)) ls.length) ∧ r 3 = .val (.int .i64 ((fl ls i).length : Nat)) ∧ r 9 = .val (.slc (some (id, 0)) ls.length) ∧ r 10 = .val (.int .i64 ls.length) ∧ r 11 = .val (.int .i64 i)) ?_ ls.length _ ⟨0, _, by simp, rfl, by simp, by simp [fl_zero], by simp, by simp, by simp⟩
  rintro k σ ⟨i, r, hik, rfl, r0, r3, r9, r10, r11⟩
  cases k with
  | succ k =>
    have hi : i < ls.length := by omega
    obtain ⟨w, hwi⟩ : ∃ w, ws[i]? = some w := ⟨ws[i]'(by omega), List.getElem?_eq_getElem _⟩
    obtain ⟨l, hli⟩ : ∃ l, ls[i]? = some l := ⟨ls[i], List.getElem?_eq_getElem hi⟩
    have hs := hw i w l hwi hli
    have ld := load1 h0 hwi
    have hf := fl_step hli
    have hle := fl_le (ls := ls) (i := i + 1)
    have hfl := congrArg List.length hf
    rw [List.length_append] at hfl
    have hw1 : IntKind.i64.wrap ((i : Int) + 1) = ((i : Int) + 1) := wrap_i64 (by omega) (by omega)
    have hw2 : IntKind.i64.wrap (((fl ls i).length : Nat) + (l.length : Int)) = (((fl ls (i + 1)).length : Nat) : Int) := by rw [wrap_i64 (by omega) (by omega)]; omega
    have hn : ¬ ((((fl ls (i + 1)).length : Nat) : Int) < 0) := by omega
    simp [r0, r3, r9, r10, r11, hi, ld, hs.len, hw1, hw2, hn]
    exact ⟨k, by omega, i + 1, by omega, rfl, by omega⟩
  | zero =>
  have hi : i = ls.length := by omega
  subst hi
  have hg := l_Grow (H := H) (n := (fl ls ls.length).length) hb
  generalize hN : (fl ls ls.length).length = N at r3 hg hb
  by_cases hN0 : N = 0
  · rw [if_pos hN0] at hg
    simp [r0, r3, r9, r10, r11, hg]
    refine WP_loop (fun k σ => ∃ (i : Nat) (r : Nat → R), i + k = ls.length ∧ σ = ⟨r, 0, H⟩ ∧ r 6 = .val (.slc none 0) ∧ r 25 = .val (.slc (some (id, 0)) ls.length) ∧ r 26 = .val (.int .i64 ls.length) ∧ r 27 = .val (.int .i64 i)) ?_ ls.length _ ⟨0, _, by simp, rfl, by simp, by simp [r0], by simp, by simp⟩
    clear hik r0 r3 r9 r10 r11 r
    rintro k σ ⟨i, r, hik, rfl, r6, r25, r26, r27⟩
    cases k with
    | zero =>
      have hi : i = ls.length := by omega
      subst hi
      simp [r6, r25, r26, r27]
      exact .inl ⟨rfl, List.length_eq_zero_iff.1 (by omega)⟩
    | succ k =>
      have hi : i < ls.length := by omega
      obtain ⟨w, hwi⟩ : ∃ w, ws[i]? = some w := ⟨ws[i]'(by omega), List.getElem?_eq_getElem _⟩
      obtain ⟨l, hli⟩ : ∃ l, ls[i]? = some l := ⟨ls[i], List.getElem?_eq_getElem hi⟩
      have hs := hw i w l hwi hli
      have ld := load1 h0 hwi
      have hl0 : l.length = 0 := by
        have h1 := congrArg List.length (fl_step hli)
        have h2 := fl_le (ls := ls) (i := i + 1)
        rw [List.length_append] at h1
        omega
      obtain ⟨p, rfl, hc, _⟩ := strs_cells (T := []) hs
      rw [hl0] at hc ld
      have ha := app_none (s := .slc none 0) (H := H) (x := .slc p 0) (xs := []) (by simp [newCells, slcCells]; cases p <;> simp) ⟨(0, 0), 0, .inr rfl⟩
      have hw1 : IntKind.i64.wrap ((i : Int) + 1) = ((i : Int) + 1) := wrap_i64 (by omega) (by omega)
      simp [r6, r25, r26, r27, hi, ld, elemT, ha, hw1]
      exact ⟨k, by omega, i + 1, by omega, by omega⟩
  · rw [if_neg hN0] at hg
    simp [r0, r3, r9, r10, r11, hg]
    refine WP_loop (fun k σ => ∃ (i : Nat) (r : Nat → R) (zs : List V), i + k = ls.length ∧ σ = ⟨r, 0, H ++ [.mk true 1 ((fl ls i).map V.str ++ zs)]⟩ ∧ (fl ls i).length + zs.length = N ∧ r 6 = .val (.slc (some (H.length, 0)) (fl ls i).length) ∧ r 25 = .val (.slc (some (id, 0)) ls.length) ∧ r 26 = .val (.int .i64 ls.length) ∧ r 27 = .val (.int .i64 i)) ?_ ls.length _ ⟨0, _, zerosL LTstr N, by simp, by rw [fl_zero]; rfl, by simp [zerosL_str, fl_zero], by simp [fl_zero], by simp [r0], by simp, by simp⟩
    clear hik r0 r3 r9 r10 r11 r
    rintro k σ ⟨i, r, zs, hik, rfl, hzs, r6, r25, r26, r27⟩
    cases k with
    | zero =>
      have hi : i = ls.length := by omega
      subst hi
      have hz0 : zs = [] := List.length_eq_zero_iff.1 (by omega)
      subst hz0
      rw [List.append_nil]
      have hgs : Gs H (H ++ [.mk true 1 ((fl ls ls.length).map V.str)]) (.slc (some (H.length, 0)) (fl ls ls.length).length) ((fl ls ls.length).map V.str) := ⟨_, H.length, rfl, Nat.le_refl _, get_last, by simp⟩
      simp [r6, r25, r26, r27]
      exact .inr hgs
    | succ k =>
      have hi : i < ls.length := by omega
      obtain ⟨w, hwi⟩ : ∃ w, ws[i]? = some w := ⟨ws[i]'(by omega), List.getElem?_eq_getElem _⟩
      obtain ⟨l, hli⟩ : ∃ l, ls[i]? = some l := ⟨ls[i], List.getElem?_eq_getElem hi⟩
      have hs := hw i w l hwi hli
      have hf := fl_step hli
      have hfl := congrArg List.length hf
      rw [List.length_append] at hfl
      have hle := fl_le (ls := ls) (i := i + 1)
      have ld := load1 (H := H ++ [.mk true 1 ((fl ls i).map V.str ++ zs)]) (up_append _ _ h0) hwi
      obtain ⟨p, rfl, hc, _⟩ := strs_cells (T := [.mk true 1 ((fl ls i).map V.str ++ zs)]) hs
      have hw1 : IntKind.i64.wrap ((i : Int) + 1) = ((i : Int) + 1) := wrap_i64 (by omega) (by omega)
      have hnc : newCells LTstr (H ++ [.mk true 1 ((fl ls i).map V.str ++ zs)]) (.slc p l.length) = some (l.map V.str, l.length) := by
        simp only [newCells, Nat.mul_one, hc]
      by_cases hl0 : l.length = 0
      · have hl1 : l = [] := List.length_eq_zero_iff.1 hl0
        subst hl1
        have ha := app_none (s := .slc (some (H.length, 0)) (fl ls i).length) hnc ⟨_, _, .inl rfl⟩
        rw [List.append_nil] at hf
        rw [← hf] at ha ld r6 hzs ⊢
        simp at ld ha
        simp [r6, r25, r26, r27, hi, ld, elemT, ha, hw1]
        exact ⟨k, by omega, i + 1, by omega, _, zs, ⟨rfl, rfl⟩, by omega, by simp [r6], by simp [r25], by simp [r26], by simp⟩
      · have ha := app_fill (H := H) (ds := (fl ls i).map V.str) (zs := zs) hnc (by simp) hl0 (by simp) (by omega)
        rw [List.length_map] at ha
        rw [← List.map_append, ← hf] at ha
        simp [r6, r25, r26, r27, hi, ld, elemT, ha, hw1]
        exact ⟨k, by omega, i + 1, by omega, _, zs.drop l.length, ⟨rfl, rfl⟩, by simp; omega, by simp; omega, by simp [r25], by simp [r26], by simp⟩
end Go.Proofs.Try1
