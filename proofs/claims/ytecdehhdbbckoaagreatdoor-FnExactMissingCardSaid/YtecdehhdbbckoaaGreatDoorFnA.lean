/- What functions of the program compute, over the interpreter. Conditions: none but those that each theorem names. -/
import Derived.Test.YtecdehhdbbckoaaGreatDoorNum
import Derived.Test.YtecdehhdbbckoaaGreatDoorLiteF

namespace Go.Proofs.Try1
open Go Go.Lite
set_option linter.unusedSimpArgs false
set_option linter.unusedVariables false

theorem u8_lt {c : UInt8} : c.toNat < 256 := c.toNat_lt

set_option maxRecDepth 10000 in
theorem s_Plain {t : Str} {H : List Ob} (ht : t.length ≤ 1000) : callW C 138 [.str t] H = some (.bool (dec (Plain t)), H) := by
  apply Ret.dec
  rw [op138]
  simp [code138, Tryz.f138]
  refine WP_loop (fun k σ => ∃ (i : Nat) (r : Nat → R), i + k = t.length ∧ σ = ⟨r, 0, H⟩ ∧ r 0 = .val (.str t) ∧ r 3 = .val (.int .i64 i) ∧ ∀ j, j < i → ∀ c, t[j]? = some c → PlainB c) ?_ t.length _ ⟨0, _, by simp, rfl, by simp, by simp, by simp⟩
  rintro k σ ⟨i, r, hik, rfl, r0, r3, hall⟩
  cases k with
  | zero =>
    have hi : i = t.length := by omega
    subst hi
    simp [r0, r3]
    intro j c hc
    exact hall j (List.getElem?_eq_some_iff.1 hc).1 c hc
  | succ k =>
    have hi : i < t.length := by omega
    obtain ⟨c, hc⟩ : ∃ c, t[i]? = some c := ⟨t[i], by simp [hi]⟩
    have hc' : t[i] = c := (List.getElem?_eq_some_iff.1 hc).2
    have hw : IntKind.i64.wrap ((i : Int) + 1) = ((i : Int) + 1) := wrap_i64 (by omega) (by omega)
    by_cases h1 : (c.toNat : Int) < 32
    · simp [r0, r3, hi, hc', h1]
      intro hp
      have := (hp i c hc).1
      omega
    · by_cases h2 : (c.toNat : Int) > 126
      · simp [r0, r3, hi, hc', h1, h2]
        intro hp
        have := (hp i c hc).2
        omega
      · simp [r0, r3, hi, hc', h1, h2, hw]
        exact ⟨k, by omega, i + 1, by omega, by omega, all_step (P := fun _ c => PlainB c) hall hc ⟨by omega, by omega⟩⟩

set_option maxRecDepth 10000 in
theorem i_Plain {t : Str} {H : List Ob} (ht : t.length ≤ 1000) : callW C 133 [.str t] H = some (.bool (dec (Plain t)), H) := by
  apply Ret.dec
  rw [op133]
  simp [code133, Tryz.f133]
  refine WP_loop (fun k σ => ∃ (i : Nat) (r : Nat → R), i + k = t.length ∧ σ = ⟨r, 0, H⟩ ∧ r 0 = .val (.str t) ∧ r 5 = .val (.int .i64 t.length) ∧ r 6 = .val (.int .i64 i) ∧ ∀ j, j < i → ∀ c, t[j]? = some c → PlainB c) ?_ t.length _ ⟨0, _, by simp, rfl, by simp, by simp, by simp, by simp⟩
  rintro k σ ⟨i, r, hik, rfl, r0, r5, r6, hall⟩
  cases k with
  | zero =>
    have hi : i = t.length := by omega
    subst hi
    simp [r0, r5, r6]
    intro j c hc
    exact hall j (List.getElem?_eq_some_iff.1 hc).1 c hc
  | succ k =>
    have hi : i < t.length := by omega
    obtain ⟨c, hc⟩ : ∃ c, t[i]? = some c := ⟨t[i], by simp [hi]⟩
    have hc' : t[i] = c := (List.getElem?_eq_some_iff.1 hc).2
    have hw : IntKind.i64.wrap ((i : Int) + 1) = ((i : Int) + 1) := wrap_i64 (by omega) (by omega)
    by_cases h1 : (c.toNat : Int) < 32
    · simp [r0, r5, r6, hi, hc', h1]
      intro hp
      have := (hp i c hc).1
      omega
    · by_cases h2 : (c.toNat : Int) > 126
      · simp [r0, r5, r6, hi, hc', h1, h2]
        intro hp
        have := (hp i c hc).2
        omega
      · simp [r0, r5, r6, hi, hc', h1, h2, hw]
        exact ⟨k, by omega, i + 1, by omega, by omega, all_step (P := fun _ c => PlainB c) hall hc ⟨by omega, by omega⟩⟩

set_option maxRecDepth 10000 in
set_option maxHeartbeats 2000000 in
theorem s_Name {t : Str} {H : List Ob} : callW C 60 [.str t] H = some (.bool (dec (NameOk t)), H) := by
  apply Ret.dec
  rw [op60]
  by_cases g1 : (t.length : Int) < 1
  · have g2 : ¬ NameOk t := fun h => by have := h.1; omega
    simp [code60, Tryz.f60, g1, g2]
  by_cases g2 : (t.length : Int) > 20
  · have g3 : ¬ NameOk t := fun h => by have := h.2.1; omega
    simp [code60, Tryz.f60, g1, g2, g3]
  simp [code60, Tryz.f60, g1, g2]
  refine WP_loop (fun k σ => ∃ (i : Nat) (r : Nat → R), i + k = t.length ∧ σ = ⟨r, 0, H⟩ ∧ r 0 = .val (.str t) ∧ r 3 = .val (.int .i64 i) ∧ ∀ j, j < i → ∀ c, t[j]? = some c → LowB c ∨ (0 < j ∧ (DigB c ∨ c.toNat = 95))) ?_ t.length _ ⟨0, _, by simp, rfl, by simp, by simp, by simp⟩
  rintro k σ ⟨i, r, hik, rfl, r0, r3, hall⟩
  cases k with
  | zero =>
    have hi : i = t.length := by omega
    subst hi
    have hok : NameOk t := ⟨by omega, by omega, fun j c hc => hall j (List.getElem?_eq_some_iff.1 hc).1 c hc⟩
    simp [r0, r3, hok]
  | succ k =>
    have hi : i < t.length := by omega
    obtain ⟨c, hc⟩ : ∃ c, t[i]? = some c := ⟨t[i], by simp [hi]⟩
    have hc' : t[i] = c := (List.getElem?_eq_some_iff.1 hc).2
    have hw : IntKind.i64.wrap ((i : Int) + 1) = ((i : Int) + 1) := wrap_i64 (by omega) (by omega)
    have hgo : LowB c ∨ (0 < i ∧ (DigB c ∨ c.toNat = 95)) → ∃ k', k' < k + 1 ∧ ∃ i', i' + k' = t.length ∧ (i : Int) + 1 = i' ∧ ∀ j, j < i' → ∀ c, t[j]? = some c → LowB c ∨ (0 < j ∧ (DigB c ∨ c.toNat = 95)) := fun h =>
      ⟨k, by omega, i + 1, by omega, by omega, all_step (P := fun j c => LowB c ∨ (0 < j ∧ (DigB c ∨ c.toNat = 95))) hall hc h⟩
    by_cases h1 : LowB c
    · have h1a : (c.toNat : Int) ≥ 97 := by have := h1.1; omega
      have h1b : (c.toNat : Int) ≤ 122 := by have := h1.2; omega
      simp [r0, r3, hi, hc', h1a, h1b, hw]
      exact hgo (.inl h1)
    have hl : (¬ (c.toNat : Int) ≥ 97) ∨ ((c.toNat : Int) ≥ 97 ∧ ¬ (c.toNat : Int) ≤ 122) := by unfold LowB at h1; omega
    have hno : ¬ (0 < i ∧ (DigB c ∨ c.toNat = 95)) → ¬ NameOk t := fun h hk => (hk.2.2 i c hc).elim h1 h
    by_cases h2 : i = 0
    · have hno := hno (by omega)
      subst h2
      rcases hl with hl | ⟨hl, hl2⟩
      · simp [r0, r3, hi, hc', hl, hno]
      · simp [r0, r3, hi, hc', hl, hl2, hno]
    have h2' : ¬ (i : Int) = 0 := by omega
    by_cases h3 : DigB c
    · have h3a : (c.toNat : Int) ≥ 48 := by have := h3.1; omega
      have h3b : (c.toNat : Int) ≤ 57 := by have := h3.2; omega
      have h3c : ¬ (c.toNat : Int) ≥ 97 := by omega
      simp [r0, r3, hi, hc', h2, h3a, h3b, h3c, hw]
      exact hgo (.inr ⟨by omega, .inl h3⟩)
    have hd : (¬ (c.toNat : Int) ≥ 48) ∨ ((c.toNat : Int) ≥ 48 ∧ ¬ (c.toNat : Int) ≤ 57) := by unfold DigB at h3; omega
    by_cases h4 : c.toNat = 95
    · have := hgo (.inr ⟨by omega, .inr h4⟩)
      simp [r0, r3, hi, hc', h2, h4, hw]
      exact this
    · have h4' : ¬ (c.toNat : Int) = 95 := by omega
      have hno := hno (fun h => h.2.elim h3 h4)
      rcases hl with hl | ⟨hl, hl2⟩ <;> rcases hd with hd | ⟨hd, hd2⟩
      · simp [r0, r3, hi, hc', h2, h4', hl, hd, hno]
      · simp [r0, r3, hi, hc', h2, h4', hl, hd, hd2, hno]
      · simp [r0, r3, hi, hc', h2, h4', hl, hl2, hd, hno]
      · simp [r0, r3, hi, hc', h2, h4', hl, hl2, hd, hd2, hno]
end Go.Proofs.Try1

namespace Go.Proofs.Try1
open Go Go.Lite
set_option linter.unusedSimpArgs false
set_option linter.unusedVariables false

/-- The set of some bytes, as 256 cells. -/
def setOf (l : Str) : List V := (List.range 256).map fun i => V.bool (l.any fun c => c.toNat == i)
theorem setOf_len {l : Str} : (setOf l).length = 256 := by simp [setOf]
theorem setOf_get {l : Str} {i : Nat} (h : i < 256) : (setOf l)[i]? = some (.bool (l.any fun c => c.toNat == i)) := by
  unfold setOf
  rw [List.getElem?_map, List.getElem?_range h]
  rfl
theorem setOf_mem {l : Str} {c : UInt8} : (setOf l)[c.toNat]? = some (.bool (decide (c ∈ l))) := by
  rw [setOf_get c.toNat_lt]
  congr 2
  rw [Bool.eq_iff_iff]
  simp only [List.any_eq_true, decide_eq_true_eq, beq_iff_eq]
  constructor
  · rintro ⟨d, hd, he⟩
    rw [← UInt8.toNat_inj.1 he]
    exact hd
  · intro h
    exact ⟨c, h, rfl⟩
theorem setOf_nil : setOf [] = List.replicate 256 (.bool false) := by
  apply List.ext_getElem?
  intro i
  by_cases h : i < 256
  · rw [setOf_get h, List.getElem?_replicate, if_pos h]
    rfl
  · rw [List.getElem?_eq_none (by rw [setOf_len]; omega), List.getElem?_eq_none (by rw [List.length_replicate]; omega)]
theorem setOf_snoc {l : Str} {c : UInt8} : (setOf l).set c.toNat (.bool true) = setOf (l ++ [c]) := by
  apply List.ext_getElem?
  intro i
  have hc := c.toNat_lt
  by_cases h : i < 256
  · rw [setOf_get h]
    by_cases hi : i = c.toNat
    · subst hi
      rw [List.getElem?_set_self (by rw [setOf_len]; omega)]
      simp
    · rw [List.getElem?_set_ne (by omega), setOf_get h]
      congr 2
      have : (c.toNat == i) = false := by simp; omega
      simp [this]
  · rw [List.getElem?_eq_none (by simp [setOf_len]; omega), List.getElem?_eq_none (by rw [setOf_len]; omega)]

set_option maxRecDepth 10000 in
theorem mkSet {t : Str} {H : List Ob} (ht : ∀ c ∈ t, c.toNat < 128) (hl : t.length ≤ 1000) : callW C 158 [.str t] H = some (.tup [.agg (setOf t), .bool true], H) := by
  apply Ret.eq
  rw [op158]
  simp [code158, Tryz.f158, -List.reduceReplicate]
  refine WP_loop (fun k σ => ∃ (i : Nat) (r : Nat → R), i + k = t.length ∧ σ = ⟨r, 1, H⟩ ∧ r 0 = .val (.str t) ∧ r 2 = .box 0 (setOf (t.take i)) ∧ r 4 = .val (.int .i64 i)) ?_ t.length _ ⟨0, _, by simp, rfl, by simp, by simp [setOf_nil, -List.reduceReplicate], by simp⟩
  rintro k σ ⟨i, r, hik, rfl, r0, r2, r4⟩
  cases k with
  | zero =>
    have hi : i = t.length := by omega
    subst hi
    rw [List.take_length] at r2
    have htk : (setOf t).take 256 = setOf t := List.take_of_length_le (by rw [setOf_len]; omega)
    have hdr : (setOf t).drop 256 = [] := List.drop_of_length_le (by rw [setOf_len]; omega)
    have hall : ∀ x ∈ setOf t, isOne x = true := fun x hx => by
      simp only [setOf, List.mem_map] at hx
      obtain ⟨_, _, rfl⟩ := hx
      rfl
    simp [r0, r2, r4, setOf_len, htk, hdr, if_pos hall, -List.reduceReplicate]
  | succ k =>
    have hi : i < t.length := by omega
    obtain ⟨c, hc⟩ : ∃ c, t[i]? = some c := ⟨t[i], by simp [hi]⟩
    have hc' : t[i] = c := (List.getElem?_eq_some_iff.1 hc).2
    have hw : IntKind.i64.wrap ((i : Int) + 1) = ((i : Int) + 1) := wrap_i64 (by omega) (by omega)
    have h128 : c.toNat < 128 := ht c (List.mem_of_getElem? hc)
    have h1 : ¬ (c.toNat : Int) ≥ 128 := by omega
    have h2 : (c.toNat : Int) < 256 := by omega
    have h3 : c.toNat < 256 := by omega
    have hs : setRange (setOf (t.take i)) c.toNat [.bool true] = setOf (t.take (i + 1)) := by rw [setRange_one (by rw [setOf_len]; omega), setOf_snoc, take_get hc]
    have h4 : c.toNat + 1 ≤ 256 := by omega
    simp [r0, r2, r4, hi, hc', h1, h2, h3, h4, hw, setOf_len, hs, indexR, -setRange, -List.reduceReplicate]
    exact ⟨k, by omega, i + 1, by omega, rfl, by omega⟩

set_option maxRecDepth 10000 in
theorem setHas {l : Str} {H : List Ob} {id : Nat} {own : Bool} {c : UInt8} (h : H[id]? = some (.mk own 1 (setOf l))) : callW C 188 [.ptr (some (id, 0)), .int .u8 c.toNat] H = some (.bool (decide (c ∈ l)), H) := by
  apply Ret.eq
  rw [op188]
  have h2 : (c.toNat : Int) < 256 := by have := c.toNat_lt; omega
  have ld := load1 (o := c.toNat) h setOf_mem
  simp [code188, Tryz.f188, indexR, h2, ld, -List.reduceReplicate]

def kset : Str := [97, 98, 99, 100, 101, 102, 103, 104, 105, 106, 107, 108, 109, 110, 111, 112, 113, 114, 115, 116, 117, 118, 119, 120, 121, 122, 48, 49, 50, 51, 52, 53, 54, 55, 56, 57, 95]
theorem kset_mem {c : UInt8} : c ∈ kset ↔ LowB c ∨ DigB c ∨ c.toNat = 95 := by
  unfold kset LowB DigB
  simp only [List.mem_cons, List.not_mem_nil, or_false, ← UInt8.toNat_inj]
  have h := c.toNat_lt
  simp only [UInt8.toNat_ofNat, Nat.reducePow, Nat.reduceMod]
  omega
def AllK (t : Str) : Prop := ∀ c ∈ t, c ∈ kset

set_option maxRecDepth 10000 in
theorem trimR {t : Str} {H : List Ob} {id : Nat} {own : Bool} (h : H[id]? = some (.mk own 1 (setOf kset))) (hl : t.length ≤ 1000) : ∃ s, callW C 160 [.str t, .ptr (some (id, 0))] H = some (.str s, H) ∧ (AllK s ↔ AllK t) ∧ (s = [] ∨ ¬ AllK s) ∧ s.length ≤ 1000 := by
  suffices hs : Ret C 160 [.str t, .ptr (some (id, 0))] H fun q H' => (∃ s, q = .str s ∧ (AllK s ↔ AllK t) ∧ (s = [] ∨ ¬ AllK s) ∧ s.length ≤ 1000) ∧ H' = H by
    obtain ⟨q, H', hc, ⟨s, rfl, hr⟩, rfl⟩ := hs
    exact ⟨s, hc, hr⟩
  rw [op160]
  simp [code160, Tryz.f160, -List.reduceReplicate]
  refine WP_loop (fun k σ => ∃ (s : Str) (r : Nat → R), s.length = k ∧ σ = ⟨r, 0, H⟩ ∧ r 0 = .val (.str s) ∧ r 1 = .val (.ptr (some (id, 0))) ∧ (AllK s ↔ AllK t) ∧ s.length ≤ 1000) ?_ t.length _ ⟨t, _, rfl, rfl, by simp, by simp, Iff.rfl, hl⟩
  rintro k σ ⟨s, r, hk, rfl, r0, r1, hall, hs⟩
  cases k with
  | zero =>
    have hs0 : s = [] := List.length_eq_zero_iff.1 hk
    subst hs0
    simp [r0, r1]
    exact hall
  | succ k =>
    have hp : (0 : Int) < (s.length : Int) := by omega
    have hne : s ≠ [] := by rintro rfl; simp at hk
    obtain ⟨d, hd⟩ : ∃ d, s.getLast hne = d := ⟨_, rfl⟩
    have hd' : s[s.length - 1]? = some d := by rw [← List.getLast?_eq_getElem?, List.getLast?_eq_some_getLast hne, hd]
    have hd2 : s[s.length - 1]'(by omega) = d := (List.getElem?_eq_some_iff.1 hd').2
    have hw1 : IntKind.i64.wrap ((s.length : Int) - 1) = (s.length : Int) - 1 := wrap_i64 (by omega) (by omega)
    have h3 : (1 : Int) ≤ (s.length : Int) := by omega
    have h4 : ((s.length : Int) - 1).toNat = s.length - 1 := by omega
    have h5 : s.length - 1 < s.length := by omega
    have c1 := setHas (c := d) h
    have hdrop : s = s.take (s.length - 1) ++ [d] := by
      have := take_get hd'
      rw [show s.length - 1 + 1 = s.length by omega, List.take_length] at this
      exact this
    by_cases hm : d ∈ kset
    · have h6 : s.length - 1 ≤ s.length := by omega
      simp [r0, r1, hp, hne, hw1, h3, h4, h5, h6, hd2, hd', c1, hm, -List.reduceReplicate]
      refine ⟨by omega, k, by omega, _, by simp; omega, rfl, ?_, by simp; omega⟩
      rw [← hall]
      constructor
      · intro hA c hc
        rw [hdrop] at hc
        rcases List.mem_append.1 hc with hc | hc
        · exact hA c hc
        · simp at hc; rw [hc]; exact hm
      · intro hA c hc
        exact hA c (List.mem_of_mem_take hc)
    · have hn : ¬ AllK s := fun hA => hm (hA d (List.mem_of_getElem? hd'))
      simp [r0, r1, hp, hne, hw1, h3, h4, h5, hd2, hd', c1, hm, -List.reduceReplicate]
      exact ⟨by omega, hall, hn, hs⟩

set_option maxRecDepth 10000 in
theorem trimL {t : Str} {H : List Ob} {id : Nat} {own : Bool} (h : H[id]? = some (.mk own 1 (setOf kset))) (hl : t.length ≤ 1000) : ∃ s, callW C 159 [.str t, .ptr (some (id, 0))] H = some (.str s, H) ∧ (AllK s ↔ AllK t) ∧ (s = [] ∨ ¬ AllK s) := by
  suffices hs : Ret C 159 [.str t, .ptr (some (id, 0))] H fun q H' => (∃ s, q = .str s ∧ (AllK s ↔ AllK t) ∧ (s = [] ∨ ¬ AllK s)) ∧ H' = H by
    obtain ⟨q, H', hc, ⟨s, rfl, hr⟩, rfl⟩ := hs
    exact ⟨s, hc, hr⟩
  rw [op159]
  simp [code159, Tryz.f159, -List.reduceReplicate]
  refine WP_loop (fun k σ => ∃ (s : Str) (r : Nat → R), s.length = k ∧ σ = ⟨r, 0, H⟩ ∧ r 0 = .val (.str s) ∧ r 1 = .val (.ptr (some (id, 0))) ∧ (AllK s ↔ AllK t)) ?_ t.length _ ⟨t, _, rfl, rfl, by simp, by simp, Iff.rfl⟩
  rintro k σ ⟨s, r, hk, rfl, r0, r1, hall⟩
  cases k with
  | zero =>
    have hs0 : s = [] := List.length_eq_zero_iff.1 hk
    subst hs0
    simp [r0, r1]
    exact hall
  | succ k =>
    match s, hk with
    | d :: s, hk =>
    have hk' : s.length = k := by simpa using hk
    have c1 := setHas (c := d) h
    have hp : (0 : Int) < (s.length : Int) + 1 := by omega
    by_cases hm : d ∈ kset
    · simp [r0, r1, hp, c1, hm, -List.reduceReplicate]
      refine ⟨k, by omega, s, hk', rfl, ?_⟩
      rw [← hall]
      constructor
      · intro hA c hc
        rcases List.mem_cons.1 hc with rfl | hc
        · exact hm
        · exact hA c hc
      · intro hA c hc
        exact hA c (List.mem_cons_of_mem _ hc)
    · have hn : ¬ AllK (d :: s) := fun hA => hm (hA d List.mem_cons_self)
      simp [r0, r1, hp, c1, hm, -List.reduceReplicate]
      exact ⟨hall, hn⟩
end Go.Proofs.Try1
