/- Counting, comparing, copying and marking lists. Conditions: none but those that each theorem names. -/
import Derived.Test.YtecdehhdbbckoaaGreatDoorNum
import Derived.Test.YtecdehhdbbckoaaGreatDoorLiteF

namespace Go.Proofs.Try1
open Go Go.Lite
set_option linter.unusedSimpArgs false
set_option linter.unusedVariables false

/-- The function counts a datum. -/
def SzFn (f : Nat) (sh : Sh) : Prop := ∀ (H : List Ob) (cs : List V) (u : U) (left : Nat), At H sh cs u → left ≤ 1048576 →
  callW C f [valOf sh cs, .int .i64 left] H = some (.int .i64 (if wt u ≤ left then ((left - wt u : Nat) : Int) else -1), H)

theorem wts_nil_take {l : List U} : wts (l.take 0) = 0 := rfl

set_option maxRecDepth 10000 in
theorem sz_StringS : SzFn 20 (.slice .str) := by
  intro H cs u left h hleft
  simp only [At] at h
  obtain ⟨v, l, rfl, rfl, hlen, hv⟩ := h
  apply Ret.eq
  rw [op20]
  by_cases h0 : (l.length : Int) ≤ left
  · have h0' : ¬ ((left : Int) - l.length < 0) := by omega
    have hw0 : IntKind.i64.wrap ((left : Int) - l.length) = (left : Int) - l.length := wrap_i64 (by omega) (by omega)
    simp [code20, Tryz.f20, valOf, hv.len, hw0, h0']
    refine WP_loop (fun k σ => ∃ (i : Nat) (r : Nat → R), i + k = l.length ∧ σ = ⟨r, 0, H⟩ ∧ r 0 = .val v ∧ l.length + wts (l.take i) ≤ left ∧ r 1 = .val (.int .i64 ((left : Int) - l.length - wts (l.take i))) ∧ r 5 = .val (.int .i64 i)) ?_ l.length _ ⟨0, _, by simp, rfl, by simp, by simp [wts]; omega, by simp [wts], by simp⟩
    rintro k σ ⟨i, r, hik, rfl, r0, hle, r1, r5⟩
    cases k with
    | zero =>
      have hi : i = l.length := by omega
      subst hi
      rw [List.take_length] at hle r1
      simp [r0, r1, r5, hv.len, wt, hle]
      omega
    | succ k =>
      have hi : i < l.length := by omega
      obtain ⟨x, hx⟩ : ∃ x, l[i]? = some x := ⟨l[i], by simp [hi]⟩
      obtain ⟨eid, o, own, cells, e1, e2, e3, s, e4, rfl, e5⟩ := hv.idx hx (by decide)
      simp only [Sh.size_str] at e1
      have c0 : cells[o]? = some (.str s) := by simpa using cells_get e4 (j := 0) rfl
      have ld := load1 e2 c0
      have ht := wts_take hx
      simp only [wt] at ht
      have hg := wts_get hx
      simp only [wt] at hg
      have hw : IntKind.i64.wrap ((i : Int) + 1) = ((i + 1 : Nat) : Int) := by rw [wrap_i64 (by omega) (by omega)]; omega
      have hw2 : IntKind.i64.wrap ((left : Int) - l.length - wts (l.take i) - s.length) = (left : Int) - l.length - wts (l.take i) - s.length := wrap_i64 (by have : s.length ≤ maxLen := e5; unfold maxLen at this; omega) (by omega)
      by_cases hb : l.length + wts (l.take (i + 1)) ≤ left
      · have hb' : ¬ ((left : Int) - l.length - wts (l.take i) - s.length < 0) := by omega
        simp [r0, r1, r5, hi, hv.len, e1, ld, hw, hw2, hb']
        exact ⟨k, by omega, i + 1, by omega, hb, by omega, by omega⟩
      · have hb' : (left : Int) - l.length - wts (l.take i) - s.length < 0 := by omega
        have := wts_take_le (l := l) (i := i + 1)
        have hn : ¬ (l.length + wts l ≤ left) := by omega
        simp [r0, r1, r5, hi, hv.len, e1, ld, hw, hw2, hb', wt, hn]
  · have h0' : (left : Int) - l.length < 0 := by omega
    have hw0 : IntKind.i64.wrap ((left : Int) - l.length) = (left : Int) - l.length := wrap_i64 (by have : l.length ≤ maxLen := hlen; unfold maxLen at this; omega) (by omega)
    have hn : ¬ (l.length + wts l ≤ left) := by omega
    simp [code20, Tryz.f20, valOf, hv.len, hw0, h0', wt, hn]

set_option maxRecDepth 10000 in
theorem szSlc {f g tS tE : Nat} {zs : List V} {fs : List Sh} {F : Func} (hop : ∀ {a : List V} {H : List Ob} {R : V → List Ob → Prop}, Ret C f a H R ↔ WP C f (ren [(23, tS), (115, tE)] [(95, g)] code41) ⟨initRegs a, 0, H⟩ (finQ C F H R))
    (hF : F.results = #[.tmp 4]) (hS : C.ty tS = ⟨.slice tE, 1, 24, zs⟩) (hE : (C.ty tE).size = (Sh.st fs).size) (hE2 : (C.ty tE).isAgg = true) (hE0 : (C.ty tE).size ≠ 0) (hg : SzFn g (.st fs)) : SzFn f (.slice (.st fs)) := by
  intro H cs u left h hleft
  simp only [At] at h
  obtain ⟨v, l, rfl, rfl, hlen, hv⟩ := h
  apply Ret.eq
  rw [hop]
  by_cases h0 : (l.length : Int) ≤ left
  · have h0' : ¬ ((left : Int) - l.length < 0) := by omega
    have hw0 : IntKind.i64.wrap ((left : Int) - l.length) = (left : Int) - l.length := wrap_i64 (by omega) (by omega)
    simp [code41, Tryz.f41, ren, renO, renP, renX, sub, valOf, hS, hv.len, hw0, h0']
    refine WP_loop (fun k σ => ∃ (i : Nat) (r : Nat → R), i + k = l.length ∧ σ = ⟨r, 0, H⟩ ∧ r 0 = .val v ∧ l.length + wts (l.take i) ≤ left ∧ r 1 = .val (.int .i64 ((left : Int) - l.length - wts (l.take i))) ∧ r 5 = .val (.int .i64 i)) ?_ l.length _ ⟨0, _, by simp, rfl, by simp, by simp [wts]; omega, by simp [wts], by simp⟩
    rintro k σ ⟨i, r, hik, rfl, r0, hle, r1, r5⟩
    cases k with
    | zero =>
      have hi : i = l.length := by omega
      subst hi
      rw [List.take_length] at hle r1
      simp [r0, r1, r5, hS, hv.len, wt, hle, hF]
      omega
    | succ k =>
      have hi : i < l.length := by omega
      obtain ⟨x, hx⟩ : ∃ x, l[i]? = some x := ⟨l[i], by simp [hi]⟩
      obtain ⟨eid, o, own, cells, e1, e2, e3, e4⟩ := hv.idx hx (by rw [← hE]; exact hE0)
      have e1 := fun (k : IntKind) => e1 tE 1 24 zs C.ty k hE
      have ld := load_agg (T := C.ty tE) e2 (by rw [hE]; exact e3) rfl hE0 hE2
      rw [hE] at ld
      have ht := wts_take hx
      have hw : IntKind.i64.wrap ((i : Int) + 1) = ((i + 1 : Nat) : Int) := by rw [wrap_i64 (by omega) (by omega)]; omega
      have hc := hg H _ x (left - l.length - wts (l.take i)) e4 (by omega)
      rw [show ((left - l.length - wts (l.take i) : Nat) : Int) = (left : Int) - l.length - wts (l.take i) by omega] at hc
      simp only [valOf, Sh.size_st] at hc
      by_cases hb : l.length + wts (l.take (i + 1)) ≤ left
      · have hb2 : wt x ≤ left - l.length - wts (l.take i) := by omega
        have hb' : ¬ (((left - l.length - wts (l.take i) - wt x : Nat) : Int) < 0) := by omega
        rw [if_pos hb2] at hc
        simp [r0, r1, r5, hi, hS, hv.len, e1, ld, hw, hc, hb']
        exact ⟨k, by omega, i + 1, by omega, hb, by omega, by omega⟩
      · have hb2 : ¬ (wt x ≤ left - l.length - wts (l.take i)) := by omega
        have := wts_take_le (l := l) (i := i + 1)
        have hn : ¬ (l.length + wts l ≤ left) := by omega
        rw [if_neg hb2] at hc
        simp [r0, r1, r5, hi, hS, hv.len, e1, ld, hw, hc, wt, hn, hF]
  · have h0' : (left : Int) - l.length < 0 := by omega
    have hw0 : IntKind.i64.wrap ((left : Int) - l.length) = (left : Int) - l.length := wrap_i64 (by have : l.length ≤ maxLen := hlen; unfold maxLen at this; omega) (by omega)
    have hn : ¬ (l.length + wts l ≤ left) := by omega
    simp [code41, Tryz.f41, ren, renO, renP, renX, sub, valOf, hS, hv.len, hw0, h0', wt, hn, hF]
end Go.Proofs.Try1

namespace Go.Proofs.Try1
open Go Go.Lite
set_option linter.unusedSimpArgs false
set_option linter.unusedVariables false

/-- The function says whether two data are the same. -/
def EqFn (f : Nat) (sh : Sh) : Prop := ∀ (H : List Ob) (cs ds : List V) (u w : U), At H sh cs u → At H sh ds w →
  ∃ b : Bool, (b = true ↔ u = w) ∧ callW C f [valOf sh cs, valOf sh ds] H = some (.bool b, H)

theorem Ret.bool {f : Nat} {a : List V} {H : List Ob} {p : Prop} (h : Ret C f a H fun r H' => ∃ b : Bool, (b = true ↔ p) ∧ r = .bool b ∧ H' = H) : ∃ b : Bool, (b = true ↔ p) ∧ callW C f a H = some (.bool b, H) := by
  obtain ⟨r, H', hc, b, hb, rfl, rfl⟩ := h
  exact ⟨b, hb, hc⟩

theorem take_snoc {α : Type} {l m : List α} {i : Nat} {x : α} (h : l.take i = m.take i) (hx : l[i]? = some x) (hy : m[i]? = some x) : l.take (i + 1) = m.take (i + 1) := by
  rw [List.take_add_one, List.take_add_one, h, hx, hy]
theorem get_ne {α : Type} {l m : List α} {i : Nat} {x y : α} (hx : l[i]? = some x) (hy : m[i]? = some y) (h : ¬ x = y) : ¬ l = m := by
  rintro rfl
  rw [hx] at hy
  exact h (Option.some.inj hy)

set_option maxRecDepth 10000 in
theorem eq_StringS : EqFn 13 (.slice .str) := by
  intro H cs ds u w h h'
  obtain ⟨v, l, rfl, rfl, hlen, hv⟩ := At_slice.1 h
  obtain ⟨v', l', rfl, rfl, hlen', hv'⟩ := At_slice.1 h'
  apply Ret.bool
  rw [op13]
  have hl64 : l.length ≤ 9223372036854775807 := hlen
  by_cases hl : l.length = l'.length
  · simp [code13, Tryz.f13, valOf, hv.len, hv'.len, hl]
    refine WP_loop (fun k σ => ∃ (i : Nat) (r : Nat → R), i + k = l.length ∧ σ = ⟨r, 0, H⟩ ∧ r 0 = .val v ∧ r 1 = .val v' ∧ r 5 = .val (.int .i64 i) ∧ l.take i = l'.take i) ?_ l.length _ ⟨0, _, by simp, rfl, by simp, by simp, by simp, by simp⟩
    rintro k σ ⟨i, r, hik, rfl, r0, r1, r5, heq⟩
    cases k with
    | zero =>
      have hi : i = l'.length := by omega
      subst hi
      have : l = l' := by rwa [← hl, List.take_length, hl, List.take_length] at heq
      simp [r0, r1, r5, hv.len, hl, this]
    | succ k =>
      have hi : i < l.length := by omega
      have hi' : i < l'.length := by omega
      obtain ⟨x, hx⟩ : ∃ x, l[i]? = some x := ⟨l[i], by simp [hi]⟩
      obtain ⟨y, hy⟩ : ∃ y, l'[i]? = some y := ⟨l'[i], by simp [hi']⟩
      obtain ⟨eid, o, own, cells, e1, e2, e3, s, e4, rfl, e5⟩ := hv.idx hx (by decide)
      obtain ⟨eid', o', own', cells', f1, f2, f3, s', f4, rfl, f5⟩ := hv'.idx hy (by decide)
      simp only [Sh.size_str] at e1 f1
      have c0 : cells[o]? = some (.str s) := by simpa using cells_get e4 (j := 0) rfl
      have d0 : cells'[o']? = some (.str s') := by simpa using cells_get f4 (j := 0) rfl
      have ld := load1 e2 c0
      have ld' := load1 f2 d0
      have hw1 : IntKind.i64.wrap ((i : Int) + 1) = ((i + 1 : Nat) : Int) := by rw [wrap_i64 (by omega) (by omega)]; omega
      by_cases hxy : s = s'
      · subst hxy
        simp [r0, r1, r5, hi', hv.len, hl, e1, f1, ld, ld', hw1, regionL_none]
        exact ⟨k, by omega, i + 1, by omega, by omega, take_snoc heq hx hy⟩
      · have hne : ¬ l = l' := get_ne hx hy (by intro e; cases e; exact hxy rfl)
        simp [r0, r1, r5, hi', hv.len, hl, e1, f1, ld, ld', hw1, regionL_none, hxy, hne]
  · have hne : ¬ l = l' := fun e => hl (by rw [e])
    have hl' : ¬ (l.length : Int) = l'.length := by omega
    simp [code13, Tryz.f13, valOf, hv.len, hv'.len, hl', hne, hl]

set_option maxRecDepth 10000 in
theorem eqSlc {f g tS tE : Nat} {zs : List V} {fs : List Sh} {F : Func} (hop : ∀ {a : List V} {H : List Ob} {R : V → List Ob → Prop}, Ret C f a H R ↔ WP C f (ren [(33, tS), (120, tE)] [(108, g)] code54) ⟨initRegs a, 0, H⟩ (finQ C F H R))
    (hF : F.results = #[.tmp 4]) (hO : C.ord f 6 = none) (hS : C.ty tS = ⟨.slice tE, 1, 24, zs⟩) (hE : (C.ty tE).size = (Sh.st fs).size) (hE2 : (C.ty tE).isAgg = true) (hE0 : (C.ty tE).size ≠ 0) (hg : EqFn g (.st fs)) : EqFn f (.slice (.st fs)) := by
  intro H cs ds u w h h'
  obtain ⟨v, l, rfl, rfl, hlen, hv⟩ := At_slice.1 h
  obtain ⟨v', l', rfl, rfl, hlen', hv'⟩ := At_slice.1 h'
  apply Ret.bool
  rw [hop]
  have hl64 : l.length ≤ 9223372036854775807 := hlen
  by_cases hl : l.length = l'.length
  · simp [code54, Tryz.f54, ren, renO, renP, renX, sub, valOf, hS, hv.len, hv'.len, hl]
    refine WP_loop (fun k σ => ∃ (i : Nat) (r : Nat → R), i + k = l.length ∧ σ = ⟨r, 0, H⟩ ∧ r 0 = .val v ∧ r 1 = .val v' ∧ r 5 = .val (.int .i64 i) ∧ l.take i = l'.take i) ?_ l.length _ ⟨0, _, by simp, rfl, by simp, by simp, by simp, by simp⟩
    rintro k σ ⟨i, r, hik, rfl, r0, r1, r5, heq⟩
    cases k with
    | zero =>
      have hi : i = l'.length := by omega
      subst hi
      have : l = l' := by rwa [← hl, List.take_length, hl, List.take_length] at heq
      simp [r0, r1, r5, hS, hv.len, hl, this, hF]
    | succ k =>
      have hi : i < l.length := by omega
      have hi' : i < l'.length := by omega
      obtain ⟨x, hx⟩ : ∃ x, l[i]? = some x := ⟨l[i], by simp [hi]⟩
      obtain ⟨y, hy⟩ : ∃ y, l'[i]? = some y := ⟨l'[i], by simp [hi']⟩
      obtain ⟨eid, o, own, cells, e1, e2, e3, e4⟩ := hv.idx hx (by rw [← hE]; exact hE0)
      obtain ⟨eid', o', own', cells', f1, f2, f3, f4⟩ := hv'.idx hy (by rw [← hE]; exact hE0)
      have e1 := fun (k : IntKind) => e1 tE 1 24 zs C.ty k hE
      have f1 := fun (k : IntKind) => f1 tE 1 24 zs C.ty k hE
      have ld := load_agg (T := C.ty tE) e2 (by rw [hE]; exact e3) rfl hE0 hE2
      have ld' := load_agg (T := C.ty tE) f2 (by rw [hE]; exact f3) rfl hE0 hE2
      rw [hE] at ld ld'
      have hw1 : IntKind.i64.wrap ((i : Int) + 1) = ((i + 1 : Nat) : Int) := by rw [wrap_i64 (by omega) (by omega)]; omega
      obtain ⟨b, hb, hc⟩ := hg H _ _ x y e4 f4
      simp only [valOf, Sh.size_st] at hc
      by_cases hxy : x = y
      · have := hb.2 hxy
        subst this hxy
        simp [r0, r1, r5, hi', hS, hv.len, hl, e1, f1, ld, ld', hw1, regionL_none hO, hc]
        exact ⟨k, by omega, i + 1, by omega, by omega, take_snoc heq hx hy⟩
      · have hne : ¬ l = l' := get_ne hx hy hxy
        have : b = false := by cases b with
          | false => rfl
          | true => exact absurd (hb.1 rfl) hxy
        subst this
        simp [r0, r1, r5, hi', hS, hv.len, hl, e1, f1, ld, ld', hw1, regionL_none hO, hc, hne, hF]
  · have hne : ¬ l = l' := fun e => hl (by rw [e])
    have hl' : ¬ (l.length : Int) = l'.length := by omega
    simp [code54, Tryz.f54, ren, renO, renP, renX, sub, valOf, hS, hv.len, hv'.len, hl', hne, hl, hF]
end Go.Proofs.Try1

namespace Go.Proofs.Try1
open Go Go.Lite
set_option linter.unusedSimpArgs false
set_option linter.unusedVariables false

/-- The function copies a datum into new memory. -/
def ToFn (f : Nat) (sh : Sh) : Prop := ∀ (H : List Ob) (cs : List V) (u : U), At H sh cs u → wt u ≤ 1048576 →
  ∃ T cs' F, callW C f [valOf sh cs] H = some (valOf sh cs', H ++ T) ∧ AtF (H ++ T) sh cs' u F ∧ F.Nodup ∧ ∀ id ∈ F, H.length ≤ id

theorem Ret.to {f : Nat} {sh : Sh} {a : List V} {H : List Ob} {u : U} (h : Ret C f a H fun r H' => ∃ T cs' F, H' = H ++ T ∧ r = valOf sh cs' ∧ AtF (H ++ T) sh cs' u F ∧ F.Nodup ∧ ∀ id ∈ F, H.length ≤ id) :
    ∃ T cs' F, callW C f a H = some (valOf sh cs', H ++ T) ∧ AtF (H ++ T) sh cs' u F ∧ F.Nodup ∧ ∀ id ∈ F, H.length ≤ id := by
  obtain ⟨r, H', hc, T, cs', F, rfl, rfl, h1, h2, h3⟩ := h
  exact ⟨T, cs', F, hc, h1, h2, h3⟩

set_option maxRecDepth 10000 in
theorem to_StringS : ToFn 22 (.slice .str) := by
  intro H cs u h hwt
  obtain ⟨v, l, rfl, rfl, hlen, hv⟩ := At_slice.1 h
  apply Ret.to
  rw [op22]
  simp only [wt] at hwt
  have b1 : (l.length : Int) * 16 ≤ 1099511627776 := by omega
  have b2 : (l.length : Int) ≤ 1099511627776 := by omega
  simp [code22, Tryz.f22, valOf, elemT, St.new, maxMade, b1, b2, hv.len]
  refine WP_loop (fun k σ => ∃ (i : Nat) (r : Nat → R) (G : List Ob), i + k = l.length ∧ σ = ⟨r, 0, G⟩ ∧ ToI H .str l i G ∧ r 0 = .val v ∧ r 3 = .val (.slc (some (H.length, 0)) l.length) ∧ r 4 = .val (.int .i64 i)) ?_ l.length _ ⟨0, _, _, by simp, rfl, ToI.init (by simp [zerosL]), by simp, by simp, by simp⟩
  rintro k σ ⟨i, r, G, hik, rfl, hI, r0, r3, r4⟩
  cases k with
  | zero =>
    have hi : i = l.length := by omega
    subst hi
    obtain ⟨T, F, rfl, h1, h2, h3, h4⟩ := hI.done hlen
    simp [r0, r3, r4, hv.len]
    exact ⟨[_], rfl, F, h1, h2, h3⟩
  | succ k =>
    have hi : i < l.length := by omega
    obtain ⟨x, hx⟩ : ∃ x, l[i]? = some x := ⟨l[i], by simp [hi]⟩
    have hI' := hI
    obtain ⟨T0, _, _, hG, _⟩ := hI'
    have hvG : Sl G Sh.str.size (At G .str) v l := by rw [hG]; exact hv.map up_append fun _ _ h => h.ext
    clear hG
    obtain ⟨eid, o, own, cells, e1, e2, e3, e0⟩ := hvG.idx hx (by decide)
    obtain ⟨s, e4, rfl, e5⟩ := At_str.1 e0
    simp only [Sh.size_str] at e1
    have c0 : cells[o]? = some (.str s) := by simpa using cells_get e4 (j := 0) rfl
    have ld := load1 e2 c0
    obtain ⟨cells2, g1, g2, g3, g4⟩ := hI.step (T := []) hx (c := [.str s]) (F := []) (AtF_str.2 ⟨⟨s, rfl, rfl, e5⟩, rfl⟩) (by simp) (by simp)
    simp only [List.append_nil, Sh.size_str, Nat.mul_one, List.length_singleton] at g1 g2 g4
    rw [setRange_one (by omega)] at g4
    have st := store1 (v := .str s) (o := i) g1 (by omega) rfl rfl
    have hw : IntKind.i64.wrap ((i : Int) + 1) = ((i + 1 : Nat) : Int) := by rw [wrap_i64 (by omega) (by omega)]; omega
    simp [r0, r3, r4, hi, hv.len, e1, ld, st, hw]
    exact ⟨k, by omega, i + 1, by omega, _, _, ⟨rfl, rfl⟩, g4, by simp [r0], by simp [r3], by simp⟩

set_option maxRecDepth 10000 in
theorem toSlc {f g tS tE tS2 tE2 b : Nat} {zs zs2 zs3 : List V} {d' : List (Nat × Nat)} {fs : List Sh} {F : Func} (hop : ∀ {a : List V} {H : List Ob} {R : V → List Ob → Prop}, Ret C f a H R ↔ WP C f (ren [(23, tS), (115, tE), (33, tS2), (120, tE2)] [(100, g)] code47) ⟨initRegs a, 0, H⟩ (finQ C F H R))
    (hF : F.results = #[.tmp 2]) (hS : C.ty tS = ⟨.slice tE, 1, 24, zs⟩) (hE : (C.ty tE).size = (Sh.st fs).size) (hE2 : (C.ty tE).isAgg = true) (hE0 : (C.ty tE).size ≠ 0) (hb : b ≤ 1048576)
    (hS2 : C.ty tS2 = ⟨.slice tE2, 1, 24, zs2⟩) (hT2 : C.ty tE2 = ⟨.struct d', (Sh.st fs).size, b, zs3⟩) (hz : zs3.length = (Sh.st fs).size) (hg : ToFn g (.st fs)) : ToFn f (.slice (.st fs)) := by
  intro H cs u h hwt
  obtain ⟨v, l, rfl, rfl, hlen, hv⟩ := At_slice.1 h
  apply Ret.to
  rw [hop]
  simp only [wt] at hwt
  have b1 : (l.length : Int) * b ≤ 1099511627776 := by
    have : l.length * b ≤ 1048576 * 1048576 := Nat.mul_le_mul (by omega) hb
    omega
  have b2 : (l.length : Int) ≤ 1099511627776 := by omega
  have hs0 : 0 < Sh.sizes fs := by have := hE ▸ hE0; simp at this; omega
  have hs1 : ¬ Sh.sizes fs = 0 := by omega
  simp only [Sh.size_st] at hE hT2 hz
  simp [code47, Tryz.f47, ren, renO, renP, renX, sub, valOf, elemT, St.new, maxMade, hS, hS2, hT2, hz, b1, b2, hs0, hv.len]
  refine WP_loop (fun k σ => ∃ (i : Nat) (r : Nat → R) (G : List Ob), i + k = l.length ∧ σ = ⟨r, 0, G⟩ ∧ ToI H (.st fs) l i G ∧ r 0 = .val v ∧ r 3 = .val (.slc (some (H.length, 0)) l.length) ∧ r 4 = .val (.int .i64 i)) ?_ l.length _ ⟨0, _, _, by simp, rfl, ToI.init (by rw [zerosL_len, hz]; rfl), by simp, by simp, by simp⟩
  rintro k σ ⟨i, r, G, hik, rfl, hI, r0, r3, r4⟩
  cases k with
  | zero =>
    have hi : i = l.length := by omega
    subst hi
    obtain ⟨T, F, rfl, h1, h2, h3, h4⟩ := hI.done hlen
    simp [r0, r3, r4, hS, hv.len, hF]
    exact ⟨[_], rfl, F, h1, h2, h3⟩
  | succ k =>
    have hi : i < l.length := by omega
    obtain ⟨x, hx⟩ : ∃ x, l[i]? = some x := ⟨l[i], by simp [hi]⟩
    have hI' := hI
    obtain ⟨T0, _, _, hG, _⟩ := hI'
    have hvG : Sl G (Sh.st fs).size (At G (.st fs)) v l := by rw [hG]; exact hv.map up_append fun _ _ h => h.ext
    clear hG
    obtain ⟨eid, o, own, cells, e1, e2, e3, e4⟩ := hvG.idx hx (by simp; omega)
    have e1 := fun (k : IntKind) => e1 tE 1 24 zs C.ty k hE
    have ld := load_agg (T := C.ty tE) e2 (by rw [hE]; exact e3) rfl hE0 hE2
    rw [hE] at ld
    have hwx : wt x ≤ 1048576 := by have := wts_get hx; omega
    obtain ⟨T1, c, F1, hc, g5, g6, g7⟩ := hg G _ x e4 hwx
    obtain ⟨cells2, g1, g2, g3, g4⟩ := hI.step hx g5 g6 g7
    simp only [valOf, Sh.size_st] at hc g1 g2 g3 g4
    have st := storeN g1 g2 (by intro h0; subst h0; simp at g3; omega) (At.ones _ (AtF.at _ g5)) (C.ty tE2) (by rw [hT2, g3]; exact ⟨rfl, rfl⟩)
    rw [hT2] at st
    have hw : IntKind.i64.wrap ((i : Int) + 1) = ((i + 1 : Nat) : Int) := by rw [wrap_i64 (by omega) (by omega)]; omega
    simp [r0, r3, r4, hi, hS, hS2, hT2, hs0, hs1, hv.len, e1, ld, hc, st, hw, -setRange]
    exact ⟨k, by omega, i + 1, by omega, _, _, ⟨rfl, rfl⟩, g4, by simp [r0], by simp [r3], by simp⟩
end Go.Proofs.Try1

namespace Go.Proofs.Try1
open Go Go.Lite
set_option linter.unusedSimpArgs false
set_option linter.unusedVariables false

set_option maxRecDepth 10000 in
theorem markText {H : List Ob} {k : Nat} (hk : k ≤ 100000000) : callW C 56 [.int .i64 k] H = some (.str (markStr k), H) := by
  apply Ret.eq
  rw [op56]
  by_cases h0 : k = 0
  · subst h0
    simp [code56, Tryz.f56, markStr]
  · have hp : ¬ ((k : Int) ≤ 0) := by omega
    simp [code56, Tryz.f56, hp, h0]
    refine WP_loop (fun m σ => ∃ (r : Nat → R) (out : Str) (G T : List Ob), G = H ++ T ∧ σ = ⟨r, 0, G⟩ ∧ r 0 = .val (.int .i64 m) ∧ r 3 = .val (.str out) ∧ markLoop k [] = markLoop m out ∧ m ≤ 100000000 ∧ out.length + m ≤ 100000000) ?_ k _ ⟨_, [], H, [], by simp, rfl, by simp, by simp, rfl, hk, by simpa using hk⟩
    rintro m σ ⟨r, out, G, T, hG, rfl, r0, r3, hm, m1, m2⟩
    by_cases hz : m = 0
    · subst hz
      rw [markLoop_zero] at hm
      have hl : out.length + 1 ≤ maxStr := by unfold maxStr; omega
      have hl' : 1 + out.length ≤ maxStr := by unfold maxStr; omega
      subst hG
      simp [r0, r3, markStr, h0, hm, hl, hl']
    · have hpm : (0 : Int) < (m : Int) := by omega
      have hr : ((m : Int).tmod 10) = (m : Int) % 10 := by rw [Int.tmod_eq_emod_of_nonneg (by omega)]
      have hw : IntKind.i64.wrap (48 + (m : Int) % 10) = 48 + (m : Int) % 10 := wrap_i64 (by omega) (by omega)
      have hu : IntKind.u8.wrap (48 + (m : Int) % 10) = 48 + (m : Int) % 10 := by unfold IntKind.wrap; simp [IntKind.bits, IntKind.signed]; omega
      have hn : (48 + (m : Int) % 10).toNat = 48 + m % 10 := by omega
      have hq : ((m : Int).tdiv 10) = (m : Int) / 10 := by rw [Int.tdiv_eq_ediv_of_nonneg (by omega)]
      have hw2 : IntKind.i64.wrap ((m : Int) / 10) = (m : Int) / 10 := wrap_i64 (by omega) (by omega)
      have hl' : 1 + out.length ≤ maxStr := by unfold maxStr; omega
      have hmp : 0 < m := by omega
      simp [r0, r3, hpm, elemT, hz, hr, hw, hq, hw2, hu, hn, hl', hmp, fillL, zerosL, slcCells, isByte, byteOfV]
      refine ⟨m / 10, by omega, _, (48 + UInt8.ofNat (m % 10)) :: out, _, ⟨T ++ _, by rw [hG, List.append_assoc]⟩, ⟨rfl, rfl⟩, by simp, by simp, ?_, by omega, by simp; omega⟩
      rw [hm, markLoop_step hz]

theorem mark_ok {k : Nat} (h : k ≤ 50000000) : (markStr k).length ≤ maxLen := by
  have := markStr_len (k := k)
  unfold maxLen
  omega

/-- The function puts marks into what belongs to a datum. -/
def MkFn (f : Nat) (sh : Sh) : Prop := ∀ (H : List Ob) (cs : List V) (u : U) (F : List Nat) (k : Nat), AtF H sh cs u F → F.Nodup → k + cntV u ≤ 50000000 →
  ∃ H', callW C f [valOf sh cs, .int .i64 k] H = some (.int .i64 ((k + cntV u : Nat) : Int), H') ∧ H'.length = H.length ∧ (∀ q, q ∉ F → H'[q]? = H[q]?) ∧ AtF H' sh cs (mkV u k) F

theorem Ret.mark {f : Nat} {a : List V} {H : List Ob} {n : Int} {P : List Ob → Prop} (h : Ret C f a H fun r H' => r = .int .i64 n ∧ P H') : ∃ H', callW C f a H = some (.int .i64 n, H') ∧ P H' := by
  obtain ⟨r, H', hc, rfl, h⟩ := h
  exact ⟨H', hc, h⟩

theorem gcH_len {H H' : List Ob} {r : V} (h : H'.length = H.length) : gcH H H' r = H' := by
  unfold gcH
  split
  · rename_i hc
    obtain ⟨⟨T, rfl⟩, _⟩ := hc
    simp at h
    rw [h, List.append_nil]
  · rfl

set_option maxRecDepth 10000 in
theorem mk_StringS : MkFn 18 (.slice .str) := by
  intro H cs u F k h hn hk
  obtain ⟨v, l, rfl, rfl, hlen, hv⟩ := AtF_slice.1 h
  have hv := (AtF_slice.2 ⟨v, l, rfl, rfl, hlen, hv⟩).at
  obtain ⟨_, _, hx1, hx2, _, hv⟩ := At_slice.1 hv
  cases hx1; cases hx2
  apply Ret.mark
  rw [op18]
  simp only [cntV] at hk
  have hl64 : l.length ≤ 9223372036854775807 := hlen
  simp [code18, Tryz.f18, valOf, -setRange]
  refine WP_loop (fun m σ => ∃ (i : Nat) (r : Nat → R) (G : List Ob), i + m = l.length ∧ σ = ⟨r, 0, G⟩ ∧ r 0 = .val v ∧ r 1 = .val (.int .i64 ((k + cntPs (l.take i) : Nat) : Int)) ∧ r 5 = .val (.int .i64 i) ∧ G.length = H.length ∧ (∀ q, q ∉ F → G[q]? = H[q]?) ∧ AtF G (.slice .str) [v] (.lst (mkPs (l.take i) k ++ l.drop i)) F) ?_ l.length _ ⟨0, _, H, by simp, rfl, by simp, by simp [cntPs], by simp, rfl, fun _ _ => rfl, by simpa [mkPs] using h⟩
  rintro m σ ⟨i, r, G, him, rfl, r0, r1, r5, g1, g2, g3⟩
  cases m with
  | zero =>
    have hi : i = l.length := by omega
    subst hi
    simp at g3
    simp [r0, r1, r5, hv.len, gcH_len g1, cntV, mkV]
    exact ⟨g1, g2, g3⟩
  | succ m =>
    have hi : i < l.length := by omega
    obtain ⟨x, hx⟩ : ∃ x, l[i]? = some x := ⟨l[i], by simp [hi]⟩
    obtain ⟨id, off, cells, K, e0, e1, e2, e3, e4, e5, e6, e7, e8⟩ := AtF.elem g3 hn (i := i) (x := x) (by rw [mk_get hi, hx])
    have hL : (mkPs (l.take i) k ++ l.drop i).length = l.length := by simp [mkPs_len]; omega
    rw [hL] at e0
    subst e0
    obtain ⟨⟨s, e3, rfl, _⟩, rfl⟩ := AtF_str.1 e3
    have hcnt := cntPs_take hx
    have hle := cntPs_take_le (l := l) (i := i + 1)
    simp only [cntP] at hcnt
    have hm := markText (H := G) (k := k + cntPs (l.take i)) (by omega)
    simp only [Sh.size_str, Nat.mul_one] at e1 e2 e8
    have st := store1 (v := .str (markStr (k + cntPs (l.take i)))) (o := off + i) e1 (by omega) rfl rfl
    have hre := e8 (G.set id (.mk true 1 (cells.set (off + i) (.str (markStr (k + cntPs (l.take i))))))) [.str (markStr (k + cntPs (l.take i)))] (.str (markStr (k + cntPs (l.take i)))) rfl
      (by rw [List.getElem?_set_self (List.getElem?_eq_some_iff.1 e1).1, setRange_one (by omega)]) (fun q _ hq _ => by rw [List.getElem?_set_ne (Ne.symm hq)]) (AtF_str.2 ⟨⟨_, rfl, rfl, mark_ok (by omega)⟩, rfl⟩)
    have hmk := mk_set (k := k) hx
    simp only [mkP] at hmk
    rw [hmk] at hre
    have hw : IntKind.i64.wrap ((i : Int) + 1) = ((i : Int) + 1) := wrap_i64 (by omega) (by omega)
    have hw2 : IntKind.i64.wrap ((k : Int) + cntPs (l.take i) + 1) = (k : Int) + cntPs (l.take i) + 1 := wrap_i64 (by omega) (by omega)
    simp only [Int.natCast_add] at hm r1
    simp [r0, r1, r5, hi, hm, st, hw, hw2, -setRange]
    exact ⟨m, by omega, i + 1, by omega, _, _, ⟨rfl, rfl⟩, by simp [r0], by simp; omega, by simp, by simpa using g1, fun q hq => by rw [List.getElem?_set_ne (by rintro rfl; exact hq e6)]; exact g2 q hq, hre⟩

/-- The function finds the marks again. -/
def HeldFn (f : Nat) (sh : Sh) : Prop := ∀ (H : List Ob) (cs : List V) (u : U) (k : Nat), At H sh cs (mkV u k) → k + cntV u ≤ 50000000 →
  callW C f [valOf sh cs, .int .i64 k] H = some (.int .i64 ((k + cntV u : Nat) : Int), H)

set_option maxRecDepth 10000 in
theorem held_StringS : HeldFn 19 (.slice .str) := by
  intro H cs u k h hk
  obtain ⟨v, l', rfl, hu, hlen, hv⟩ := At_slice.1 h
  obtain ⟨l, rfl, rfl⟩ := mkV_lst hu
  apply Ret.eq
  rw [op19]
  simp only [cntV] at hk ⊢
  have hl64 : (mkPs l k).length ≤ 9223372036854775807 := hlen
  rw [mkPs_len] at hl64
  have hvl := fun {e s b : Nat} {z : List V} => hv.len (e := e) (s := s) (b := b) (z := z)
  simp only [mkPs_len] at hvl
  simp [code19, Tryz.f19, valOf]
  refine WP_loop (fun m σ => ∃ (i : Nat) (r : Nat → R), i + m = l.length ∧ σ = ⟨r, 0, H⟩ ∧ r 0 = .val v ∧ r 1 = .val (.int .i64 ((k + cntPs (l.take i) : Nat) : Int)) ∧ r 5 = .val (.int .i64 i)) ?_ l.length _ ⟨0, _, by simp, rfl, by simp, by simp [cntPs], by simp⟩
  rintro m σ ⟨i, r, him, rfl, r0, r1, r5⟩
  cases m with
  | zero =>
    have hi : i = l.length := by omega
    subst hi
    simp at r1
    simp [r0, r1, r5, hvl]
  | succ m =>
    have hi : i < l.length := by omega
    obtain ⟨x, hx⟩ : ∃ x, l[i]? = some x := ⟨l[i], by simp [hi]⟩
    obtain ⟨eid, o, own, cells, e1, e2, e3, e0⟩ := hv.idx (mkPs_get hx) (by decide)
    obtain ⟨s, e4, e5, e6⟩ := At_str.1 e0
    obtain ⟨⟨t, rfl⟩, rfl⟩ := mkP_str e5
    simp only [Sh.size_str] at e1
    have c0 : cells[o]? = some (.str (markStr (k + cntPs (l.take i)))) := by simpa using cells_get e4 (j := 0) rfl
    have ld := load1 e2 c0
    have hid : eid < H.length := (List.getElem?_eq_some_iff.1 e2).1
    have hcnt := cntPs_take hx
    have hle := cntPs_take_le (l := l) (i := i + 1)
    simp only [cntP] at hcnt
    have hm := markText (H := H) (k := k + cntPs (l.take i)) (by omega)
    have hw : IntKind.i64.wrap ((i : Int) + 1) = ((i : Int) + 1) := wrap_i64 (by omega) (by omega)
    have hw2 : IntKind.i64.wrap ((k : Int) + cntPs (l.take i) + 1) = (k : Int) + cntPs (l.take i) + 1 := wrap_i64 (by omega) (by omega)
    simp only [Int.natCast_add] at hm r1
    simp [r0, r1, r5, hi, hvl, e1, ld, hid, hm, hw, hw2]
    exact ⟨m, by omega, i + 1, by omega, by omega, by omega⟩
end Go.Proofs.Try1
