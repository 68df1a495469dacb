/- Part 09 of the proof of a law: the interpreter, its soundness, and what functions of the program compute over it. Conditions: none but those that each theorem names. -/
import Derived.Test.YtamgeahibepfnaaGreatDoorM08
import Derived.Test.YtamgeahibepfnaaGreatDoorM07
import Derived.Test.YtamgeahibepfnaaGreatDoorM06

set_option linter.all false
set_option maxRecDepth 20000
set_option maxHeartbeats 40000000
section
namespace Go.Proofs.Try1
open Go Go.Lite
theorem QO : yh 45 shRdn := by
 intro H cs u left h hleft
 replace h := df.1 h
 obtain ⟨us, rfl, h⟩ := h
 replace h := ai.1 h
 obtain ⟨c0, d0, u0, rr0, rfl, rfl, h0, h⟩ := h
 replace h := ai.1 h
 obtain ⟨c1, d1, u1, rr1, rfl, rfl, h1, h⟩ := h
 replace h := aV.1 h
 obtain ⟨rfl, rfl⟩ := h
 replace h0 := bP.1 h0
 obtain ⟨s0, rfl, rfl, w0⟩ := h0
 replace h1 := bP.1 h1
 obtain ⟨s1, rfl, rfl, w1⟩ := h1
 by_cases g0 : s0.length ≤ left
 rotate_left
 ·have q0 : IntKind.i64.wrap (((left : Nat) : Int) - s0.length) = ((left : Nat) : Int) - s0.length := wrap_i64 (by have : s0.length ≤ 9223372036854775807 := w0; omega) (by omega)
  have p0 : ((left : Nat) : Int) - s0.length < 0 := by omega
  have hT : ¬ wt (U.st [(.str s0), (.str s1)]) ≤ left := by simp only [gI, bU, dB, eF, eu, dD]; omega
  rw [if_neg hT]
  apply Ret.eq
  rw [Vt]
  simp [Ac, Tryz.f45, aG, q0, p0]
 have q0 : IntKind.i64.wrap (((left : Nat) : Int) - s0.length) = ((left - s0.length : Nat) : Int) := by rw [wrap_i64 (by omega) (by omega)]; omega
 have p0 : ¬ (((left - s0.length : Nat) : Int) < 0) := by omega
 by_cases g1 : s1.length ≤ left - s0.length
 rotate_left
 ·have q1 : IntKind.i64.wrap (((left - s0.length : Nat) : Int) - s1.length) = ((left - s0.length : Nat) : Int) - s1.length := wrap_i64 (by have : s1.length ≤ 9223372036854775807 := w1; omega) (by omega)
  have p1 : ((left - s0.length : Nat) : Int) - s1.length < 0 := by omega
  have hT : ¬ wt (U.st [(.str s0), (.str s1)]) ≤ left := by simp only [gI, bU, dB, eF, eu, dD]; omega
  rw [if_neg hT]
  apply Ret.eq
  rw [Vt]
  simp [Ac, Tryz.f45, aG, q0, p0, q1, p1]
 have q1 : IntKind.i64.wrap (((left - s0.length : Nat) : Int) - s1.length) = ((left - s0.length - s1.length : Nat) : Int) := by rw [wrap_i64 (by omega) (by omega)]; omega
 have p1 : ¬ (((left - s0.length - s1.length : Nat) : Int) < 0) := by omega
 have hT : wt (U.st [(.str s0), (.str s1)]) ≤ left := by simp only [gI, bU, dB, eF, eu, dD]; omega
 have hE : left - wt (U.st [(.str s0), (.str s1)]) = left - s0.length - s1.length := by simp only [gI, bU, dB, eF, eu, dD]; omega
 rw [if_pos hT, hE]
 apply Ret.eq
 rw [Vt]
 simp [Ac, Tryz.f45, aG, q0, p0, q1, p1]
theorem Dv : yh 29 (.slice shRdn) :=
 La (f := 29) (g := 45) (tS := 22) (tE := 99) (F := Tryz.f29) (kW (c := xh) (by kernel_rfl) aml) rfl WZ (by rw [ND]; rfl) (by rw [ND]; rfl) (by rw [ND]; decide) QO
theorem Ua : yh 130 shAttr := by
 intro H cs u left h hleft
 replace h := df.1 h
 obtain ⟨us, rfl, h⟩ := h
 replace h := ai.1 h
 obtain ⟨c0, d0, u0, rr0, rfl, rfl, h0, h⟩ := h
 replace h := ai.1 h
 obtain ⟨c1, d1, u1, rr1, rfl, rfl, h1, h⟩ := h
 replace h := aV.1 h
 obtain ⟨rfl, rfl⟩ := h
 replace h0 := bP.1 h0
 obtain ⟨s0, rfl, rfl, w0⟩ := h0
 have k1 := h1
 replace h1 := ak.1 h1
 obtain ⟨v1, l1, rfl, rfl, w1, hv1⟩ := h1
 have o1 := hv1.one
 by_cases g0 : s0.length ≤ left
 rotate_left
 ·have q0 : IntKind.i64.wrap (((left : Nat) : Int) - s0.length) = ((left : Nat) : Int) - s0.length := wrap_i64 (by have : s0.length ≤ 9223372036854775807 := w0; omega) (by omega)
  have p0 : ((left : Nat) : Int) - s0.length < 0 := by omega
  have hT : ¬ wt (U.st [(.str s0), (.lst l1)]) ≤ left := by simp only [gI, bU, dB, eF, eu, dD]; omega
  rw [if_neg hT]
  apply Ret.eq
  rw [OL]
  simp [uJ, Tryz.f130, aG, q0, p0, o1]
 have q0 : IntKind.i64.wrap (((left : Nat) : Int) - s0.length) = ((left - s0.length : Nat) : Int) := by rw [wrap_i64 (by omega) (by omega)]; omega
 have p0 : ¬ (((left - s0.length : Nat) : Int) < 0) := by omega
 have q1 := pF H _ _ (left - s0.length) k1 (by omega)
 simp only [aG, List.headD_cons, List.append_nil, List.cons_append, List.nil_append] at q1
 by_cases g1 : wt (.lst l1) ≤ left - s0.length
 rotate_left
 ·rw [if_neg g1] at q1
  have hT : ¬ wt (U.st [(.str s0), (.lst l1)]) ≤ left := by simp only [gI, bU, dB, eF, eu, dD]; omega
  rw [if_neg hT]
  apply Ret.eq
  rw [OL]
  simp [uJ, Tryz.f130, aG, q0, p0, q1, o1]
 rw [if_pos g1] at q1
 have p1 : ¬ (((left - s0.length - wt (.lst l1) : Nat) : Int) < 0) := by omega
 have hT : wt (U.st [(.str s0), (.lst l1)]) ≤ left := by simp only [gI, bU, dB, eF, eu, dD]; omega
 have hE : left - wt (U.st [(.str s0), (.lst l1)]) = left - s0.length - wt (.lst l1) := by simp only [gI, bU, dB, eF, eu, dD]; omega
 rw [if_pos hT, hE]
 apply Ret.eq
 rw [OL]
 simp [uJ, Tryz.f130, aG, q0, p0, q1, p1, o1]
theorem SC : yh 56 (.slice shAttr) :=
 La (f := 56) (g := 130) (tS := 27) (tE := 178) (F := Tryz.f56) (kW (c := Jv) (by kernel_rfl) amu) rfl aeV (by rw [BD]; rfl) (by rw [BD]; rfl) (by rw [BD]; decide) Ua
theorem RQ : yh 10 shEntry := by
 intro H cs u left h hleft
 replace h := df.1 h
 obtain ⟨us, rfl, h⟩ := h
 replace h := ai.1 h
 obtain ⟨c0, d0, u0, rr0, rfl, rfl, h0, h⟩ := h
 replace h := ai.1 h
 obtain ⟨c1, d1, u1, rr1, rfl, rfl, h1, h⟩ := h
 replace h := aV.1 h
 obtain ⟨rfl, rfl⟩ := h
 have k0 := h0
 replace h0 := ak.1 h0
 obtain ⟨v0, l0, rfl, rfl, w0, hv0⟩ := h0
 have o0 := hv0.one
 have k1 := h1
 replace h1 := ak.1 h1
 obtain ⟨v1, l1, rfl, rfl, w1, hv1⟩ := h1
 have o1 := hv1.one
 have q0 := Dv H _ _ (left) k0 (by omega)
 simp only [aG, List.headD_cons, List.append_nil, List.cons_append, List.nil_append] at q0
 by_cases g0 : wt (.lst l0) ≤ left
 rotate_left
 ·rw [if_neg g0] at q0
  have hT : ¬ wt (U.st [(.lst l0), (.lst l1)]) ≤ left := by simp only [gI, bU, dB, eF, eu, dD]; omega
  rw [if_neg hT]
  apply Ret.eq
  rw [U1]
  simp [zu, Tryz.f10, aG, q0, o0, o1]
 rw [if_pos g0] at q0
 have p0 : ¬ (((left - wt (.lst l0) : Nat) : Int) < 0) := by omega
 have q1 := SC H _ _ (left - wt (.lst l0)) k1 (by omega)
 simp only [aG, List.headD_cons, List.append_nil, List.cons_append, List.nil_append] at q1
 by_cases g1 : wt (.lst l1) ≤ left - wt (.lst l0)
 rotate_left
 ·rw [if_neg g1] at q1
  have hT : ¬ wt (U.st [(.lst l0), (.lst l1)]) ≤ left := by simp only [gI, bU, dB, eF, eu, dD]; omega
  rw [if_neg hT]
  apply Ret.eq
  rw [U1]
  simp [zu, Tryz.f10, aG, q0, p0, q1, o0, o1]
 rw [if_pos g1] at q1
 have p1 : ¬ (((left - wt (.lst l0) - wt (.lst l1) : Nat) : Int) < 0) := by omega
 have hT : wt (U.st [(.lst l0), (.lst l1)]) ≤ left := by simp only [gI, bU, dB, eF, eu, dD]; omega
 have hE : left - wt (U.st [(.lst l0), (.lst l1)]) = left - wt (.lst l0) - wt (.lst l1) := by simp only [gI, bU, dB, eF, eu, dD]; omega
 rw [if_pos hT, hE]
 apply Ret.eq
 rw [U1]
 simp [zu, Tryz.f10, aG, q0, p0, q1, p1, o0, o1]
theorem NZ : yh 87 (.slice shEntry) :=
 La (f := 87) (g := 10) (tS := 56) (tE := 29) (F := Tryz.f87) (kW (c := Jb) (by kernel_rfl) ajX) rfl adZ (by rw [MX]; rfl) (by rw [MX]; rfl) (by rw [MX]; decide) RQ
theorem Ru : yh 183 bG := by
 intro H cs u left h hleft
 replace h := df.1 h
 obtain ⟨us, rfl, h⟩ := h
 replace h := ai.1 h
 obtain ⟨c0, d0, u0, rr0, rfl, rfl, h0, h⟩ := h
 replace h := ai.1 h
 obtain ⟨c1, d1, u1, rr1, rfl, rfl, h1, h⟩ := h
 replace h := ai.1 h
 obtain ⟨c2, d2, u2, rr2, rfl, rfl, h2, h⟩ := h
 replace h := ai.1 h
 obtain ⟨c3, d3, u3, rr3, rfl, rfl, h3, h⟩ := h
 replace h := aV.1 h
 obtain ⟨rfl, rfl⟩ := h
 replace h0 := bP.1 h0
 obtain ⟨s0, rfl, rfl, w0⟩ := h0
 have k1 := h1
 replace h1 := ak.1 h1
 obtain ⟨v1, l1, rfl, rfl, w1, hv1⟩ := h1
 have o1 := hv1.one
 have k2 := h2
 replace h2 := ak.1 h2
 obtain ⟨v2, l2, rfl, rfl, w2, hv2⟩ := h2
 have o2 := hv2.one
 have k3 := h3
 replace h3 := ak.1 h3
 obtain ⟨v3, l3, rfl, rfl, w3, hv3⟩ := h3
 have o3 := hv3.one
 by_cases g0 : s0.length ≤ left
 rotate_left
 ·have q0 : IntKind.i64.wrap (((left : Nat) : Int) - s0.length) = ((left : Nat) : Int) - s0.length := wrap_i64 (by have : s0.length ≤ 9223372036854775807 := w0; omega) (by omega)
  have p0 : ((left : Nat) : Int) - s0.length < 0 := by omega
  have hT : ¬ wt (U.st [(.str s0), (.lst l1), (.lst l2), (.lst l3)]) ≤ left := by simp only [gI, bU, dB, eF, eu, dD]; omega
  rw [if_neg hT]
  apply Ret.eq
  rw [Iz]
  simp [oP, Tryz.f183, aG, q0, p0, o1, o2, o3]
 have q0 : IntKind.i64.wrap (((left : Nat) : Int) - s0.length) = ((left - s0.length : Nat) : Int) := by rw [wrap_i64 (by omega) (by omega)]; omega
 have p0 : ¬ (((left - s0.length : Nat) : Int) < 0) := by omega
 have q1 := pF H _ _ (left - s0.length) k1 (by omega)
 simp only [aG, List.headD_cons, List.append_nil, List.cons_append, List.nil_append] at q1
 by_cases g1 : wt (.lst l1) ≤ left - s0.length
 rotate_left
 ·rw [if_neg g1] at q1
  have hT : ¬ wt (U.st [(.str s0), (.lst l1), (.lst l2), (.lst l3)]) ≤ left := by simp only [gI, bU, dB, eF, eu, dD]; omega
  rw [if_neg hT]
  apply Ret.eq
  rw [Iz]
  simp [oP, Tryz.f183, aG, q0, p0, q1, o1, o2, o3]
 rw [if_pos g1] at q1
 have p1 : ¬ (((left - s0.length - wt (.lst l1) : Nat) : Int) < 0) := by omega
 have q2 := pF H _ _ (left - s0.length - wt (.lst l1)) k2 (by omega)
 simp only [aG, List.headD_cons, List.append_nil, List.cons_append, List.nil_append] at q2
 by_cases g2 : wt (.lst l2) ≤ left - s0.length - wt (.lst l1)
 rotate_left
 ·rw [if_neg g2] at q2
  have hT : ¬ wt (U.st [(.str s0), (.lst l1), (.lst l2), (.lst l3)]) ≤ left := by simp only [gI, bU, dB, eF, eu, dD]; omega
  rw [if_neg hT]
  apply Ret.eq
  rw [Iz]
  simp [oP, Tryz.f183, aG, q0, p0, q1, p1, q2, o1, o2, o3]
 rw [if_pos g2] at q2
 have p2 : ¬ (((left - s0.length - wt (.lst l1) - wt (.lst l2) : Nat) : Int) < 0) := by omega
 have q3 := pF H _ _ (left - s0.length - wt (.lst l1) - wt (.lst l2)) k3 (by omega)
 simp only [aG, List.headD_cons, List.append_nil, List.cons_append, List.nil_append] at q3
 by_cases g3 : wt (.lst l3) ≤ left - s0.length - wt (.lst l1) - wt (.lst l2)
 rotate_left
 ·rw [if_neg g3] at q3
  have hT : ¬ wt (U.st [(.str s0), (.lst l1), (.lst l2), (.lst l3)]) ≤ left := by simp only [gI, bU, dB, eF, eu, dD]; omega
  rw [if_neg hT]
  apply Ret.eq
  rw [Iz]
  simp [oP, Tryz.f183, aG, q0, p0, q1, p1, q2, p2, q3, o1, o2, o3]
 rw [if_pos g3] at q3
 have p3 : ¬ (((left - s0.length - wt (.lst l1) - wt (.lst l2) - wt (.lst l3) : Nat) : Int) < 0) := by omega
 have hT : wt (U.st [(.str s0), (.lst l1), (.lst l2), (.lst l3)]) ≤ left := by simp only [gI, bU, dB, eF, eu, dD]; omega
 have hE : left - wt (U.st [(.str s0), (.lst l1), (.lst l2), (.lst l3)]) = left - s0.length - wt (.lst l1) - wt (.lst l2) - wt (.lst l3) := by simp only [gI, bU, dB, eF, eu, dD]; omega
 rw [if_pos hT, hE]
 apply Ret.eq
 rw [Iz]
 simp [oP, Tryz.f183, aG, q0, p0, q1, p1, q2, p2, q3, p3, o1, o2, o3]
theorem Ol : yh 86 (.slice bG) :=
 La (f := 86) (g := 183) (tS := 55) (tE := 227) (F := Tryz.f86) (kW (c := Jh) (by kernel_rfl) aj8) rfl Zo (by rw [BP]; rfl) (by rw [BP]; rfl) (by rw [BP]; decide) Ru
theorem SN : yh 28 cu := by
 intro H cs u left h hleft
 replace h := df.1 h
 obtain ⟨us, rfl, h⟩ := h
 replace h := ai.1 h
 obtain ⟨c0, d0, u0, rr0, rfl, rfl, h0, h⟩ := h
 replace h := ai.1 h
 obtain ⟨c1, d1, u1, rr1, rfl, rfl, h1, h⟩ := h
 replace h := aV.1 h
 obtain ⟨rfl, rfl⟩ := h
 have k0 := h0
 replace h0 := ak.1 h0
 obtain ⟨v0, l0, rfl, rfl, w0, hv0⟩ := h0
 have o0 := hv0.one
 have k1 := h1
 replace h1 := ak.1 h1
 obtain ⟨v1, l1, rfl, rfl, w1, hv1⟩ := h1
 have o1 := hv1.one
 have q0 := Ol H _ _ (left) k0 (by omega)
 simp only [aG, List.headD_cons, List.append_nil, List.cons_append, List.nil_append] at q0
 by_cases g0 : wt (.lst l0) ≤ left
 rotate_left
 ·rw [if_neg g0] at q0
  have hT : ¬ wt (U.st [(.lst l0), (.lst l1)]) ≤ left := by simp only [gI, bU, dB, eF, eu, dD]; omega
  rw [if_neg hT]
  apply Ret.eq
  rw [Vg]
  simp [zL, Tryz.f28, aG, q0, o0, o1]
 rw [if_pos g0] at q0
 have p0 : ¬ (((left - wt (.lst l0) : Nat) : Int) < 0) := by omega
 have q1 := NZ H _ _ (left - wt (.lst l0)) k1 (by omega)
 simp only [aG, List.headD_cons, List.append_nil, List.cons_append, List.nil_append] at q1
 by_cases g1 : wt (.lst l1) ≤ left - wt (.lst l0)
 rotate_left
 ·rw [if_neg g1] at q1
  have hT : ¬ wt (U.st [(.lst l0), (.lst l1)]) ≤ left := by simp only [gI, bU, dB, eF, eu, dD]; omega
  rw [if_neg hT]
  apply Ret.eq
  rw [Vg]
  simp [zL, Tryz.f28, aG, q0, p0, q1, o0, o1]
 rw [if_pos g1] at q1
 have p1 : ¬ (((left - wt (.lst l0) - wt (.lst l1) : Nat) : Int) < 0) := by omega
 have hT : wt (U.st [(.lst l0), (.lst l1)]) ≤ left := by simp only [gI, bU, dB, eF, eu, dD]; omega
 have hE : left - wt (U.st [(.lst l0), (.lst l1)]) = left - wt (.lst l0) - wt (.lst l1) := by simp only [gI, bU, dB, eF, eu, dD]; omega
 rw [if_pos hT, hE]
 apply Ret.eq
 rw [Vg]
 simp [zL, Tryz.f28, aG, q0, p0, q1, p1, o0, o1]
def uH (f : Nat) (sh : Sh) : Prop := ∀ (H : List Ob) (cs ds : List V) (u w : U), At H sh cs u → At H sh ds w →
 ∃ b : Bool, (b = true ↔ u = w) ∧ callW C f [aG sh cs, aG sh ds] H = some (.bool b, H)
theorem Ret.bool {f : Nat} {a : List V} {H : List Ob} {p : Prop} (h : Ret C f a H fun r H' => ∃ b : Bool, (b = true ↔ p) ∧ r = .bool b ∧ H' = H) : ∃ b : Bool, (b = true ↔ p) ∧ callW C f a H = some (.bool b, H) := by
 obtain ⟨r, H', hc, b, hb, rfl, rfl⟩ := h
 exact ⟨b, hb, hc⟩
theorem take_snoc {α : Type} {l m : List α} {i : Nat} {x : α} (h : l.take i = m.take i) (hx : l[i]? = some x) (hy : m[i]? = some x) : l.take (i + 1) = m.take (i + 1) := by
 rw [List.take_add_one, List.take_add_one, h, hx, hy]
theorem Qy {α : Type} {l m : List α} {i : Nat} {x y : α} (hx : l[i]? = some x) (hy : m[i]? = some y) (h : ¬ x = y) : ¬ l = m := by
 rintro rfl
 rw [hx] at hy
 exact h (Option.some.inj hy)
theorem qc : uH 19 (.slice .str) := by
 intro H cs ds u w h h'
 obtain ⟨v, l, rfl, rfl, hlen, hv⟩ := ak.1 h
 obtain ⟨v', l', rfl, rfl, hlen', hv'⟩ := ak.1 h'
 apply Ret.bool
 rw [alS]
 have hl64 : l.length ≤ 9223372036854775807 := hlen
 by_cases hl : l.length = l'.length
 ·simp [FX, Tryz.f19, aG, hv.len, hv'.len, hl]
  refine aB (fun k σ => ∃ (i : Nat) (r : Nat → R), i + k = l.length ∧ σ = ⟨r, 0, H⟩ ∧ r 0 = .val v ∧ r 1 = .val v' ∧ r 5 = .val (.int .i64 i) ∧ l.take i = l'.take i) ?_ l.length _ ⟨0, _, by simp, rfl, by simp, by simp, by simp, by simp⟩
  rintro k σ ⟨i, r, hik, rfl, r0, r1, r5, heq⟩
  cases k with
  | zero =>
   have hi : i = l'.length := by omega
   subst hi
   have : l = l' := by rwa [← hl, List.take_length, hl, List.take_length] at heq
   simp [r0, r1, r5, hv.len, hl, this]
  | succ k =>
   have hi : i < l.length := by omega
   have hi' : i < l'.length := by omega
   obtain ⟨x, hx⟩ : ∃ x, l[i]? = some x := ⟨l[i], by simp [hi]⟩
   obtain ⟨y, hy⟩ : ∃ y, l'[i]? = some y := ⟨l'[i], by simp [hi']⟩
   obtain ⟨eid, o, own, cells, e1, e2, e3, s, e4, rfl, e5⟩ := hv.idx hx (by decide)
   obtain ⟨eid', o', own', cells', f1, f2, f3, s', f4, rfl, f5⟩ := hv'.idx hy (by decide)
   simp only [Sh.size_str] at e1 f1
   have c0 : cells[o]? = some (.str s) := by simpa using bF e4 (j := 0) rfl
   have d0 : cells'[o']? = some (.str s') := by simpa using bF f4 (j := 0) rfl
   have ld := aY e2 c0
   have ld' := aY f2 d0
   have hw1 : IntKind.i64.wrap ((i : Int) + 1) = ((i + 1 : Nat) : Int) := by rw [wrap_i64 (by omega) (by omega)]; omega
   by_cases hxy : s = s'
   ·subst hxy
    simp [r0, r1, r5, hi', hv.len, hl, e1, f1, ld, ld', hw1, ae]
    exact ⟨k, by omega, i + 1, by omega, by omega, take_snoc heq hx hy⟩
   ·have hne : ¬ l = l' := Qy hx hy (by intro e; cases e; exact hxy rfl)
    simp [r0, r1, r5, hi', hv.len, hl, e1, f1, ld, ld', hw1, ae, hxy, hne]
 ·have hne : ¬ l = l' := fun e => hl (by rw [e])
  have hl' : ¬ (l.length : Int) = l'.length := by omega
  simp [FX, Tryz.f19, aG, hv.len, hv'.len, hl', hne, hl]
theorem Lu {f g tS tE : Nat} {zs : List V} {fs : List Sh} {F : Func} (hop : ∀ {a : List V} {H : List Ob} {R : V → List Ob → Prop}, Ret C f a H R ↔ WP C f (ren [(35, tS), (102, tE)] [(105, g)] wZ) ⟨af a, 0, H⟩ (aF C F H R))
  (hF : F.results = #[.tmp 4]) (hO : C.ord f 6 = none) (hS : C.ty tS = ⟨.slice tE, 1, 24, zs⟩) (hE : (C.ty tE).size = (Sh.st fs).size) (hE2 : (C.ty tE).isAgg = true) (hE0 : (C.ty tE).size ≠ 0) (hg : uH g (.st fs)) : uH f (.slice (.st fs)) := by
 intro H cs ds u w h h'
 obtain ⟨v, l, rfl, rfl, hlen, hv⟩ := ak.1 h
 obtain ⟨v', l', rfl, rfl, hlen', hv'⟩ := ak.1 h'
 apply Ret.bool
 rw [hop]
 have hl64 : l.length ≤ 9223372036854775807 := hlen
 by_cases hl : l.length = l'.length
 ·simp [wZ, Tryz.f38, ren, NY, Nz, mG, sub, aG, hS, hv.len, hv'.len, hl]
  refine aB (fun k σ => ∃ (i : Nat) (r : Nat → R), i + k = l.length ∧ σ = ⟨r, 0, H⟩ ∧ r 0 = .val v ∧ r 1 = .val v' ∧ r 5 = .val (.int .i64 i) ∧ l.take i = l'.take i) ?_ l.length _ ⟨0, _, by simp, rfl, by simp, by simp, by simp, by simp⟩
  rintro k σ ⟨i, r, hik, rfl, r0, r1, r5, heq⟩
  cases k with
  | zero =>
   have hi : i = l'.length := by omega
   subst hi
   have : l = l' := by rwa [← hl, List.take_length, hl, List.take_length] at heq
   simp [r0, r1, r5, hS, hv.len, hl, this, hF]
  | succ k =>
   have hi : i < l.length := by omega
   have hi' : i < l'.length := by omega
   obtain ⟨x, hx⟩ : ∃ x, l[i]? = some x := ⟨l[i], by simp [hi]⟩
   obtain ⟨y, hy⟩ : ∃ y, l'[i]? = some y := ⟨l'[i], by simp [hi']⟩
   obtain ⟨eid, o, own, cells, e1, e2, e3, e4⟩ := hv.idx hx (by rw [← hE]; exact hE0)
   obtain ⟨eid', o', own', cells', f1, f2, f3, f4⟩ := hv'.idx hy (by rw [← hE]; exact hE0)
   have e1 := fun (k : IntKind) => e1 tE 1 24 zs C.ty k hE
   have f1 := fun (k : IntKind) => f1 tE 1 24 zs C.ty k hE
   have ld := qW (T := C.ty tE) e2 (by rw [hE]; exact e3) rfl hE0 hE2
   have ld' := qW (T := C.ty tE) f2 (by rw [hE]; exact f3) rfl hE0 hE2
   rw [hE] at ld ld'
   have hw1 : IntKind.i64.wrap ((i : Int) + 1) = ((i + 1 : Nat) : Int) := by rw [wrap_i64 (by omega) (by omega)]; omega
   obtain ⟨b, hb, hc⟩ := hg H _ _ x y e4 f4
   simp only [aG, Sh.size_st] at hc
   by_cases hxy : x = y
   ·have := hb.2 hxy
    subst this hxy
    simp [r0, r1, r5, hi', hS, hv.len, hl, e1, f1, ld, ld', hw1, ae hO, hc]
    exact ⟨k, by omega, i + 1, by omega, by omega, take_snoc heq hx hy⟩
   ·have hne : ¬ l = l' := Qy hx hy hxy
    have : b = false := by cases b with
     | false => rfl
     | true => exact absurd (hb.1 rfl) hxy
    subst this
    simp [r0, r1, r5, hi', hS, hv.len, hl, e1, f1, ld, ld', hw1, ae hO, hc, hne, hF]
 ·have hne : ¬ l = l' := fun e => hl (by rw [e])
  have hl' : ¬ (l.length : Int) = l'.length := by omega
  simp [wZ, Tryz.f38, ren, NY, Nz, mG, sub, aG, hS, hv.len, hv'.len, hl', hne, hl, hF]
theorem U3 : uH 105 shRdn := by
 intro H cs ds u w h h'
 replace h := df.1 h
 obtain ⟨usa, rfl, h⟩ := h
 replace h := ai.1 h
 obtain ⟨ca0, da0, ua0, rra0, rfl, rfl, ha0, h⟩ := h
 replace h := ai.1 h
 obtain ⟨ca1, da1, ua1, rra1, rfl, rfl, ha1, h⟩ := h
 replace h := aV.1 h
 obtain ⟨rfl, rfl⟩ := h
 replace ha0 := bP.1 ha0
 obtain ⟨sa0, rfl, rfl, wa0⟩ := ha0
 replace ha1 := bP.1 ha1
 obtain ⟨sa1, rfl, rfl, wa1⟩ := ha1
 replace h' := df.1 h'
 obtain ⟨usb, rfl, h'⟩ := h'
 replace h' := ai.1 h'
 obtain ⟨cb0, db0, ub0, rrb0, rfl, rfl, hb0, h'⟩ := h'
 replace h' := ai.1 h'
 obtain ⟨cb1, db1, ub1, rrb1, rfl, rfl, hb1, h'⟩ := h'
 replace h' := aV.1 h'
 obtain ⟨rfl, rfl⟩ := h'
 replace hb0 := bP.1 hb0
 obtain ⟨sb0, rfl, rfl, wb0⟩ := hb0
 replace hb1 := bP.1 hb1
 obtain ⟨sb1, rfl, rfl, wb1⟩ := hb1
 by_cases e0 : sa0 = sb0
 rotate_left
 ·refine ⟨false, by simp [e0], ?_⟩
  apply Ret.eq
  rw [PY]
  simp [vz, Tryz.f105, aG, e0]
 subst e0
 by_cases e1 : sa1 = sb1
 rotate_left
 ·refine ⟨false, by simp [e1], ?_⟩
  apply Ret.eq
  rw [PY]
  simp [vz, Tryz.f105, aG, e1]
 subst e1
 refine ⟨true, by simp only [], ?_⟩
 apply Ret.eq
 rw [PY]
 simp [vz, Tryz.f105, aG]
theorem Eu : uH 38 (.slice shRdn) :=
 Lu (f := 38) (g := 105) (tS := 35) (tE := 102) (F := Tryz.f38) (kW (c := wZ) (by kernel_rfl) ai3) rfl Un Vj (by rw [Gm]; rfl) (by rw [Gm]; rfl) (by rw [Gm]; decide) U3
theorem Ue : uH 150 shAttr := by
 intro H cs ds u w h h'
 replace h := df.1 h
 obtain ⟨usa, rfl, h⟩ := h
 replace h := ai.1 h
 obtain ⟨ca0, da0, ua0, rra0, rfl, rfl, ha0, h⟩ := h
 replace h := ai.1 h
 obtain ⟨ca1, da1, ua1, rra1, rfl, rfl, ha1, h⟩ := h
 replace h := aV.1 h
 obtain ⟨rfl, rfl⟩ := h
 replace ha0 := bP.1 ha0
 obtain ⟨sa0, rfl, rfl, wa0⟩ := ha0
 have ka1 := ha1
 replace ha1 := ak.1 ha1
 obtain ⟨va1, la1, rfl, rfl, wa1, hva1⟩ := ha1
 have oa1 := hva1.one
 replace h' := df.1 h'
 obtain ⟨usb, rfl, h'⟩ := h'
 replace h' := ai.1 h'
 obtain ⟨cb0, db0, ub0, rrb0, rfl, rfl, hb0, h'⟩ := h'
 replace h' := ai.1 h'
 obtain ⟨cb1, db1, ub1, rrb1, rfl, rfl, hb1, h'⟩ := h'
 replace h' := aV.1 h'
 obtain ⟨rfl, rfl⟩ := h'
 replace hb0 := bP.1 hb0
 obtain ⟨sb0, rfl, rfl, wb0⟩ := hb0
 have kb1 := hb1
 replace hb1 := ak.1 hb1
 obtain ⟨vb1, lb1, rfl, rfl, wb1, hvb1⟩ := hb1
 have ob1 := hvb1.one
 by_cases e0 : sa0 = sb0
 rotate_left
 ·refine ⟨false, by simp [e0], ?_⟩
  apply Ret.eq
  rw [QJ]
  simp [vX, Tryz.f150, aG, e0, oa1, ob1]
 subst e0
 obtain ⟨t1, e1, q1⟩ := qc H _ _ _ _ ka1 kb1
 simp only [aG, List.headD_cons, List.append_nil, List.cons_append, List.nil_append] at q1
 cases t1 with
 | false =>
  have e1 : ¬ (.lst la1) = (U.lst lb1) := fun h => by simpa using e1.2 h
  refine ⟨false, by simp only [U.st.injEq, List.cons.injEq, e1, and_false, false_and, Bool.false_eq_true], ?_⟩
  apply Ret.eq
  rw [QJ]
  simp [vX, Tryz.f150, aG, q1, oa1, ob1]
 | true =>
 have e1 := e1.1 rfl
 refine ⟨true, by simp only [e1], ?_⟩
 apply Ret.eq
 rw [QJ]
 simp [vX, Tryz.f150, aG, q1, oa1, ob1]
theorem QE : uH 69 (.slice shAttr) :=
 Lu (f := 69) (g := 150) (tS := 41) (tE := 188) (F := Tryz.f69) (kW (c := KJ) (by kernel_rfl) ama) rfl TF abI (by rw [MB]; rfl) (by rw [MB]; rfl) (by rw [MB]; decide) Ue
theorem QK : uH 18 shEntry := by
 intro H cs ds u w h h'
 replace h := df.1 h
 obtain ⟨usa, rfl, h⟩ := h
 replace h := ai.1 h
 obtain ⟨ca0, da0, ua0, rra0, rfl, rfl, ha0, h⟩ := h
 replace h := ai.1 h
 obtain ⟨ca1, da1, ua1, rra1, rfl, rfl, ha1, h⟩ := h
 replace h := aV.1 h
 obtain ⟨rfl, rfl⟩ := h
 have ka0 := ha0
 replace ha0 := ak.1 ha0
 obtain ⟨va0, la0, rfl, rfl, wa0, hva0⟩ := ha0
 have oa0 := hva0.one
 have ka1 := ha1
 replace ha1 := ak.1 ha1
 obtain ⟨va1, la1, rfl, rfl, wa1, hva1⟩ := ha1
 have oa1 := hva1.one
 replace h' := df.1 h'
 obtain ⟨usb, rfl, h'⟩ := h'
 replace h' := ai.1 h'
 obtain ⟨cb0, db0, ub0, rrb0, rfl, rfl, hb0, h'⟩ := h'
 replace h' := ai.1 h'
 obtain ⟨cb1, db1, ub1, rrb1, rfl, rfl, hb1, h'⟩ := h'
 replace h' := aV.1 h'
 obtain ⟨rfl, rfl⟩ := h'
 have kb0 := hb0
 replace hb0 := ak.1 hb0
 obtain ⟨vb0, lb0, rfl, rfl, wb0, hvb0⟩ := hb0
 have ob0 := hvb0.one
 have kb1 := hb1
 replace hb1 := ak.1 hb1
 obtain ⟨vb1, lb1, rfl, rfl, wb1, hvb1⟩ := hb1
 have ob1 := hvb1.one
 obtain ⟨t0, e0, q0⟩ := Eu H _ _ _ _ ka0 kb0
 simp only [aG, List.headD_cons, List.append_nil, List.cons_append, List.nil_append] at q0
 cases t0 with
 | false =>
  have e0 : ¬ (.lst la0) = (U.lst lb0) := fun h => by simpa using e0.2 h
  refine ⟨false, by simp only [U.st.injEq, List.cons.injEq, e0, and_false, false_and, Bool.false_eq_true], ?_⟩
  apply Ret.eq
  rw [Vy]
  simp [zt, Tryz.f18, aG, q0, oa0, oa1, ob0, ob1]
 | true =>
 have e0 := e0.1 rfl
 obtain ⟨t1, e1, q1⟩ := QE H _ _ _ _ ka1 kb1
 simp only [aG, List.headD_cons, List.append_nil, List.cons_append, List.nil_append] at q1
 cases t1 with
 | false =>
  have e1 : ¬ (.lst la1) = (U.lst lb1) := fun h => by simpa using e1.2 h
  refine ⟨false, by simp only [U.st.injEq, List.cons.injEq, e1, and_false, false_and, Bool.false_eq_true], ?_⟩
  apply Ret.eq
  rw [Vy]
  simp [zt, Tryz.f18, aG, q0, q1, oa0, oa1, ob0, ob1]
 | true =>
 have e1 := e1.1 rfl
 refine ⟨true, by simp only [e0, e1], ?_⟩
 apply Ret.eq
 rw [Vy]
 simp [zt, Tryz.f18, aG, q0, q1, oa0, oa1, ob0, ob1]
theorem BC : uH 103 (.slice shEntry) :=
 Lu (f := 103) (g := 18) (tS := 68) (tE := 43) (F := Tryz.f103) (kW (c := CO) (by kernel_rfl) V7) rfl OI XV (by rw [SK]; rfl) (by rw [SK]; rfl) (by rw [SK]; decide) QK
theorem Ro : uH 196 bG := by
 intro H cs ds u w h h'
 replace h := df.1 h
 obtain ⟨usa, rfl, h⟩ := h
 replace h := ai.1 h
 obtain ⟨ca0, da0, ua0, rra0, rfl, rfl, ha0, h⟩ := h
 replace h := ai.1 h
 obtain ⟨ca1, da1, ua1, rra1, rfl, rfl, ha1, h⟩ := h
 replace h := ai.1 h
 obtain ⟨ca2, da2, ua2, rra2, rfl, rfl, ha2, h⟩ := h
 replace h := ai.1 h
 obtain ⟨ca3, da3, ua3, rra3, rfl, rfl, ha3, h⟩ := h
 replace h := aV.1 h
 obtain ⟨rfl, rfl⟩ := h
 replace ha0 := bP.1 ha0
 obtain ⟨sa0, rfl, rfl, wa0⟩ := ha0
 have ka1 := ha1
 replace ha1 := ak.1 ha1
 obtain ⟨va1, la1, rfl, rfl, wa1, hva1⟩ := ha1
 have oa1 := hva1.one
 have ka2 := ha2
 replace ha2 := ak.1 ha2
 obtain ⟨va2, la2, rfl, rfl, wa2, hva2⟩ := ha2
 have oa2 := hva2.one
 have ka3 := ha3
 replace ha3 := ak.1 ha3
 obtain ⟨va3, la3, rfl, rfl, wa3, hva3⟩ := ha3
 have oa3 := hva3.one
 replace h' := df.1 h'
 obtain ⟨usb, rfl, h'⟩ := h'
 replace h' := ai.1 h'
 obtain ⟨cb0, db0, ub0, rrb0, rfl, rfl, hb0, h'⟩ := h'
 replace h' := ai.1 h'
 obtain ⟨cb1, db1, ub1, rrb1, rfl, rfl, hb1, h'⟩ := h'
 replace h' := ai.1 h'
 obtain ⟨cb2, db2, ub2, rrb2, rfl, rfl, hb2, h'⟩ := h'
 replace h' := ai.1 h'
 obtain ⟨cb3, db3, ub3, rrb3, rfl, rfl, hb3, h'⟩ := h'
 replace h' := aV.1 h'
 obtain ⟨rfl, rfl⟩ := h'
 replace hb0 := bP.1 hb0
 obtain ⟨sb0, rfl, rfl, wb0⟩ := hb0
 have kb1 := hb1
 replace hb1 := ak.1 hb1
 obtain ⟨vb1, lb1, rfl, rfl, wb1, hvb1⟩ := hb1
 have ob1 := hvb1.one
 have kb2 := hb2
 replace hb2 := ak.1 hb2
 obtain ⟨vb2, lb2, rfl, rfl, wb2, hvb2⟩ := hb2
 have ob2 := hvb2.one
 have kb3 := hb3
 replace hb3 := ak.1 hb3
 obtain ⟨vb3, lb3, rfl, rfl, wb3, hvb3⟩ := hb3
 have ob3 := hvb3.one
 by_cases e0 : sa0 = sb0
 rotate_left
 ·refine ⟨false, by simp [e0], ?_⟩
  apply Ret.eq
  rw [Il]
  simp [pY, Tryz.f196, aG, e0, oa1, oa2, oa3, ob1, ob2, ob3]
 subst e0
 obtain ⟨t1, e1, q1⟩ := qc H _ _ _ _ ka1 kb1
 simp only [aG, List.headD_cons, List.append_nil, List.cons_append, List.nil_append] at q1
 cases t1 with
 | false =>
  have e1 : ¬ (.lst la1) = (U.lst lb1) := fun h => by simpa using e1.2 h
  refine ⟨false, by simp only [U.st.injEq, List.cons.injEq, e1, and_false, false_and, Bool.false_eq_true], ?_⟩
  apply Ret.eq
  rw [Il]
  simp [pY, Tryz.f196, aG, q1, oa1, oa2, oa3, ob1, ob2, ob3]
 | true =>
 have e1 := e1.1 rfl
 obtain ⟨t2, e2, q2⟩ := qc H _ _ _ _ ka2 kb2
 simp only [aG, List.headD_cons, List.append_nil, List.cons_append, List.nil_append] at q2
 cases t2 with
 | false =>
  have e2 : ¬ (.lst la2) = (U.lst lb2) := fun h => by simpa using e2.2 h
  refine ⟨false, by simp only [U.st.injEq, List.cons.injEq, e2, and_false, false_and, Bool.false_eq_true], ?_⟩
  apply Ret.eq
  rw [Il]
  simp [pY, Tryz.f196, aG, q1, q2, oa1, oa2, oa3, ob1, ob2, ob3]
 | true =>
 have e2 := e2.1 rfl
 obtain ⟨t3, e3, q3⟩ := qc H _ _ _ _ ka3 kb3
 simp only [aG, List.headD_cons, List.append_nil, List.cons_append, List.nil_append] at q3
 cases t3 with
 | false =>
  have e3 : ¬ (.lst la3) = (U.lst lb3) := fun h => by simpa using e3.2 h
  refine ⟨false, by simp only [U.st.injEq, List.cons.injEq, e3, and_false, false_and, Bool.false_eq_true], ?_⟩
  apply Ret.eq
  rw [Il]
  simp [pY, Tryz.f196, aG, q1, q2, q3, oa1, oa2, oa3, ob1, ob2, ob3]
 | true =>
 have e3 := e3.1 rfl
 refine ⟨true, by simp only [e1, e2, e3], ?_⟩
 apply Ret.eq
 rw [Il]
 simp [pY, Tryz.f196, aG, q1, q2, q3, oa1, oa2, oa3, ob1, ob2, ob3]
theorem Oe : uH 104 (.slice bG) :=
 Lu (f := 104) (g := 196) (tS := 67) (tE := 232) (F := Tryz.f104) (kW (c := CG) (by kernel_rfl) ac8) rfl QI YS (by rw [LC]; rfl) (by rw [LC]; rfl) (by rw [LC]; decide) Ro
theorem MI : uH 37 cu := by
 intro H cs ds u w h h'
 replace h := df.1 h
 obtain ⟨usa, rfl, h⟩ := h
 replace h := ai.1 h
 obtain ⟨ca0, da0, ua0, rra0, rfl, rfl, ha0, h⟩ := h
 replace h := ai.1 h
 obtain ⟨ca1, da1, ua1, rra1, rfl, rfl, ha1, h⟩ := h
 replace h := aV.1 h
 obtain ⟨rfl, rfl⟩ := h
 have ka0 := ha0
 replace ha0 := ak.1 ha0
 obtain ⟨va0, la0, rfl, rfl, wa0, hva0⟩ := ha0
 have oa0 := hva0.one
 have ka1 := ha1
 replace ha1 := ak.1 ha1
 obtain ⟨va1, la1, rfl, rfl, wa1, hva1⟩ := ha1
 have oa1 := hva1.one
 replace h' := df.1 h'
 obtain ⟨usb, rfl, h'⟩ := h'
 replace h' := ai.1 h'
 obtain ⟨cb0, db0, ub0, rrb0, rfl, rfl, hb0, h'⟩ := h'
 replace h' := ai.1 h'
 obtain ⟨cb1, db1, ub1, rrb1, rfl, rfl, hb1, h'⟩ := h'
 replace h' := aV.1 h'
 obtain ⟨rfl, rfl⟩ := h'
 have kb0 := hb0
 replace hb0 := ak.1 hb0
 obtain ⟨vb0, lb0, rfl, rfl, wb0, hvb0⟩ := hb0
 have ob0 := hvb0.one
 have kb1 := hb1
 replace hb1 := ak.1 hb1
 obtain ⟨vb1, lb1, rfl, rfl, wb1, hvb1⟩ := hb1
 have ob1 := hvb1.one
 obtain ⟨t0, e0, q0⟩ := Oe H _ _ _ _ ka0 kb0
 simp only [aG, List.headD_cons, List.append_nil, List.cons_append, List.nil_append] at q0
 cases t0 with
 | false =>
  have e0 : ¬ (.lst la0) = (U.lst lb0) := fun h => by simpa using e0.2 h
  refine ⟨false, by simp only [U.st.injEq, List.cons.injEq, e0, and_false, false_and, Bool.false_eq_true], ?_⟩
  apply Ret.eq
  rw [U6]
  simp [zf, Tryz.f37, aG, q0, oa0, oa1, ob0, ob1]
 | true =>
 have e0 := e0.1 rfl
 obtain ⟨t1, e1, q1⟩ := BC H _ _ _ _ ka1 kb1
 simp only [aG, List.headD_cons, List.append_nil, List.cons_append, List.nil_append] at q1
 cases t1 with
 | false =>
  have e1 : ¬ (.lst la1) = (U.lst lb1) := fun h => by simpa using e1.2 h
  refine ⟨false, by simp only [U.st.injEq, List.cons.injEq, e1, and_false, false_and, Bool.false_eq_true], ?_⟩
  apply Ret.eq
  rw [U6]
  simp [zf, Tryz.f37, aG, q0, q1, oa0, oa1, ob0, ob1]
 | true =>
 have e1 := e1.1 rfl
 refine ⟨true, by simp only [e0, e1], ?_⟩
 apply Ret.eq
 rw [U6]
 simp [zf, Tryz.f37, aG, q0, q1, oa0, oa1, ob0, ob1]
def xq (f : Nat) (sh : Sh) : Prop := ∀ (H : List Ob) (cs : List V) (u : U), At H sh cs u → wt u ≤ 1048576 →
 ∃ T cs' F, callW C f [aG sh cs] H = some (aG sh cs', H ++ T) ∧ AtF (H ++ T) sh cs' u F ∧ F.Nodup ∧ ∀ id ∈ F, H.length ≤ id
theorem Ret.to {f : Nat} {sh : Sh} {a : List V} {H : List Ob} {u : U} (h : Ret C f a H fun r H' => ∃ T cs' F, H' = H ++ T ∧ r = aG sh cs' ∧ AtF (H ++ T) sh cs' u F ∧ F.Nodup ∧ ∀ id ∈ F, H.length ≤ id) :
  ∃ T cs' F, callW C f a H = some (aG sh cs', H ++ T) ∧ AtF (H ++ T) sh cs' u F ∧ F.Nodup ∧ ∀ id ∈ F, H.length ≤ id := by
 obtain ⟨r, H', hc, T, cs', F, rfl, rfl, h1, h2, h3⟩ := h
 exact ⟨T, cs', F, hc, h1, h2, h3⟩
theorem oW : xq 15 (.slice .str) := by
 intro H cs u h hwt
 obtain ⟨v, l, rfl, rfl, hlen, hv⟩ := ak.1 h
 apply Ret.to
 rw [amI]
 simp only [wt] at hwt
 have b1 : (l.length : Int) * 16 ≤ 1099511627776 := by omega
 have b2 : (l.length : Int) ≤ 1099511627776 := by omega
 simp [I8, Tryz.f15, aG, aI, St.new, aJ, b1, b2, hv.len]
 refine aB (fun k σ => ∃ (i : Nat) (r : Nat → R) (G : List Ob), i + k = l.length ∧ σ = ⟨r, 0, G⟩ ∧ ToI H .str l i G ∧ r 0 = .val v ∧ r 3 = .val (.slc (some (H.length, 0)) l.length) ∧ r 4 = .val (.int .i64 i)) ?_ l.length _ ⟨0, _, _, by simp, rfl, ToI.init (by simp [ax]), by simp, by simp, by simp⟩
 rintro k σ ⟨i, r, G, hik, rfl, hI, r0, r3, r4⟩
 cases k with
 | zero =>
  have hi : i = l.length := by omega
  subst hi
  obtain ⟨T, F, rfl, h1, h2, h3, h4⟩ := hI.done hlen
  simp [r0, r3, r4, hv.len]
  exact ⟨[_], rfl, F, h1, h2, h3⟩
 | succ k =>
  have hi : i < l.length := by omega
  obtain ⟨x, hx⟩ : ∃ x, l[i]? = some x := ⟨l[i], by simp [hi]⟩
  have hI' := hI
  obtain ⟨T0, _, _, hG, _⟩ := hI'
  have hvG : Sl G Sh.str.size (At G .str) v l := by rw [hG]; exact hv.map aZ fun _ _ h => h.ext
  clear hG
  obtain ⟨eid, o, own, cells, e1, e2, e3, e0⟩ := hvG.idx hx (by decide)
  obtain ⟨s, e4, rfl, e5⟩ := bP.1 e0
  simp only [Sh.size_str] at e1
  have c0 : cells[o]? = some (.str s) := by simpa using bF e4 (j := 0) rfl
  have ld := aY e2 c0
  obtain ⟨cells2, g1, g2, g3, g4⟩ := hI.step (T := []) hx (c := [.str s]) (F := []) (dE.2 ⟨⟨s, rfl, rfl, e5⟩, rfl⟩) (by simp) (by simp)
  simp only [List.append_nil, Sh.size_str, Nat.mul_one, List.length_singleton] at g1 g2 g4
  rw [lu (by omega)] at g4
  have st := store1 (v := .str s) (o := i) g1 (by omega) rfl rfl
  have hw : IntKind.i64.wrap ((i : Int) + 1) = ((i + 1 : Nat) : Int) := by rw [wrap_i64 (by omega) (by omega)]; omega
  simp [r0, r3, r4, hi, hv.len, e1, ld, st, hw]
  exact ⟨k, by omega, i + 1, by omega, _, _, ⟨rfl, rfl⟩, g4, by simp [r0], by simp [r3], by simp⟩
theorem LH {f g tS tE tS2 tE2 b : Nat} {zs zs2 zs3 : List V} {d' : List (Nat × Nat)} {fs : List Sh} {F : Func} (hop : ∀ {a : List V} {H : List Ob} {R : V → List Ob → Prop}, Ret C f a H R ↔ WP C f (ren [(22, tS), (99, tE), (35, tS2), (102, tE2)] [(47, g)] Aq) ⟨af a, 0, H⟩ (aF C F H R))
  (hF : F.results = #[.tmp 2]) (hS : C.ty tS = ⟨.slice tE, 1, 24, zs⟩) (hE : (C.ty tE).size = (Sh.st fs).size) (hE2 : (C.ty tE).isAgg = true) (hE0 : (C.ty tE).size ≠ 0) (hb : b ≤ 1048576)
  (hS2 : C.ty tS2 = ⟨.slice tE2, 1, 24, zs2⟩) (hT2 : C.ty tE2 = ⟨.struct d', (Sh.st fs).size, b, zs3⟩) (hz : zs3.length = (Sh.st fs).size) (hg : xq g (.st fs)) : xq f (.slice (.st fs)) := by
 intro H cs u h hwt
 obtain ⟨v, l, rfl, rfl, hlen, hv⟩ := ak.1 h
 apply Ret.to
 rw [hop]
 simp only [wt] at hwt
 have b1 : (l.length : Int) * b ≤ 1099511627776 := by
  have : l.length * b ≤ 1048576 * 1048576 := Nat.mul_le_mul (by omega) hb
  omega
 have b2 : (l.length : Int) ≤ 1099511627776 := by omega
 have hs0 : 0 < Sh.sizes fs := by have := hE ▸ hE0; simp at this; omega
 have hs1 : ¬ Sh.sizes fs = 0 := by omega
 simp only [Sh.size_st] at hE hT2 hz
 simp [Aq, Tryz.f33, ren, NY, Nz, mG, sub, aG, aI, St.new, aJ, hS, hS2, hT2, hz, b1, b2, hs0, hv.len]
 refine aB (fun k σ => ∃ (i : Nat) (r : Nat → R) (G : List Ob), i + k = l.length ∧ σ = ⟨r, 0, G⟩ ∧ ToI H (.st fs) l i G ∧ r 0 = .val v ∧ r 3 = .val (.slc (some (H.length, 0)) l.length) ∧ r 4 = .val (.int .i64 i)) ?_ l.length _ ⟨0, _, _, by simp, rfl, ToI.init (by rw [JS, hz]; rfl), by simp, by simp, by simp⟩
 rintro k σ ⟨i, r, G, hik, rfl, hI, r0, r3, r4⟩
 cases k with
 | zero =>
  have hi : i = l.length := by omega
  subst hi
  obtain ⟨T, F, rfl, h1, h2, h3, h4⟩ := hI.done hlen
  simp [r0, r3, r4, hS, hv.len, hF]
  exact ⟨[_], rfl, F, h1, h2, h3⟩
 | succ k =>
  have hi : i < l.length := by omega
  obtain ⟨x, hx⟩ : ∃ x, l[i]? = some x := ⟨l[i], by simp [hi]⟩
  have hI' := hI
  obtain ⟨T0, _, _, hG, _⟩ := hI'
  have hvG : Sl G (Sh.st fs).size (At G (.st fs)) v l := by rw [hG]; exact hv.map aZ fun _ _ h => h.ext
  clear hG
  obtain ⟨eid, o, own, cells, e1, e2, e3, e4⟩ := hvG.idx hx (by simp; omega)
  have e1 := fun (k : IntKind) => e1 tE 1 24 zs C.ty k hE
  have ld := qW (T := C.ty tE) e2 (by rw [hE]; exact e3) rfl hE0 hE2
  rw [hE] at ld
  have hwx : wt x ≤ 1048576 := by have := LU hx; omega
  obtain ⟨T1, c, F1, hc, g5, g6, g7⟩ := hg G _ x e4 hwx
  obtain ⟨cells2, g1, g2, g3, g4⟩ := hI.step hx g5 g6 g7
  simp only [aG, Sh.size_st] at hc g1 g2 g3 g4
  have st := EW g1 g2 (by intro h0; subst h0; simp at g3; omega) (At.ones _ (AtF.at _ g5)) (C.ty tE2) (by rw [hT2, g3]; exact ⟨rfl, rfl⟩)
  rw [hT2] at st
  have hw : IntKind.i64.wrap ((i : Int) + 1) = ((i + 1 : Nat) : Int) := by rw [wrap_i64 (by omega) (by omega)]; omega
  simp [r0, r3, r4, hi, hS, hS2, hT2, hs0, hs1, hv.len, e1, ld, hc, st, hw, -setRange]
  exact ⟨k, by omega, i + 1, by omega, _, _, ⟨rfl, rfl⟩, g4, by simp [r0], by simp [r3], by simp⟩
theorem EZ : xq 47 shRdn := by
 intro H cs u h hwt
 replace h := df.1 h
 obtain ⟨us, rfl, h⟩ := h
 replace h := ai.1 h
 obtain ⟨c0, d0, u0, rr0, rfl, rfl, h0, h⟩ := h
 replace h := ai.1 h
 obtain ⟨c1, d1, u1, rr1, rfl, rfl, h1, h⟩ := h
 replace h := aV.1 h
 obtain ⟨rfl, rfl⟩ := h
 replace h0 := bP.1 h0
 obtain ⟨s0, rfl, rfl, w0⟩ := h0
 replace h1 := bP.1 h1
 obtain ⟨s1, rfl, rfl, w1⟩ := h1
 simp only [gI, bU, dB, eF, eu, dD] at hwt
 have hA : AtF H shRdn _ _ _ := dY.2 ⟨_, rfl, aC.2 ⟨[_], _, _, _, [], [], rfl, rfl, rfl, dE.2 ⟨⟨_, rfl, rfl, w0⟩, rfl⟩, aC.2 ⟨[_], _, _, _, [], [], rfl, rfl, rfl, dE.2 ⟨⟨_, rfl, rfl, w1⟩, rfl⟩, di.2 ⟨rfl, rfl, rfl⟩⟩⟩⟩
 apply Ret.to
 rw [aju]
 simp [Jj, Tryz.f47, aG]
 exact ⟨[], by simpa using hA, by simp, by simp⟩
theorem lF : xq 33 (.slice shRdn) :=
 LH (f := 33) (g := 47) (tS := 22) (tE := 99) (tS2 := 35) (tE2 := 102) (F := Tryz.f33) (kW (c := Aq) (by kernel_rfl) amd) rfl WZ (by rw [ND]; rfl) (by rw [ND]; rfl) (by rw [ND]; decide) (by decide) Vj Gm rfl EZ
theorem Tz : xq 139 shAttr := by
 intro H cs u h hwt
 replace h := df.1 h
 obtain ⟨us, rfl, h⟩ := h
 replace h := ai.1 h
 obtain ⟨c0, d0, u0, rr0, rfl, rfl, h0, h⟩ := h
 replace h := ai.1 h
 obtain ⟨c1, d1, u1, rr1, rfl, rfl, h1, h⟩ := h
 replace h := aV.1 h
 obtain ⟨rfl, rfl⟩ := h
 replace h0 := bP.1 h0
 obtain ⟨s0, rfl, rfl, w0⟩ := h0
 have k1 := h1
 replace h1 := ak.1 h1
 obtain ⟨v1, l1, rfl, rfl, w1, hv1⟩ := h1
 have o1 := hv1.one
 simp only [gI, bU, dB, eF, eu, dD] at hwt
 obtain ⟨T1, x1, G1, q1, a1, m1, g1⟩ := oW (H) _ _ (k1) (by omega)
 have y1 := a1
 obtain ⟨z1, _, rfl, zz1, _, _⟩ := aA.1 y1
 cases zz1
 have oz1 := (ak.1 (AtF.at _ a1))
 obtain ⟨_, _, x1, x2, _, oz1⟩ := oz1
 cases x1
 cases x2
 have oz1 := oz1.one
 simp only [aG, List.headD_cons, List.append_nil, List.cons_append, List.nil_append, List.append_assoc] at q1
 have hA : AtF (H ++ T1) shAttr _ _ _ := dY.2 ⟨_, rfl, aC.2 ⟨[_], _, _, _, [], _, rfl, rfl, rfl, dE.2 ⟨⟨_, rfl, rfl, w0⟩, rfl⟩, aC.2 ⟨[_], _, _, _, G1, _, rfl, rfl, rfl, (a1), di.2 ⟨rfl, rfl, rfl⟩⟩⟩⟩
 simp only [List.append_assoc, List.nil_append, List.append_nil] at hA
 skip
 have hge : ∀ q ∈ G1, H.length ≤ q := by
  intro q hq
  try simp only [List.mem_append] at hq
  ·have := g1 q hq; omega
 have hnd : (G1).Nodup := by
  have b1 := AtF.mem _ a1
  exact m1
 obtain ⟨T, hT, hA⟩ := F7 hA hge
 simp only [List.cons_append, List.nil_append, List.append_nil] at hT
 apply Ret.to
 rw [acX]
 simp [Ee, Tryz.f139, aG, hT, q1, o1, oz1]
 exact ⟨_, hA, hnd, hge⟩
theorem Qu : xq 62 (.slice shAttr) :=
 LH (f := 62) (g := 139) (tS := 27) (tE := 178) (tS2 := 41) (tE2 := 188) (F := Tryz.f62) (kW (c := J7) (by kernel_rfl) aky) rfl aeV (by rw [BD]; rfl) (by rw [BD]; rfl) (by rw [BD]; decide) (by decide) abI MB rfl Tz
theorem Qj : xq 14 shEntry := by
 intro H cs u h hwt
 replace h := df.1 h
 obtain ⟨us, rfl, h⟩ := h
 replace h := ai.1 h
 obtain ⟨c0, d0, u0, rr0, rfl, rfl, h0, h⟩ := h
 replace h := ai.1 h
 obtain ⟨c1, d1, u1, rr1, rfl, rfl, h1, h⟩ := h
 replace h := aV.1 h
 obtain ⟨rfl, rfl⟩ := h
 have k0 := h0
 replace h0 := ak.1 h0
 obtain ⟨v0, l0, rfl, rfl, w0, hv0⟩ := h0
 have o0 := hv0.one
 have k1 := h1
 replace h1 := ak.1 h1
 obtain ⟨v1, l1, rfl, rfl, w1, hv1⟩ := h1
 have o1 := hv1.one
 simp only [gI, bU, dB, eF, eu, dD] at hwt
 obtain ⟨T0, x0, G0, q0, a0, m0, g0⟩ := lF (H) _ _ (k0) (by omega)
 have y0 := a0
 obtain ⟨z0, _, rfl, zz0, _, _⟩ := aA.1 y0
 cases zz0
 have oz0 := (ak.1 (AtF.at _ a0))
 obtain ⟨_, _, x1, x2, _, oz0⟩ := oz0
 cases x1
 cases x2
 have oz0 := oz0.one
 simp only [aG, List.headD_cons, List.append_nil, List.cons_append, List.nil_append, List.append_assoc] at q0
 obtain ⟨T1, x1, G1, q1, a1, m1, g1⟩ := Qu (H ++ T0) _ _ (k1.ext) (by omega)
 have y1 := a1
 obtain ⟨z1, _, rfl, zz1, _, _⟩ := aA.1 y1
 cases zz1
 have oz1 := (ak.1 (AtF.at _ a1))
 obtain ⟨_, _, x1, x2, _, oz1⟩ := oz1
 cases x1
 cases x2
 have oz1 := oz1.one
 simp only [aG, List.headD_cons, List.append_nil, List.cons_append, List.nil_append, List.append_assoc] at q1
 have hA : AtF (H ++ T0 ++ T1) shEntry _ _ _ := dY.2 ⟨_, rfl, aC.2 ⟨[_], _, _, _, G0, _, rfl, rfl, rfl, (a0.app), aC.2 ⟨[_], _, _, _, G1, _, rfl, rfl, rfl, (a1), di.2 ⟨rfl, rfl, rfl⟩⟩⟩⟩
 simp only [List.append_assoc, List.nil_append, List.append_nil] at hA
 simp only [List.length_append] at g0 g1
 have hge : ∀ q ∈ G0 ++ (G1), H.length ≤ q := by
  intro q hq
  try simp only [List.mem_append] at hq
  rcases hq with hq | hq
  ·have := g0 q hq; omega
  ·have := g1 q hq; omega
 have hnd : (G0 ++ (G1)).Nodup := by
  have b0 := AtF.mem _ a0
  have b1 := AtF.mem _ a1
  simp only [List.length_append] at b0 b1
  refine List.nodup_append.2 ⟨m0, ?_, fun x hx y hy e => ?_⟩
  rotate_left
  ·subst e
   have := b0 x hx
   try simp only [List.mem_append] at hy
   ·have := g1 x hy; omega
  exact m1
 obtain ⟨T, hT, hA⟩ := F7 hA hge
 simp only [List.cons_append, List.nil_append, List.append_nil] at hT
 apply Ret.to
 rw [al3]
 simp [Jf, Tryz.f14, aG, hT, q0, q1, o0, o1, oz0, oz1]
 exact ⟨_, hA, hnd, hge⟩
theorem Oz : xq 95 (.slice shEntry) :=
 LH (f := 95) (g := 14) (tS := 56) (tE := 29) (tS2 := 68) (tE2 := 43) (F := Tryz.f95) (kW (c := JJ) (by kernel_rfl) ajH) rfl adZ (by rw [MX]; rfl) (by rw [MX]; rfl) (by rw [MX]; decide) (by decide) XV SK rfl Qj
theorem Sm : xq 189 bG := by
 intro H cs u h hwt
 replace h := df.1 h
 obtain ⟨us, rfl, h⟩ := h
 replace h := ai.1 h
 obtain ⟨c0, d0, u0, rr0, rfl, rfl, h0, h⟩ := h
 replace h := ai.1 h
 obtain ⟨c1, d1, u1, rr1, rfl, rfl, h1, h⟩ := h
 replace h := ai.1 h
 obtain ⟨c2, d2, u2, rr2, rfl, rfl, h2, h⟩ := h
 replace h := ai.1 h
 obtain ⟨c3, d3, u3, rr3, rfl, rfl, h3, h⟩ := h
 replace h := aV.1 h
 obtain ⟨rfl, rfl⟩ := h
 replace h0 := bP.1 h0
 obtain ⟨s0, rfl, rfl, w0⟩ := h0
 have k1 := h1
 replace h1 := ak.1 h1
 obtain ⟨v1, l1, rfl, rfl, w1, hv1⟩ := h1
 have o1 := hv1.one
 have k2 := h2
 replace h2 := ak.1 h2
 obtain ⟨v2, l2, rfl, rfl, w2, hv2⟩ := h2
 have o2 := hv2.one
 have k3 := h3
 replace h3 := ak.1 h3
 obtain ⟨v3, l3, rfl, rfl, w3, hv3⟩ := h3
 have o3 := hv3.one
 simp only [gI, bU, dB, eF, eu, dD] at hwt
 obtain ⟨T1, x1, G1, q1, a1, m1, g1⟩ := oW (H) _ _ (k1) (by omega)
 have y1 := a1
 obtain ⟨z1, _, rfl, zz1, _, _⟩ := aA.1 y1
 cases zz1
 have oz1 := (ak.1 (AtF.at _ a1))
 obtain ⟨_, _, x1, x2, _, oz1⟩ := oz1
 cases x1
 cases x2
 have oz1 := oz1.one
 simp only [aG, List.headD_cons, List.append_nil, List.cons_append, List.nil_append, List.append_assoc] at q1
 obtain ⟨T2, x2, G2, q2, a2, m2, g2⟩ := oW (H ++ T1) _ _ (k2.ext) (by omega)
 have y2 := a2
 obtain ⟨z2, _, rfl, zz2, _, _⟩ := aA.1 y2
 cases zz2
 have oz2 := (ak.1 (AtF.at _ a2))
 obtain ⟨_, _, x1, x2, _, oz2⟩ := oz2
 cases x1
 cases x2
 have oz2 := oz2.one
 simp only [aG, List.headD_cons, List.append_nil, List.cons_append, List.nil_append, List.append_assoc] at q2
 obtain ⟨T3, x3, G3, q3, a3, m3, g3⟩ := oW (H ++ T1 ++ T2) _ _ (k3.ext.ext) (by omega)
 have y3 := a3
 obtain ⟨z3, _, rfl, zz3, _, _⟩ := aA.1 y3
 cases zz3
 have oz3 := (ak.1 (AtF.at _ a3))
 obtain ⟨_, _, x1, x2, _, oz3⟩ := oz3
 cases x1
 cases x2
 have oz3 := oz3.one
 simp only [aG, List.headD_cons, List.append_nil, List.cons_append, List.nil_append, List.append_assoc] at q3
 have hA : AtF (H ++ T1 ++ T2 ++ T3) bG _ _ _ := dY.2 ⟨_, rfl, aC.2 ⟨[_], _, _, _, [], _, rfl, rfl, rfl, dE.2 ⟨⟨_, rfl, rfl, w0⟩, rfl⟩, aC.2 ⟨[_], _, _, _, G1, _, rfl, rfl, rfl, (a1.app.app), aC.2 ⟨[_], _, _, _, G2, _, rfl, rfl, rfl, (a2.app), aC.2 ⟨[_], _, _, _, G3, _, rfl, rfl, rfl, (a3), di.2 ⟨rfl, rfl, rfl⟩⟩⟩⟩⟩⟩
 simp only [List.append_assoc, List.nil_append, List.append_nil] at hA
 simp only [List.length_append] at g1 g2 g3
 have hge : ∀ q ∈ G1 ++ (G2 ++ (G3)), H.length ≤ q := by
  intro q hq
  try simp only [List.mem_append] at hq
  rcases hq with hq | hq | hq
  ·have := g1 q hq; omega
  ·have := g2 q hq; omega
  ·have := g3 q hq; omega
 have hnd : (G1 ++ (G2 ++ (G3))).Nodup := by
  have b1 := AtF.mem _ a1
  have b2 := AtF.mem _ a2
  have b3 := AtF.mem _ a3
  simp only [List.length_append] at b1 b2 b3
  refine List.nodup_append.2 ⟨m1, ?_, fun x hx y hy e => ?_⟩
  rotate_left
  ·subst e
   have := b1 x hx
   try simp only [List.mem_append] at hy
   rcases hy with hy | hy
   ·have := g2 x hy; omega
   ·have := g3 x hy; omega
  refine List.nodup_append.2 ⟨m2, ?_, fun x hx y hy e => ?_⟩
  rotate_left
  ·subst e
   have := b2 x hx
   try simp only [List.mem_append] at hy
   ·have := g3 x hy; omega
  exact m3
 obtain ⟨T, hT, hA⟩ := F7 hA hge
 simp only [List.cons_append, List.nil_append, List.append_nil] at hT
 apply Ret.to
 rw [afz]
 simp [Df, Tryz.f189, aG, hT, q1, q2, q3, o1, o2, o3, oz1, oz2, oz3]
 exact ⟨_, hA, hnd, hge⟩
theorem Nq : xq 94 (.slice bG) :=
 LH (f := 94) (g := 189) (tS := 55) (tE := 227) (tS2 := 67) (tE2 := 232) (F := Tryz.f94) (kW (c := Jw) (by kernel_rfl) aka) rfl Zo (by rw [BP]; rfl) (by rw [BP]; rfl) (by rw [BP]; decide) (by decide) YS LC rfl Sm
theorem yJ : xq 32 cu := by
 intro H cs u h hwt
 replace h := df.1 h
 obtain ⟨us, rfl, h⟩ := h
 replace h := ai.1 h
 obtain ⟨c0, d0, u0, rr0, rfl, rfl, h0, h⟩ := h
 replace h := ai.1 h
 obtain ⟨c1, d1, u1, rr1, rfl, rfl, h1, h⟩ := h
 replace h := aV.1 h
 obtain ⟨rfl, rfl⟩ := h
 have k0 := h0
 replace h0 := ak.1 h0
 obtain ⟨v0, l0, rfl, rfl, w0, hv0⟩ := h0
 have o0 := hv0.one
 have k1 := h1
 replace h1 := ak.1 h1
 obtain ⟨v1, l1, rfl, rfl, w1, hv1⟩ := h1
 have o1 := hv1.one
 simp only [gI, bU, dB, eF, eu, dD] at hwt
 obtain ⟨T0, x0, G0, q0, a0, m0, g0⟩ := Nq (H) _ _ (k0) (by omega)
 have y0 := a0
 obtain ⟨z0, _, rfl, zz0, _, _⟩ := aA.1 y0
 cases zz0
 have oz0 := (ak.1 (AtF.at _ a0))
 obtain ⟨_, _, x1, x2, _, oz0⟩ := oz0
 cases x1
 cases x2
 have oz0 := oz0.one
 simp only [aG, List.headD_cons, List.append_nil, List.cons_append, List.nil_append, List.append_assoc] at q0
 obtain ⟨T1, x1, G1, q1, a1, m1, g1⟩ := Oz (H ++ T0) _ _ (k1.ext) (by omega)
 have y1 := a1
 obtain ⟨z1, _, rfl, zz1, _, _⟩ := aA.1 y1
 cases zz1
 have oz1 := (ak.1 (AtF.at _ a1))
 obtain ⟨_, _, x1, x2, _, oz1⟩ := oz1
 cases x1
 cases x2
 have oz1 := oz1.one
 simp only [aG, List.headD_cons, List.append_nil, List.cons_append, List.nil_append, List.append_assoc] at q1
 have hA : AtF (H ++ T0 ++ T1) cu _ _ _ := dY.2 ⟨_, rfl, aC.2 ⟨[_], _, _, _, G0, _, rfl, rfl, rfl, (a0.app), aC.2 ⟨[_], _, _, _, G1, _, rfl, rfl, rfl, (a1), di.2 ⟨rfl, rfl, rfl⟩⟩⟩⟩
 simp only [List.append_assoc, List.nil_append, List.append_nil] at hA
 simp only [List.length_append] at g0 g1
 have hge : ∀ q ∈ G0 ++ (G1), H.length ≤ q := by
  intro q hq
  try simp only [List.mem_append] at hq
  rcases hq with hq | hq
  ·have := g0 q hq; omega
  ·have := g1 q hq; omega
 have hnd : (G0 ++ (G1)).Nodup := by
  have b0 := AtF.mem _ a0
  have b1 := AtF.mem _ a1
  simp only [List.length_append] at b0 b1
  refine List.nodup_append.2 ⟨m0, ?_, fun x hx y hy e => ?_⟩
  rotate_left
  ·subst e
   have := b0 x hx
   try simp only [List.mem_append] at hy
   ·have := g1 x hy; omega
  exact m1
 obtain ⟨T, hT, hA⟩ := F7 hA hge
 simp only [List.cons_append, List.nil_append, List.append_nil] at hT
 apply Ret.to
 rw [amq]
 simp [Je, Tryz.f32, aG, hT, q0, q1, o0, o1, oz0, oz1]
 exact ⟨_, hA, hnd, hge⟩
theorem jm {H : List Ob} {k : Nat} (hk : k ≤ 100000000) : callW C 109 [.int .i64 k] H = some (.str (aQ k), H) := by
 apply Ret.eq
 rw [afs]
 by_cases h0 : k = 0
 ·subst h0
  simp [yU, Tryz.f109, aQ]
 ·have hp : ¬ ((k : Int) ≤ 0) := by omega
  simp [yU, Tryz.f109, hp, h0]
  refine aB (fun m σ => ∃ (r : Nat → R) (out : Str) (G T : List Ob), G = H ++ T ∧ σ = ⟨r, 0, G⟩ ∧ r 0 = .val (.int .i64 m) ∧ r 3 = .val (.str out) ∧ ji k [] = ji m out ∧ m ≤ 100000000 ∧ out.length + m ≤ 100000000) ?_ k _ ⟨_, [], H, [], by simp, rfl, by simp, by simp, rfl, hk, by simpa using hk⟩
  rintro m σ ⟨r, out, G, T, hG, rfl, r0, r3, hm, m1, m2⟩
  by_cases hz : m = 0
  ·subst hz
   rw [tC] at hm
   have hl : out.length + 1 ≤ maxStr := by unfold maxStr; omega
   have hl' : 1 + out.length ≤ maxStr := by unfold maxStr; omega
   subst hG
   simp [r0, r3, aQ, h0, hm, hl, hl']
  ·have hpm : (0 : Int) < (m : Int) := by omega
   have hr : ((m : Int).tmod 10) = (m : Int) % 10 := by rw [Int.tmod_eq_emod_of_nonneg (by omega)]
   have hw : IntKind.i64.wrap (48 + (m : Int) % 10) = 48 + (m : Int) % 10 := wrap_i64 (by omega) (by omega)
   have hu : IntKind.u8.wrap (48 + (m : Int) % 10) = 48 + (m : Int) % 10 := by unfold IntKind.wrap; simp [IntKind.bits, IntKind.signed]; omega
   have hn : (48 + (m : Int) % 10).toNat = 48 + m % 10 := by omega
   have hq : ((m : Int).tdiv 10) = (m : Int) / 10 := by rw [Int.tdiv_eq_ediv_of_nonneg (by omega)]
   have hw2 : IntKind.i64.wrap ((m : Int) / 10) = (m : Int) / 10 := wrap_i64 (by omega) (by omega)
   have hl' : 1 + out.length ≤ maxStr := by unfold maxStr; omega
   have hmp : 0 < m := by omega
   simp [r0, r3, hpm, aI, hz, hr, hw, hq, hw2, hu, hn, hl', hmp, aH, ax, bg, isByte, jo]
   refine ⟨m / 10, by omega, _, (48 + UInt8.ofNat (m % 10)) :: out, _, ⟨T ++ _, by rw [hG, List.append_assoc]⟩, ⟨rfl, rfl⟩, by simp, by simp, ?_, by omega, by simp; omega⟩
   rw [hm, sN hz]
theorem uX {k : Nat} (h : k ≤ 50000000) : (aQ k).length ≤ maxLen := by
 have := Gt (k := k)
 unfold maxLen
 omega
def Ic (f : Nat) (sh : Sh) : Prop := ∀ (H : List Ob) (cs : List V) (u : U) (F : List Nat) (k : Nat), AtF H sh cs u F → F.Nodup → k + dI u ≤ 50000000 →
 ∃ H', callW C f [aG sh cs, .int .i64 k] H = some (.int .i64 ((k + dI u : Nat) : Int), H') ∧ H'.length = H.length ∧ (∀ q, q ∉ F → H'[q]? = H[q]?) ∧ AtF H' sh cs (mkV u k) F
theorem Ret.mark {f : Nat} {a : List V} {H : List Ob} {n : Int} {P : List Ob → Prop} (h : Ret C f a H fun r H' => r = .int .i64 n ∧ P H') : ∃ H', callW C f a H = some (.int .i64 n, H') ∧ P H' := by
 obtain ⟨r, H', hc, rfl, h⟩ := h
 exact ⟨H', hc, h⟩
theorem qj {H H' : List Ob} {r : V} (h : H'.length = H.length) : fM H H' r = H' := by
 unfold fM
 split
 ·rename_i hc
  obtain ⟨⟨T, rfl⟩, _⟩ := hc
  simp at h
  rw [h, List.append_nil]
 ·rfl
theorem pq : Ic 128 (.slice .str) := by
 intro H cs u F k h hn hk
 obtain ⟨v, l, rfl, rfl, hlen, hv⟩ := aA.1 h
 have hv := (aA.2 ⟨v, l, rfl, rfl, hlen, hv⟩).at
 obtain ⟨_, _, hx1, hx2, _, hv⟩ := ak.1 hv
 cases hx1; cases hx2
 apply Ret.mark
 rw [afT]
 simp only [dI] at hk
 have hl64 : l.length ≤ 9223372036854775807 := hlen
 simp [DI, Tryz.f128, aG, -setRange]
 refine aB (fun m σ => ∃ (i : Nat) (r : Nat → R) (G : List Ob), i + m = l.length ∧ σ = ⟨r, 0, G⟩ ∧ r 0 = .val v ∧ r 1 = .val (.int .i64 ((k + aU (l.take i) : Nat) : Int)) ∧ r 5 = .val (.int .i64 i) ∧ G.length = H.length ∧ (∀ q, q ∉ F → G[q]? = H[q]?) ∧ AtF G (.slice .str) [v] (.lst (bM (l.take i) k ++ l.drop i)) F) ?_ l.length _ ⟨0, _, H, by simp, rfl, by simp, by simp [aU], by simp, rfl, fun _ _ => rfl, by simpa [bM] using h⟩
 rintro m σ ⟨i, r, G, him, rfl, r0, r1, r5, g1, g2, g3⟩
 cases m with
 | zero =>
  have hi : i = l.length := by omega
  subst hi
  simp at g3
  simp [r0, r1, r5, hv.len, qj g1, dI, mkV]
  exact ⟨g1, g2, g3⟩
 | succ m =>
  have hi : i < l.length := by omega
  obtain ⟨x, hx⟩ : ∃ x, l[i]? = some x := ⟨l[i], by simp [hi]⟩
  obtain ⟨id, off, cells, K, e0, e1, e2, e3, e4, e5, e6, e7, e8⟩ := AtF.elem g3 hn (i := i) (x := x) (by rw [zJ hi, hx])
  have hL : (bM (l.take i) k ++ l.drop i).length = l.length := by simp [dV]; omega
  rw [hL] at e0
  subst e0
  obtain ⟨⟨s, e3, rfl, _⟩, rfl⟩ := dE.1 e3
  have hcnt := fV hx
  have hle := dO (l := l) (i := i + 1)
  simp only [dF] at hcnt
  have hm := jm (H := G) (k := k + aU (l.take i)) (by omega)
  simp only [Sh.size_str, Nat.mul_one] at e1 e2 e8
  have st := store1 (v := .str (aQ (k + aU (l.take i)))) (o := off + i) e1 (by omega) rfl rfl
  have hre := e8 (G.set id (.mk true 1 (cells.set (off + i) (.str (aQ (k + aU (l.take i))))))) [.str (aQ (k + aU (l.take i)))] (.str (aQ (k + aU (l.take i)))) rfl
   (by rw [List.getElem?_set_self (List.getElem?_eq_some_iff.1 e1).1, lu (by omega)]) (fun q _ hq _ => by rw [List.getElem?_set_ne (Ne.symm hq)]) (dE.2 ⟨⟨_, rfl, rfl, uX (by omega)⟩, rfl⟩)
  have hmk := Aw (k := k) hx
  simp only [PU] at hmk
  rw [hmk] at hre
  have hw : IntKind.i64.wrap ((i : Int) + 1) = ((i : Int) + 1) := wrap_i64 (by omega) (by omega)
  have hw2 : IntKind.i64.wrap ((k : Int) + aU (l.take i) + 1) = (k : Int) + aU (l.take i) + 1 := wrap_i64 (by omega) (by omega)
  simp only [Int.natCast_add] at hm r1
  simp [r0, r1, r5, hi, hm, st, hw, hw2, -setRange]
  exact ⟨m, by omega, i + 1, by omega, _, _, ⟨rfl, rfl⟩, by simp [r0], by simp; omega, by simp, by simpa using g1, fun q hq => by rw [List.getElem?_set_ne (by rintro rfl; exact hq e6)]; exact g2 q hq, hre⟩
def uj (f : Nat) (sh : Sh) : Prop := ∀ (H : List Ob) (cs : List V) (u : U) (k : Nat), At H sh cs (mkV u k) → k + dI u ≤ 50000000 →
 callW C f [aG sh cs, .int .i64 k] H = some (.int .i64 ((k + dI u : Nat) : Int), H)
theorem lq : uj 278 (.slice .str) := by
 intro H cs u k h hk
 obtain ⟨v, l', rfl, hu, hlen, hv⟩ := ak.1 h
 obtain ⟨l, rfl, rfl⟩ := qo hu
 apply Ret.eq
 rw [Zq]
 simp only [dI] at hk ⊢
 have hl64 : (bM l k).length ≤ 9223372036854775807 := hlen
 rw [dV] at hl64
 have hvl := fun {e s b : Nat} {z : List V} => hv.len (e := e) (s := s) (b := b) (z := z)
 simp only [dV] at hvl
 simp [CJ, Tryz.f278, aG]
 refine aB (fun m σ => ∃ (i : Nat) (r : Nat → R), i + m = l.length ∧ σ = ⟨r, 0, H⟩ ∧ r 0 = .val v ∧ r 1 = .val (.int .i64 ((k + aU (l.take i) : Nat) : Int)) ∧ r 5 = .val (.int .i64 i)) ?_ l.length _ ⟨0, _, by simp, rfl, by simp, by simp [aU], by simp⟩
 rintro m σ ⟨i, r, him, rfl, r0, r1, r5⟩
 cases m with
 | zero =>
  have hi : i = l.length := by omega
  subst hi
  simp at r1
  simp [r0, r1, r5, hvl]
 | succ m =>
  have hi : i < l.length := by omega
  obtain ⟨x, hx⟩ : ∃ x, l[i]? = some x := ⟨l[i], by simp [hi]⟩
  obtain ⟨eid, o, own, cells, e1, e2, e3, e0⟩ := hv.idx (qK hx) (by decide)
  obtain ⟨s, e4, e5, e6⟩ := bP.1 e0
  obtain ⟨⟨t, rfl⟩, rfl⟩ := wE e5
  simp only [Sh.size_str] at e1
  have c0 : cells[o]? = some (.str (aQ (k + aU (l.take i)))) := by simpa using bF e4 (j := 0) rfl
  have ld := aY e2 c0
  have hid : eid < H.length := (List.getElem?_eq_some_iff.1 e2).1
  have hcnt := fV hx
  have hle := dO (l := l) (i := i + 1)
  simp only [dF] at hcnt
  have hm := jm (H := H) (k := k + aU (l.take i)) (by omega)
  have hw : IntKind.i64.wrap ((i : Int) + 1) = ((i : Int) + 1) := wrap_i64 (by omega) (by omega)
  have hw2 : IntKind.i64.wrap ((k : Int) + aU (l.take i) + 1) = (k : Int) + aU (l.take i) + 1 := wrap_i64 (by omega) (by omega)
  simp only [Int.natCast_add] at hm r1
  simp [r0, r1, r5, hi, hvl, e1, ld, hid, hm, hw, hw2]
  exact ⟨m, by omega, i + 1, by omega, by omega, by omega⟩
theorem Fp : Ic 41 (.slice shRdn) := by
 intro H cs u F k h hn hk
 obtain ⟨v, l, rfl, rfl, hlen, hv⟩ := aA.1 h
 have hv := (aA.2 ⟨v, l, rfl, rfl, hlen, hv⟩).at
 obtain ⟨_, _, hx1, hx2, _, hv⟩ := ak.1 hv
 cases hx1; cases hx2
 apply Ret.mark
 rw [aj2]
 simp only [dI] at hk
 have hl64 : l.length ≤ 9223372036854775807 := hlen
 simp [KI, Tryz.f41, aG, -setRange]
 refine aB (fun m σ => ∃ (i : Nat) (r : Nat → R) (G : List Ob), i + m = l.length ∧ σ = ⟨r, 0, G⟩ ∧ r 0 = .val v ∧ r 1 = .val (.int .i64 ((k + aU (l.take i) : Nat) : Int)) ∧ r 5 = .val (.int .i64 i) ∧ G.length = H.length ∧ (∀ q, q ∉ F → G[q]? = H[q]?) ∧ AtF G (.slice shRdn) [v] (.lst (bM (l.take i) k ++ l.drop i)) F) ?_ l.length _ ⟨0, _, H, by simp, rfl, by simp, by simp [aU], by simp, rfl, fun _ _ => rfl, by simpa [bM] using h⟩
 rintro m σ ⟨i, r, G, him, rfl, r0, r1, r5, g1, g2, g3⟩
 cases m with
 | zero =>
  have hi : i = l.length := by omega
  subst hi
  simp at g3
  simp [r0, r1, r5, hv.len, qj g1, dI, mkV]
  exact ⟨g1, g2, g3⟩
 | succ m =>
  have hi : i < l.length := by omega
  obtain ⟨x, hx⟩ : ∃ x, l[i]? = some x := ⟨l[i], by simp [hi]⟩
  have hx0 : (bM (l.take i) k ++ l.drop i)[i]? = some x := by rw [zJ hi, hx]
  have hmk := Aw (k := k) hx
  have hcnt := fV hx
  have hle := dO (l := l) (i := i + 1)
  have hL : (bM (l.take i) k ++ l.drop i).length = l.length := by simp [dV]; omega
  obtain ⟨L, hLd⟩ : ∃ L, L = bM (l.take i) k ++ l.drop i := ⟨_, rfl⟩
  rw [← hLd] at hx0 hmk hL g3
  clear hLd
  obtain ⟨id, off, cells, K, e0, e1, e2, e3, e4, e5, e6, e7, e8⟩ := AtF.elem g3 hn hx0
  clear e1 e2 e4 e5 e7 e8
  rw [hL] at e0
  subst e0
  generalize List.take (shRdn).size (List.drop (off + i * (shRdn).size) cells) = cc at e3
  replace e3 := dY.1 e3
  obtain ⟨us, rfl, e3⟩ := e3
  replace e3 := aC.1 e3
  obtain ⟨c0, d0, u0, rr0, F0, E0, rfl, rfl, rfl, h0, e3⟩ := e3
  replace e3 := aC.1 e3
  obtain ⟨c1, d1, u1, rr1, F1, E1, rfl, rfl, rfl, h1, e3⟩ := e3
  replace e3 := di.1 e3
  obtain ⟨rfl, rfl, rfl⟩ := e3
  replace h0 := dE.1 h0
  obtain ⟨⟨s0, rfl, rfl, w0⟩, rfl⟩ := h0
  replace h1 := dE.1 h1
  obtain ⟨⟨s1, rfl, rfl, w1⟩, rfl⟩ := h1
  simp only [dF, iT, jF, Nat.add_zero] at hcnt
  obtain ⟨kk, hkk⟩ : ∃ kk, kk = k + aU (l.take i) := ⟨_, rfl⟩
  rw [← hkk] at r1
  obtain ⟨id0, off0, cells0, w0, K0, ev0, eg0, ei0, ek0, ew0, ea0, en0, es0, er0, et0⟩ := AtF.field [] g3 hn (i := i) (us1 := []) (u := (.str s0)) (us2 := [(.str s1)]) hx0 rfl rfl
  simp only [V.slc.injEq, Option.some.injEq, Prod.mk.injEq] at ev0
  obtain ⟨⟨rfl, rfl⟩, _⟩ := ev0
  simp only [shRdn, Sh.size_st, Sh.sizes_cons, Sh.sizes_nil, Sh.size_str, Sh.size_slice, Sh.size_int, Sh.size_bool, List.cons_append, List.nil_append, Nat.reduceAdd, Nat.add_zero] at eg0 ew0 et0 er0
  obtain ⟨_, rfl⟩ := dE.1 ea0
  have q0 := jm (H := G) (k := kk) (by omega)
  have st0 := store1 (v := (.str (aQ kk))) eg0 (List.getElem?_eq_some_iff.1 ew0).1 rfl rfl
  have A0 := et0 (.str (aQ kk)) (.str (aQ kk)) (dE.2 ⟨⟨_, rfl, rfl, uX (by omega)⟩, rfl⟩)
  obtain ⟨G0, hG0⟩ : ∃ G', G' = G.set id (.mk true 2 (cells0.set (off + i * 2) (.str (aQ kk)))) := ⟨_, rfl⟩
  rw [← hG0] at st0 A0
  have ln0 : G0.length = H.length := by rw [hG0, List.length_set]; exact g1
  have fr0 : ∀ q, q ∉ F → G0[q]? = H[q]? := fun q hq => by rw [hG0, List.getElem?_set_ne (by rintro rfl; exact hq e6)]; exact g2 q hq
  clear hG0
  obtain ⟨kk0, hkk0⟩ : ∃ n, n = kk + 1 := ⟨_, rfl⟩
  have hw0 : IntKind.i64.wrap ((kk : Int) + 1) = (kk0 : Int) := by rw [wrap_i64 (by omega) (by omega)]; omega
  have hx0_ : (L.set i (.st [(.str (aQ kk)), (.str s1)]))[i]? = some (.st [(.str (aQ kk)), (.str s1)]) := List.getElem?_set_self (by omega)
  obtain ⟨id1, off1, cells1, w1, K1, ev1, eg1, ei1, ek1, ew1, ea1, en1, es1, er1, et1⟩ := AtF.field [.str] A0 hn (i := i) (us1 := [(.str (aQ kk))]) (u := (.str s1)) (us2 := []) hx0_ rfl rfl
  simp only [V.slc.injEq, Option.some.injEq, Prod.mk.injEq] at ev1
  obtain ⟨⟨rfl, rfl⟩, _⟩ := ev1
  simp only [shRdn, Sh.size_st, Sh.sizes_cons, Sh.sizes_nil, Sh.size_str, Sh.size_slice, Sh.size_int, Sh.size_bool, List.cons_append, List.nil_append, Nat.reduceAdd, Nat.add_zero] at eg1 ew1 et1 er1
  obtain ⟨_, rfl⟩ := dE.1 ea1
  have q1 := jm (H := G0) (k := kk0) (by omega)
  have st1 := store1 (v := (.str (aQ kk0))) eg1 (List.getElem?_eq_some_iff.1 ew1).1 rfl rfl
  have A1 := et1 (.str (aQ kk0)) (.str (aQ kk0)) (dE.2 ⟨⟨_, rfl, rfl, uX (by omega)⟩, rfl⟩)
  obtain ⟨G1, hG1⟩ : ∃ G', G' = G0.set id (.mk true 2 (cells1.set (off + i * 2 + 1) (.str (aQ kk0)))) := ⟨_, rfl⟩
  rw [← hG1] at st1 A1
  have ln1 : G1.length = H.length := by rw [hG1, List.length_set]; exact ln0
  have fr1 : ∀ q, q ∉ F → G1[q]? = H[q]? := fun q hq => by rw [hG1, List.getElem?_set_ne (by rintro rfl; exact hq e6)]; exact fr0 q hq
  clear hG1
  obtain ⟨kk1, hkk1⟩ : ∃ n, n = kk0 + 1 := ⟨_, rfl⟩
  have hw1 : IntKind.i64.wrap ((kk0 : Int) + 1) = (kk1 : Int) := by rw [wrap_i64 (by omega) (by omega)]; omega
  rw [List.set_set] at A1
  have hx1_ : (L.set i (.st [(.str (aQ kk)), (.str (aQ kk0))]))[i]? = some (.st [(.str (aQ kk)), (.str (aQ kk0))]) := List.getElem?_set_self (by omega)
  have hks : k + aU (l.take (i + 1)) = kk1 := by omega
  rw [show L.set i (.st [(.str (aQ kk)), (.str (aQ kk0))]) = _ from (by simp only [hkk0, hkk1, hkk]; exact hmk)] at A1
  have hw : IntKind.i64.wrap ((i : Int) + 1) = ((i : Int) + 1) := wrap_i64 (by omega) (by omega)
  have hix : i + 1 ≤ l.length := hi
  simp [r0, r1, r5, hi, hw, q0, st0, hw0, q1, st1, hw1, -setRange]
  exact ⟨m, by omega, i + 1, by omega, _, _, ⟨rfl, rfl⟩, by simp [r0], by simp; omega, by simp, ln1, fr1, A1⟩
theorem NV : uj 199 (.slice shRdn) := by
 intro H cs u k h hk
 obtain ⟨v, l', rfl, hu, hlen, hv⟩ := ak.1 h
 obtain ⟨l, rfl, rfl⟩ := qo hu
 apply Ret.eq
 rw [abN]
 simp only [dI] at hk ⊢
 have hl64 : (bM l k).length ≤ 9223372036854775807 := hlen
 rw [dV] at hl64
 have hvl := fun {e s b : Nat} {z : List V} => hv.len (e := e) (s := s) (b := b) (z := z)
 simp only [dV] at hvl
 simp [Dp, Tryz.f199, aG]
 refine aB (fun m σ => ∃ (i kk : Nat) (r : Nat → R), i + m = l.length ∧ kk = k + aU (l.take i) ∧ σ = ⟨r, 0, H⟩ ∧ r 0 = .val v ∧ r 1 = .val (.int .i64 kk) ∧ r 5 = .val (.int .i64 i)) ?_ l.length _ ⟨0, k, _, by simp, by simp [aU], rfl, by simp, by simp, by simp⟩
 rintro m σ ⟨i, kk, r, him, hkk, rfl, r0, r1, r5⟩
 cases m with
 | zero =>
  have hi : i = l.length := by omega
  subst hi
  rw [List.take_length] at hkk
  simp [r0, r1, r5, hvl, hkk]
 | succ m =>
  have hi : i < l.length := by omega
  obtain ⟨x, hx⟩ : ∃ x, l[i]? = some x := ⟨l[i], by simp [hi]⟩
  obtain ⟨eid, o, own, cells, e1, e2, e3, e0⟩ := hv.idx (qK hx) (by decide)
  rw [← hkk] at e0
  have hcnt := fV hx
  have hle := dO (l := l) (i := i + 1)
  have hid : eid < H.length := (List.getElem?_eq_some_iff.1 e2).1
  have hw : IntKind.i64.wrap ((i : Int) + 1) = ((i : Int) + 1) := wrap_i64 (by omega) (by omega)
  obtain ⟨us0, hu0, E0⟩ := df.1 e0
  obtain ⟨us0, rfl, rfl⟩ := Ef hu0
  obtain ⟨c0, d0, u0, rr0, hc0, hu, h0, E1⟩ := ai.1 E0
  obtain ⟨u0, us0, rfl, rfl, rfl⟩ := iG hu
  obtain ⟨s0, rfl, hs, _⟩ := bP.1 h0
  obtain ⟨⟨t0, rfl⟩, rfl⟩ := wE hs
  obtain ⟨kk1, hkk1⟩ : ∃ n, n = kk + dF (.str t0) := ⟨_, rfl⟩
  rw [← hkk1] at E1
  obtain ⟨c1, d1, u1, rr1, rfl, hu, h1, E2⟩ := ai.1 E1
  obtain ⟨u1, us0, rfl, rfl, rfl⟩ := iG hu
  obtain ⟨s1, rfl, hs, _⟩ := bP.1 h1
  obtain ⟨⟨t1, rfl⟩, rfl⟩ := wE hs
  obtain ⟨kk2, hkk2⟩ : ∃ n, n = kk1 + dF (.str t1) := ⟨_, rfl⟩
  rw [← hkk2] at E2
  obtain ⟨rfl, hun⟩ := aV.1 E2
  obtain rfl := vN hun
  simp only [List.cons_append, List.nil_append, List.append_nil] at hc0
  simp only [yT, iT, jF, wL, uC, rG, Nat.add_zero] at hcnt hkk1 hkk2
  have ld0 := aY e2 (by simpa using bF hc0 (j := 0) rfl)
  have hm0 := jm (H := H) (k := kk) (by omega)
  have hw0 : IntKind.i64.wrap ((kk : Int) + 1) = (kk1 : Int) := by rw [wrap_i64 (by omega) (by omega)]; omega
  have ld1 := aY e2 (by simpa using bF hc0 (j := 1) rfl)
  have hm1 := jm (H := H) (k := kk1) (by omega)
  have hw1 : IntKind.i64.wrap ((kk1 : Int) + 1) = (kk2 : Int) := by rw [wrap_i64 (by omega) (by omega)]; omega
  rw [show (shRdn).size = 2 from rfl] at e1
  simp [r0, r1, r5, hi, hvl, e1, hid, hw, ld0, hm0, hw0, ld1, hm1, hw1]
  exact ⟨m, by omega, i + 1, by omega, by omega, by omega⟩
theorem OD : Ic 197 (.slice shAttr) := by
 intro H cs u F k h hn hk
 obtain ⟨v, l, rfl, rfl, hlen, hv⟩ := aA.1 h
 have hv := (aA.2 ⟨v, l, rfl, rfl, hlen, hv⟩).at
 obtain ⟨_, _, hx1, hx2, _, hv⟩ := ak.1 hv
 cases hx1; cases hx2
 apply Ret.mark
 rw [aex]
 simp only [dI] at hk
 have hl64 : l.length ≤ 9223372036854775807 := hlen
 simp [Et, Tryz.f197, aG, -setRange]
 refine aB (fun m σ => ∃ (i : Nat) (r : Nat → R) (G : List Ob), i + m = l.length ∧ σ = ⟨r, 0, G⟩ ∧ r 0 = .val v ∧ r 1 = .val (.int .i64 ((k + aU (l.take i) : Nat) : Int)) ∧ r 5 = .val (.int .i64 i) ∧ G.length = H.length ∧ (∀ q, q ∉ F → G[q]? = H[q]?) ∧ AtF G (.slice shAttr) [v] (.lst (bM (l.take i) k ++ l.drop i)) F) ?_ l.length _ ⟨0, _, H, by simp, rfl, by simp, by simp [aU], by simp, rfl, fun _ _ => rfl, by simpa [bM] using h⟩
 rintro m σ ⟨i, r, G, him, rfl, r0, r1, r5, g1, g2, g3⟩
 cases m with
 | zero =>
  have hi : i = l.length := by omega
  subst hi
  simp at g3
  simp [r0, r1, r5, hv.len, qj g1, dI, mkV]
  exact ⟨g1, g2, g3⟩
 | succ m =>
  have hi : i < l.length := by omega
  obtain ⟨x, hx⟩ : ∃ x, l[i]? = some x := ⟨l[i], by simp [hi]⟩
  have hx0 : (bM (l.take i) k ++ l.drop i)[i]? = some x := by rw [zJ hi, hx]
  have hmk := Aw (k := k) hx
  have hcnt := fV hx
  have hle := dO (l := l) (i := i + 1)
  have hL : (bM (l.take i) k ++ l.drop i).length = l.length := by simp [dV]; omega
  obtain ⟨L, hLd⟩ : ∃ L, L = bM (l.take i) k ++ l.drop i := ⟨_, rfl⟩
  rw [← hLd] at hx0 hmk hL g3
  clear hLd
  obtain ⟨id, off, cells, K, e0, e1, e2, e3, e4, e5, e6, e7, e8⟩ := AtF.elem g3 hn hx0
  clear e1 e2 e4 e5 e7 e8
  rw [hL] at e0
  subst e0
  generalize List.take (shAttr).size (List.drop (off + i * (shAttr).size) cells) = cc at e3
  replace e3 := dY.1 e3
  obtain ⟨us, rfl, e3⟩ := e3
  replace e3 := aC.1 e3
  obtain ⟨c0, d0, u0, rr0, F0, E0, rfl, rfl, rfl, h0, e3⟩ := e3
  replace e3 := aC.1 e3
  obtain ⟨c1, d1, u1, rr1, F1, E1, rfl, rfl, rfl, h1, e3⟩ := e3
  replace e3 := di.1 e3
  obtain ⟨rfl, rfl, rfl⟩ := e3
  replace h0 := dE.1 h0
  obtain ⟨⟨s0, rfl, rfl, w0⟩, rfl⟩ := h0
  have k1 := h1
  replace h1 := aA.1 h1
  obtain ⟨v1, l1, rfl, rfl, w1, hv1⟩ := h1
  have o1 := (ak.1 (AtF.at _ k1))
  obtain ⟨_, _, x1, x2, _, o1⟩ := o1
  cases x1
  cases x2
  have o1 := o1.one
  simp only [dF, iT, jF, Nat.add_zero] at hcnt
  obtain ⟨kk, hkk⟩ : ∃ kk, kk = k + aU (l.take i) := ⟨_, rfl⟩
  rw [← hkk] at r1
  obtain ⟨id0, off0, cells0, w0, K0, ev0, eg0, ei0, ek0, ew0, ea0, en0, es0, er0, et0⟩ := AtF.field [] g3 hn (i := i) (us1 := []) (u := (.str s0)) (us2 := [(.lst l1)]) hx0 rfl rfl
  simp only [V.slc.injEq, Option.some.injEq, Prod.mk.injEq] at ev0
  obtain ⟨⟨rfl, rfl⟩, _⟩ := ev0
  simp only [shAttr, Sh.size_st, Sh.sizes_cons, Sh.sizes_nil, Sh.size_str, Sh.size_slice, Sh.size_int, Sh.size_bool, List.cons_append, List.nil_append, Nat.reduceAdd, Nat.add_zero] at eg0 ew0 et0 er0
  obtain ⟨_, rfl⟩ := dE.1 ea0
  have q0 := jm (H := G) (k := kk) (by omega)
  have st0 := store1 (v := (.str (aQ kk))) eg0 (List.getElem?_eq_some_iff.1 ew0).1 rfl rfl
  have A0 := et0 (.str (aQ kk)) (.str (aQ kk)) (dE.2 ⟨⟨_, rfl, rfl, uX (by omega)⟩, rfl⟩)
  obtain ⟨G0, hG0⟩ : ∃ G', G' = G.set id (.mk true 2 (cells0.set (off + i * 2) (.str (aQ kk)))) := ⟨_, rfl⟩
  rw [← hG0] at st0 A0
  have ln0 : G0.length = H.length := by rw [hG0, List.length_set]; exact g1
  have fr0 : ∀ q, q ∉ F → G0[q]? = H[q]? := fun q hq => by rw [hG0, List.getElem?_set_ne (by rintro rfl; exact hq e6)]; exact g2 q hq
  clear hG0
  obtain ⟨kk0, hkk0⟩ : ∃ n, n = kk + 1 := ⟨_, rfl⟩
  have hw0 : IntKind.i64.wrap ((kk : Int) + 1) = (kk0 : Int) := by rw [wrap_i64 (by omega) (by omega)]; omega
  have hx0_ : (L.set i (.st [(.str (aQ kk)), (.lst l1)]))[i]? = some (.st [(.str (aQ kk)), (.lst l1)]) := List.getElem?_set_self (by omega)
  obtain ⟨id1, off1, cells1, w1, K1, ev1, eg1, ei1, ek1, ew1, ea1, en1, es1, er1, et1⟩ := AtF.field [.str] A0 hn (i := i) (us1 := [(.str (aQ kk))]) (u := (.lst l1)) (us2 := []) hx0_ rfl rfl
  simp only [V.slc.injEq, Option.some.injEq, Prod.mk.injEq] at ev1
  obtain ⟨⟨rfl, rfl⟩, _⟩ := ev1
  simp only [shAttr, Sh.size_st, Sh.sizes_cons, Sh.sizes_nil, Sh.size_str, Sh.size_slice, Sh.size_int, Sh.size_bool, List.cons_append, List.nil_append, Nat.reduceAdd, Nat.add_zero] at eg1 ew1 et1 er1
  obtain ⟨G1, q1, ln1, fr1, ma1⟩ := pq G0 [w1] _ K1 kk0 ea1 en1 (by simp only [ik, dF]; omega)
  simp only [aG, List.headD_cons] at q1
  have ld1 := aY eg1 ew1
  have A1 := er1 G1 (.lst (bM l1 kk0)) (fun q _ hq => fr1 q hq) ma1
  have ln1 : G1.length = H.length := by rw [ln1]; first | exact g1 | exact ln0
  have fr1 : ∀ q, q ∉ F → G1[q]? = H[q]? := fun q hq => by rw [fr1 q fun h => hq (es1 q h)]; first | exact g2 q hq | exact fr0 q hq
  obtain ⟨kk1, hkk1⟩ : ∃ n, n = kk0 + dF (.lst l1) := ⟨_, rfl⟩
  rw [ik, ← hkk1] at q1
  simp only [dF] at hkk1
  rw [List.set_set] at A1
  have hx1_ : (L.set i (.st [(.str (aQ kk)), (.lst (bM l1 kk0))]))[i]? = some (.st [(.str (aQ kk)), (.lst (bM l1 kk0))]) := List.getElem?_set_self (by omega)
  have hks : k + aU (l.take (i + 1)) = kk1 := by omega
  rw [show L.set i (.st [(.str (aQ kk)), (.lst (bM l1 kk0))]) = _ from (by simp only [hkk0, hkk1, hkk]; exact hmk)] at A1
  have hw : IntKind.i64.wrap ((i : Int) + 1) = ((i : Int) + 1) := wrap_i64 (by omega) (by omega)
  have hix : i + 1 ≤ l.length := hi
  simp [r0, r1, r5, hi, hw, q0, st0, hw0, q1, ld1, -setRange]
  exact ⟨m, by omega, i + 1, by omega, _, _, ⟨rfl, rfl⟩, by simp [r0], by simp; omega, by simp, ln1, fr1, A1⟩
theorem Jg : uj 200 (.slice shAttr) := by
 intro H cs u k h hk
 obtain ⟨v, l', rfl, hu, hlen, hv⟩ := ak.1 h
 obtain ⟨l, rfl, rfl⟩ := qo hu
 apply Ret.eq
 rw [agz]
 simp only [dI] at hk ⊢
 have hl64 : (bM l k).length ≤ 9223372036854775807 := hlen
 rw [dV] at hl64
 have hvl := fun {e s b : Nat} {z : List V} => hv.len (e := e) (s := s) (b := b) (z := z)
 simp only [dV] at hvl
 simp [ES, Tryz.f200, aG]
 refine aB (fun m σ => ∃ (i kk : Nat) (r : Nat → R), i + m = l.length ∧ kk = k + aU (l.take i) ∧ σ = ⟨r, 0, H⟩ ∧ r 0 = .val v ∧ r 1 = .val (.int .i64 kk) ∧ r 5 = .val (.int .i64 i)) ?_ l.length _ ⟨0, k, _, by simp, by simp [aU], rfl, by simp, by simp, by simp⟩
 rintro m σ ⟨i, kk, r, him, hkk, rfl, r0, r1, r5⟩
 cases m with
 | zero =>
  have hi : i = l.length := by omega
  subst hi
  rw [List.take_length] at hkk
  simp [r0, r1, r5, hvl, hkk]
 | succ m =>
  have hi : i < l.length := by omega
  obtain ⟨x, hx⟩ : ∃ x, l[i]? = some x := ⟨l[i], by simp [hi]⟩
  obtain ⟨eid, o, own, cells, e1, e2, e3, e0⟩ := hv.idx (qK hx) (by decide)
  rw [← hkk] at e0
  have hcnt := fV hx
  have hle := dO (l := l) (i := i + 1)
  have hid : eid < H.length := (List.getElem?_eq_some_iff.1 e2).1
  have hw : IntKind.i64.wrap ((i : Int) + 1) = ((i : Int) + 1) := wrap_i64 (by omega) (by omega)
  obtain ⟨us0, hu0, E0⟩ := df.1 e0
  obtain ⟨us0, rfl, rfl⟩ := Ef hu0
  obtain ⟨c0, d0, u0, rr0, hc0, hu, h0, E1⟩ := ai.1 E0
  obtain ⟨u0, us0, rfl, rfl, rfl⟩ := iG hu
  obtain ⟨s0, rfl, hs, _⟩ := bP.1 h0
  obtain ⟨⟨t0, rfl⟩, rfl⟩ := wE hs
  obtain ⟨kk1, hkk1⟩ : ∃ n, n = kk + dF (.str t0) := ⟨_, rfl⟩
  rw [← hkk1] at E1
  obtain ⟨c1, d1, u1, rr1, rfl, hu, h1, E2⟩ := ai.1 E1
  obtain ⟨u1, us0, rfl, rfl, rfl⟩ := iG hu
  have k1 := h1
  obtain ⟨v1, l1, rfl, hs, _, _⟩ := ak.1 h1
  obtain ⟨m1, rfl, rfl⟩ := rX hs
  obtain ⟨kk2, hkk2⟩ : ∃ n, n = kk1 + dF (.lst m1) := ⟨_, rfl⟩
  rw [← hkk2] at E2
  obtain ⟨rfl, hun⟩ := aV.1 E2
  obtain rfl := vN hun
  simp only [List.cons_append, List.nil_append, List.append_nil] at hc0
  simp only [yT, iT, jF, wL, uC, rG, Nat.add_zero] at hcnt hkk1 hkk2
  have ld0 := aY e2 (by simpa using bF hc0 (j := 0) rfl)
  have hm0 := jm (H := H) (k := kk) (by omega)
  have hw0 : IntKind.i64.wrap ((kk : Int) + 1) = (kk1 : Int) := by rw [wrap_i64 (by omega) (by omega)]; omega
  have ld1 := aY e2 (by simpa using bF hc0 (j := 1) rfl)
  have q1 := lq H [v1] (.lst m1) kk1 k1 (by rw [ik]; omega)
  rw [ik, ← hkk2] at q1
  simp only [aG, List.headD_cons] at q1
  have p1 : ¬ ((kk2 : Int) < 0) := by omega
  rw [show (shAttr).size = 2 from rfl] at e1
  simp [r0, r1, r5, hi, hvl, e1, hid, hw, ld0, hm0, hw0, ld1, q1, p1]
  exact ⟨m, by omega, i + 1, by omega, by omega, by omega⟩
theorem Ny : Ic 107 (.slice bG) := by
 intro H cs u F k h hn hk
 obtain ⟨v, l, rfl, rfl, hlen, hv⟩ := aA.1 h
 have hv := (aA.2 ⟨v, l, rfl, rfl, hlen, hv⟩).at
 obtain ⟨_, _, hx1, hx2, _, hv⟩ := ak.1 hv
 cases hx1; cases hx2
 apply Ret.mark
 rw [Zw]
 simp only [dI] at hk
 have hl64 : l.length ≤ 9223372036854775807 := hlen
 simp [Di, Tryz.f107, aG, -setRange]
 refine aB (fun m σ => ∃ (i : Nat) (r : Nat → R) (G : List Ob), i + m = l.length ∧ σ = ⟨r, 0, G⟩ ∧ r 0 = .val v ∧ r 1 = .val (.int .i64 ((k + aU (l.take i) : Nat) : Int)) ∧ r 5 = .val (.int .i64 i) ∧ G.length = H.length ∧ (∀ q, q ∉ F → G[q]? = H[q]?) ∧ AtF G (.slice bG) [v] (.lst (bM (l.take i) k ++ l.drop i)) F) ?_ l.length _ ⟨0, _, H, by simp, rfl, by simp, by simp [aU], by simp, rfl, fun _ _ => rfl, by simpa [bM] using h⟩
 rintro m σ ⟨i, r, G, him, rfl, r0, r1, r5, g1, g2, g3⟩
 cases m with
 | zero =>
  have hi : i = l.length := by omega
  subst hi
  simp at g3
  simp [r0, r1, r5, hv.len, qj g1, dI, mkV]
  exact ⟨g1, g2, g3⟩
 | succ m =>
  have hi : i < l.length := by omega
  obtain ⟨x, hx⟩ : ∃ x, l[i]? = some x := ⟨l[i], by simp [hi]⟩
  have hx0 : (bM (l.take i) k ++ l.drop i)[i]? = some x := by rw [zJ hi, hx]
  have hmk := Aw (k := k) hx
  have hcnt := fV hx
  have hle := dO (l := l) (i := i + 1)
  have hL : (bM (l.take i) k ++ l.drop i).length = l.length := by simp [dV]; omega
  obtain ⟨L, hLd⟩ : ∃ L, L = bM (l.take i) k ++ l.drop i := ⟨_, rfl⟩
  rw [← hLd] at hx0 hmk hL g3
  clear hLd
  obtain ⟨id, off, cells, K, e0, e1, e2, e3, e4, e5, e6, e7, e8⟩ := AtF.elem g3 hn hx0
  clear e1 e2 e4 e5 e7 e8
  rw [hL] at e0
  subst e0
  generalize List.take (bG).size (List.drop (off + i * (bG).size) cells) = cc at e3
  replace e3 := dY.1 e3
  obtain ⟨us, rfl, e3⟩ := e3
  replace e3 := aC.1 e3
  obtain ⟨c0, d0, u0, rr0, F0, E0, rfl, rfl, rfl, h0, e3⟩ := e3
  replace e3 := aC.1 e3
  obtain ⟨c1, d1, u1, rr1, F1, E1, rfl, rfl, rfl, h1, e3⟩ := e3
  replace e3 := aC.1 e3
  obtain ⟨c2, d2, u2, rr2, F2, E2, rfl, rfl, rfl, h2, e3⟩ := e3
  replace e3 := aC.1 e3
  obtain ⟨c3, d3, u3, rr3, F3, E3, rfl, rfl, rfl, h3, e3⟩ := e3
  replace e3 := di.1 e3
  obtain ⟨rfl, rfl, rfl⟩ := e3
  replace h0 := dE.1 h0
  obtain ⟨⟨s0, rfl, rfl, w0⟩, rfl⟩ := h0
  have k1 := h1
  replace h1 := aA.1 h1
  obtain ⟨v1, l1, rfl, rfl, w1, hv1⟩ := h1
  have o1 := (ak.1 (AtF.at _ k1))
  obtain ⟨_, _, x1, x2, _, o1⟩ := o1
  cases x1
  cases x2
  have o1 := o1.one
  have k2 := h2
  replace h2 := aA.1 h2
  obtain ⟨v2, l2, rfl, rfl, w2, hv2⟩ := h2
  have o2 := (ak.1 (AtF.at _ k2))
  obtain ⟨_, _, x1, x2, _, o2⟩ := o2
  cases x1
  cases x2
  have o2 := o2.one
  have k3 := h3
  replace h3 := aA.1 h3
  obtain ⟨v3, l3, rfl, rfl, w3, hv3⟩ := h3
  have o3 := (ak.1 (AtF.at _ k3))
  obtain ⟨_, _, x1, x2, _, o3⟩ := o3
  cases x1
  cases x2
  have o3 := o3.one
  simp only [dF, iT, jF, Nat.add_zero] at hcnt
  obtain ⟨kk, hkk⟩ : ∃ kk, kk = k + aU (l.take i) := ⟨_, rfl⟩
  rw [← hkk] at r1
  obtain ⟨id0, off0, cells0, w0, K0, ev0, eg0, ei0, ek0, ew0, ea0, en0, es0, er0, et0⟩ := AtF.field [] g3 hn (i := i) (us1 := []) (u := (.str s0)) (us2 := [(.lst l1), (.lst l2), (.lst l3)]) hx0 rfl rfl
  simp only [V.slc.injEq, Option.some.injEq, Prod.mk.injEq] at ev0
  obtain ⟨⟨rfl, rfl⟩, _⟩ := ev0
  simp only [bG, Sh.size_st, Sh.sizes_cons, Sh.sizes_nil, Sh.size_str, Sh.size_slice, Sh.size_int, Sh.size_bool, List.cons_append, List.nil_append, Nat.reduceAdd, Nat.add_zero] at eg0 ew0 et0 er0
  obtain ⟨_, rfl⟩ := dE.1 ea0
  have q0 := jm (H := G) (k := kk) (by omega)
  have st0 := store1 (v := (.str (aQ kk))) eg0 (List.getElem?_eq_some_iff.1 ew0).1 rfl rfl
  have A0 := et0 (.str (aQ kk)) (.str (aQ kk)) (dE.2 ⟨⟨_, rfl, rfl, uX (by omega)⟩, rfl⟩)
  obtain ⟨G0, hG0⟩ : ∃ G', G' = G.set id (.mk true 4 (cells0.set (off + i * 4) (.str (aQ kk)))) := ⟨_, rfl⟩
  rw [← hG0] at st0 A0
  have ln0 : G0.length = H.length := by rw [hG0, List.length_set]; exact g1
  have fr0 : ∀ q, q ∉ F → G0[q]? = H[q]? := fun q hq => by rw [hG0, List.getElem?_set_ne (by rintro rfl; exact hq e6)]; exact g2 q hq
  clear hG0
  obtain ⟨kk0, hkk0⟩ : ∃ n, n = kk + 1 := ⟨_, rfl⟩
  have hw0 : IntKind.i64.wrap ((kk : Int) + 1) = (kk0 : Int) := by rw [wrap_i64 (by omega) (by omega)]; omega
  have hx0_ : (L.set i (.st [(.str (aQ kk)), (.lst l1), (.lst l2), (.lst l3)]))[i]? = some (.st [(.str (aQ kk)), (.lst l1), (.lst l2), (.lst l3)]) := List.getElem?_set_self (by omega)
  obtain ⟨id1, off1, cells1, w1, K1, ev1, eg1, ei1, ek1, ew1, ea1, en1, es1, er1, et1⟩ := AtF.field [.str] A0 hn (i := i) (us1 := [(.str (aQ kk))]) (u := (.lst l1)) (us2 := [(.lst l2), (.lst l3)]) hx0_ rfl rfl
  simp only [V.slc.injEq, Option.some.injEq, Prod.mk.injEq] at ev1
  obtain ⟨⟨rfl, rfl⟩, _⟩ := ev1
  simp only [bG, Sh.size_st, Sh.sizes_cons, Sh.sizes_nil, Sh.size_str, Sh.size_slice, Sh.size_int, Sh.size_bool, List.cons_append, List.nil_append, Nat.reduceAdd, Nat.add_zero] at eg1 ew1 et1 er1
  obtain ⟨G1, q1, ln1, fr1, ma1⟩ := pq G0 [w1] _ K1 kk0 ea1 en1 (by simp only [ik, dF]; omega)
  simp only [aG, List.headD_cons] at q1
  have ld1 := aY eg1 ew1
  have A1 := er1 G1 (.lst (bM l1 kk0)) (fun q _ hq => fr1 q hq) ma1
  have ln1 : G1.length = H.length := by rw [ln1]; first | exact g1 | exact ln0
  have fr1 : ∀ q, q ∉ F → G1[q]? = H[q]? := fun q hq => by rw [fr1 q fun h => hq (es1 q h)]; first | exact g2 q hq | exact fr0 q hq
  obtain ⟨kk1, hkk1⟩ : ∃ n, n = kk0 + dF (.lst l1) := ⟨_, rfl⟩
  rw [ik, ← hkk1] at q1
  simp only [dF] at hkk1
  rw [List.set_set] at A1
  have hx1_ : (L.set i (.st [(.str (aQ kk)), (.lst (bM l1 kk0)), (.lst l2), (.lst l3)]))[i]? = some (.st [(.str (aQ kk)), (.lst (bM l1 kk0)), (.lst l2), (.lst l3)]) := List.getElem?_set_self (by omega)
  obtain ⟨id2, off2, cells2, w2, K2, ev2, eg2, ei2, ek2, ew2, ea2, en2, es2, er2, et2⟩ := AtF.field [.str, (.slice .str)] A1 hn (i := i) (us1 := [(.str (aQ kk)), (.lst (bM l1 kk0))]) (u := (.lst l2)) (us2 := [(.lst l3)]) hx1_ rfl rfl
  simp only [V.slc.injEq, Option.some.injEq, Prod.mk.injEq] at ev2
  obtain ⟨⟨rfl, rfl⟩, _⟩ := ev2
  simp only [bG, Sh.size_st, Sh.sizes_cons, Sh.sizes_nil, Sh.size_str, Sh.size_slice, Sh.size_int, Sh.size_bool, List.cons_append, List.nil_append, Nat.reduceAdd, Nat.add_zero] at eg2 ew2 et2 er2
  obtain ⟨G2, q2, ln2, fr2, ma2⟩ := pq G1 [w2] _ K2 kk1 ea2 en2 (by simp only [ik, dF]; omega)
  simp only [aG, List.headD_cons] at q2
  have ld2 := aY eg2 ew2
  have A2 := er2 G2 (.lst (bM l2 kk1)) (fun q _ hq => fr2 q hq) ma2
  have ln2 : G2.length = H.length := by rw [ln2]; first | exact g1 | exact ln1
  have fr2 : ∀ q, q ∉ F → G2[q]? = H[q]? := fun q hq => by rw [fr2 q fun h => hq (es2 q h)]; first | exact g2 q hq | exact fr1 q hq
  obtain ⟨kk2, hkk2⟩ : ∃ n, n = kk1 + dF (.lst l2) := ⟨_, rfl⟩
  rw [ik, ← hkk2] at q2
  simp only [dF] at hkk2
  rw [List.set_set] at A2
  have hx2_ : (L.set i (.st [(.str (aQ kk)), (.lst (bM l1 kk0)), (.lst (bM l2 kk1)), (.lst l3)]))[i]? = some (.st [(.str (aQ kk)), (.lst (bM l1 kk0)), (.lst (bM l2 kk1)), (.lst l3)]) := List.getElem?_set_self (by omega)
  obtain ⟨id3, off3, cells3, w3, K3, ev3, eg3, ei3, ek3, ew3, ea3, en3, es3, er3, et3⟩ := AtF.field [.str, (.slice .str), (.slice .str)] A2 hn (i := i) (us1 := [(.str (aQ kk)), (.lst (bM l1 kk0)), (.lst (bM l2 kk1))]) (u := (.lst l3)) (us2 := []) hx2_ rfl rfl
  simp only [V.slc.injEq, Option.some.injEq, Prod.mk.injEq] at ev3
  obtain ⟨⟨rfl, rfl⟩, _⟩ := ev3
  simp only [bG, Sh.size_st, Sh.sizes_cons, Sh.sizes_nil, Sh.size_str, Sh.size_slice, Sh.size_int, Sh.size_bool, List.cons_append, List.nil_append, Nat.reduceAdd, Nat.add_zero] at eg3 ew3 et3 er3
  obtain ⟨G3, q3, ln3, fr3, ma3⟩ := pq G2 [w3] _ K3 kk2 ea3 en3 (by simp only [ik, dF]; omega)
  simp only [aG, List.headD_cons] at q3
  have ld3 := aY eg3 ew3
  have A3 := er3 G3 (.lst (bM l3 kk2)) (fun q _ hq => fr3 q hq) ma3
  have ln3 : G3.length = H.length := by rw [ln3]; first | exact g1 | exact ln2
  have fr3 : ∀ q, q ∉ F → G3[q]? = H[q]? := fun q hq => by rw [fr3 q fun h => hq (es3 q h)]; first | exact g2 q hq | exact fr2 q hq
  obtain ⟨kk3, hkk3⟩ : ∃ n, n = kk2 + dF (.lst l3) := ⟨_, rfl⟩
  rw [ik, ← hkk3] at q3
  simp only [dF] at hkk3
  rw [List.set_set] at A3
  have hx3_ : (L.set i (.st [(.str (aQ kk)), (.lst (bM l1 kk0)), (.lst (bM l2 kk1)), (.lst (bM l3 kk2))]))[i]? = some (.st [(.str (aQ kk)), (.lst (bM l1 kk0)), (.lst (bM l2 kk1)), (.lst (bM l3 kk2))]) := List.getElem?_set_self (by omega)
  have hks : k + aU (l.take (i + 1)) = kk3 := by omega
  rw [show L.set i (.st [(.str (aQ kk)), (.lst (bM l1 kk0)), (.lst (bM l2 kk1)), (.lst (bM l3 kk2))]) = _ from (by simp only [hkk0, hkk1, hkk2, hkk3, hkk]; exact hmk)] at A3
  have hw : IntKind.i64.wrap ((i : Int) + 1) = ((i : Int) + 1) := wrap_i64 (by omega) (by omega)
  have hix : i + 1 ≤ l.length := hi
  simp [r0, r1, r5, hi, hw, q0, st0, hw0, q1, ld1, q2, ld2, q3, ld3, -setRange]
  exact ⟨m, by omega, i + 1, by omega, _, _, ⟨rfl, rfl⟩, by simp [r0], by simp; omega, by simp, ln3, fr3, A3⟩
theorem IP : uj 198 (.slice bG) := by
 intro H cs u k h hk
 obtain ⟨v, l', rfl, hu, hlen, hv⟩ := ak.1 h
 obtain ⟨l, rfl, rfl⟩ := qo hu
 apply Ret.eq
 rw [Zd]
 simp only [dI] at hk ⊢
 have hl64 : (bM l k).length ≤ 9223372036854775807 := hlen
 rw [dV] at hl64
 have hvl := fun {e s b : Nat} {z : List V} => hv.len (e := e) (s := s) (b := b) (z := z)
 simp only [dV] at hvl
 simp [FB, Tryz.f198, aG]
 refine aB (fun m σ => ∃ (i kk : Nat) (r : Nat → R), i + m = l.length ∧ kk = k + aU (l.take i) ∧ σ = ⟨r, 0, H⟩ ∧ r 0 = .val v ∧ r 1 = .val (.int .i64 kk) ∧ r 5 = .val (.int .i64 i)) ?_ l.length _ ⟨0, k, _, by simp, by simp [aU], rfl, by simp, by simp, by simp⟩
 rintro m σ ⟨i, kk, r, him, hkk, rfl, r0, r1, r5⟩
 cases m with
 | zero =>
  have hi : i = l.length := by omega
  subst hi
  rw [List.take_length] at hkk
  simp [r0, r1, r5, hvl, hkk]
 | succ m =>
  have hi : i < l.length := by omega
  obtain ⟨x, hx⟩ : ∃ x, l[i]? = some x := ⟨l[i], by simp [hi]⟩
  obtain ⟨eid, o, own, cells, e1, e2, e3, e0⟩ := hv.idx (qK hx) (by decide)
  rw [← hkk] at e0
  have hcnt := fV hx
  have hle := dO (l := l) (i := i + 1)
  have hid : eid < H.length := (List.getElem?_eq_some_iff.1 e2).1
  have hw : IntKind.i64.wrap ((i : Int) + 1) = ((i : Int) + 1) := wrap_i64 (by omega) (by omega)
  obtain ⟨us0, hu0, E0⟩ := df.1 e0
  obtain ⟨us0, rfl, rfl⟩ := Ef hu0
  obtain ⟨c0, d0, u0, rr0, hc0, hu, h0, E1⟩ := ai.1 E0
  obtain ⟨u0, us0, rfl, rfl, rfl⟩ := iG hu
  obtain ⟨s0, rfl, hs, _⟩ := bP.1 h0
  obtain ⟨⟨t0, rfl⟩, rfl⟩ := wE hs
  obtain ⟨kk1, hkk1⟩ : ∃ n, n = kk + dF (.str t0) := ⟨_, rfl⟩
  rw [← hkk1] at E1
  obtain ⟨c1, d1, u1, rr1, rfl, hu, h1, E2⟩ := ai.1 E1
  obtain ⟨u1, us0, rfl, rfl, rfl⟩ := iG hu
  have k1 := h1
  obtain ⟨v1, l1, rfl, hs, _, _⟩ := ak.1 h1
  obtain ⟨m1, rfl, rfl⟩ := rX hs
  obtain ⟨kk2, hkk2⟩ : ∃ n, n = kk1 + dF (.lst m1) := ⟨_, rfl⟩
  rw [← hkk2] at E2
  obtain ⟨c2, d2, u2, rr2, rfl, hu, h2, E3⟩ := ai.1 E2
  obtain ⟨u2, us0, rfl, rfl, rfl⟩ := iG hu
  have k2 := h2
  obtain ⟨v2, l2, rfl, hs, _, _⟩ := ak.1 h2
  obtain ⟨m2, rfl, rfl⟩ := rX hs
  obtain ⟨kk3, hkk3⟩ : ∃ n, n = kk2 + dF (.lst m2) := ⟨_, rfl⟩
  rw [← hkk3] at E3
  obtain ⟨c3, d3, u3, rr3, rfl, hu, h3, E4⟩ := ai.1 E3
  obtain ⟨u3, us0, rfl, rfl, rfl⟩ := iG hu
  have k3 := h3
  obtain ⟨v3, l3, rfl, hs, _, _⟩ := ak.1 h3
  obtain ⟨m3, rfl, rfl⟩ := rX hs
  obtain ⟨kk4, hkk4⟩ : ∃ n, n = kk3 + dF (.lst m3) := ⟨_, rfl⟩
  rw [← hkk4] at E4
  obtain ⟨rfl, hun⟩ := aV.1 E4
  obtain rfl := vN hun
  simp only [List.cons_append, List.nil_append, List.append_nil] at hc0
  simp only [yT, iT, jF, wL, uC, rG, Nat.add_zero] at hcnt hkk1 hkk2 hkk3 hkk4
  have ld0 := aY e2 (by simpa using bF hc0 (j := 0) rfl)
  have hm0 := jm (H := H) (k := kk) (by omega)
  have hw0 : IntKind.i64.wrap ((kk : Int) + 1) = (kk1 : Int) := by rw [wrap_i64 (by omega) (by omega)]; omega
  have ld1 := aY e2 (by simpa using bF hc0 (j := 1) rfl)
  have q1 := lq H [v1] (.lst m1) kk1 k1 (by rw [ik]; omega)
  rw [ik, ← hkk2] at q1
  simp only [aG, List.headD_cons] at q1
  have p1 : ¬ ((kk2 : Int) < 0) := by omega
  have ld2 := aY e2 (by simpa using bF hc0 (j := 2) rfl)
  have q2 := lq H [v2] (.lst m2) kk2 k2 (by rw [ik]; omega)
  rw [ik, ← hkk3] at q2
  simp only [aG, List.headD_cons] at q2
  have p2 : ¬ ((kk3 : Int) < 0) := by omega
  have ld3 := aY e2 (by simpa using bF hc0 (j := 3) rfl)
  have q3 := lq H [v3] (.lst m3) kk3 k3 (by rw [ik]; omega)
  rw [ik, ← hkk4] at q3
  simp only [aG, List.headD_cons] at q3
  have p3 : ¬ ((kk4 : Int) < 0) := by omega
  rw [show (bG).size = 4 from rfl] at e1
  simp [r0, r1, r5, hi, hvl, e1, hid, hw, ld0, hm0, hw0, ld1, q1, p1, ld2, q2, p2, ld3, q3, p3]
  exact ⟨m, by omega, i + 1, by omega, by omega, by omega⟩

end Go.Proofs.Try1
end
