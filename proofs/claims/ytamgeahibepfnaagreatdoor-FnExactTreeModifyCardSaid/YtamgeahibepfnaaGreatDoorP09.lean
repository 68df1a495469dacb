/- Part 09 of the proof of a law: the interpreter, its soundness, and what functions of the program compute over it. Conditions: none but those that each theorem names. -/
import Derived.Test.YtamgeahibepfnaaGreatDoorP08
import Derived.Test.YtamgeahibepfnaaGreatDoorP07
import Derived.Test.YtamgeahibepfnaaGreatDoorP06

set_option linter.all false
set_option maxRecDepth 20000
set_option maxHeartbeats 40000000
section
namespace Go.Proofs.Try1
open Go Go.Lite
theorem Wp : wR 45 shRdn := by
 intro H cs u left h hleft
 replace h := bV.1 h
 obtain ⟨us, rfl, h⟩ := h
 replace h := ag.1 h
 obtain ⟨c0, d0, u0, rr0, rfl, rfl, h0, h⟩ := h
 replace h := ag.1 h
 obtain ⟨c1, d1, u1, rr1, rfl, rfl, h1, h⟩ := h
 replace h := aO.1 h
 obtain ⟨rfl, rfl⟩ := h
 replace h0 := bn.1 h0
 obtain ⟨s0, rfl, rfl, w0⟩ := h0
 replace h1 := bn.1 h1
 obtain ⟨s1, rfl, rfl, w1⟩ := h1
 by_cases g0 : s0.length ≤ left
 rotate_left
 ·have q0 : IntKind.i64.wrap (((left : Nat) : Int) - s0.length) = ((left : Nat) : Int) - s0.length := wrap_i64 (by have : s0.length ≤ 9223372036854775807 := w0; omega) (by omega)
  have p0 : ((left : Nat) : Int) - s0.length < 0 := by omega
  have hT : ¬ wt (U.st [(.str s0), (.str s1)]) ≤ left := by simp only [fG, bQ, bY, dH, dJ, bZ]; omega
  rw [if_neg hT]
  apply Ret.eq
  rw [VZ]
  simp [zZ, Tryz.f45, aG, q0, p0]
 have q0 : IntKind.i64.wrap (((left : Nat) : Int) - s0.length) = ((left - s0.length : Nat) : Int) := by rw [wrap_i64 (by omega) (by omega)]; omega
 have p0 : ¬ (((left - s0.length : Nat) : Int) < 0) := by omega
 by_cases g1 : s1.length ≤ left - s0.length
 rotate_left
 ·have q1 : IntKind.i64.wrap (((left - s0.length : Nat) : Int) - s1.length) = ((left - s0.length : Nat) : Int) - s1.length := wrap_i64 (by have : s1.length ≤ 9223372036854775807 := w1; omega) (by omega)
  have p1 : ((left - s0.length : Nat) : Int) - s1.length < 0 := by omega
  have hT : ¬ wt (U.st [(.str s0), (.str s1)]) ≤ left := by simp only [fG, bQ, bY, dH, dJ, bZ]; omega
  rw [if_neg hT]
  apply Ret.eq
  rw [VZ]
  simp [zZ, Tryz.f45, aG, q0, p0, q1, p1]
 have q1 : IntKind.i64.wrap (((left - s0.length : Nat) : Int) - s1.length) = ((left - s0.length - s1.length : Nat) : Int) := by rw [wrap_i64 (by omega) (by omega)]; omega
 have p1 : ¬ (((left - s0.length - s1.length : Nat) : Int) < 0) := by omega
 have hT : wt (U.st [(.str s0), (.str s1)]) ≤ left := by simp only [fG, bQ, bY, dH, dJ, bZ]; omega
 have hE : left - wt (U.st [(.str s0), (.str s1)]) = left - s0.length - s1.length := by simp only [fG, bQ, bY, dH, dJ, bZ]; omega
 rw [if_pos hT, hE]
 apply Ret.eq
 rw [VZ]
 simp [zZ, Tryz.f45, aG, q0, p0, q1, p1]
theorem MJ : wR 29 (.slice shRdn) :=
 Hr (f := 29) (g := 45) (tS := 22) (tE := 99) (F := Tryz.f29) (jL (c := xE) (by kernel_rfl) aok) rfl ae6 (by rw [OC]; rfl) (by rw [OC]; rfl) (by rw [OC]; decide) Wp
theorem Vk : wR 130 shAttr := by
 intro H cs u left h hleft
 replace h := bV.1 h
 obtain ⟨us, rfl, h⟩ := h
 replace h := ag.1 h
 obtain ⟨c0, d0, u0, rr0, rfl, rfl, h0, h⟩ := h
 replace h := ag.1 h
 obtain ⟨c1, d1, u1, rr1, rfl, rfl, h1, h⟩ := h
 replace h := aO.1 h
 obtain ⟨rfl, rfl⟩ := h
 replace h0 := bn.1 h0
 obtain ⟨s0, rfl, rfl, w0⟩ := h0
 have k1 := h1
 replace h1 := aj.1 h1
 obtain ⟨v1, l1, rfl, rfl, w1, hv1⟩ := h1
 have o1 := hv1.one
 by_cases g0 : s0.length ≤ left
 rotate_left
 ·have q0 : IntKind.i64.wrap (((left : Nat) : Int) - s0.length) = ((left : Nat) : Int) - s0.length := wrap_i64 (by have : s0.length ≤ 9223372036854775807 := w0; omega) (by omega)
  have p0 : ((left : Nat) : Int) - s0.length < 0 := by omega
  have hT : ¬ wt (U.st [(.str s0), (.lst l1)]) ≤ left := by simp only [fG, bQ, bY, dH, dJ, bZ]; omega
  rw [if_neg hT]
  apply Ret.eq
  rw [PM]
  simp [vC, Tryz.f130, aG, q0, p0, o1]
 have q0 : IntKind.i64.wrap (((left : Nat) : Int) - s0.length) = ((left - s0.length : Nat) : Int) := by rw [wrap_i64 (by omega) (by omega)]; omega
 have p0 : ¬ (((left - s0.length : Nat) : Int) < 0) := by omega
 have q1 := ni H _ _ (left - s0.length) k1 (by omega)
 simp only [aG, List.headD_cons, List.append_nil, List.cons_append, List.nil_append] at q1
 by_cases g1 : wt (.lst l1) ≤ left - s0.length
 rotate_left
 ·rw [if_neg g1] at q1
  have hT : ¬ wt (U.st [(.str s0), (.lst l1)]) ≤ left := by simp only [fG, bQ, bY, dH, dJ, bZ]; omega
  rw [if_neg hT]
  apply Ret.eq
  rw [PM]
  simp [vC, Tryz.f130, aG, q0, p0, q1, o1]
 rw [if_pos g1] at q1
 have p1 : ¬ (((left - s0.length - wt (.lst l1) : Nat) : Int) < 0) := by omega
 have hT : wt (U.st [(.str s0), (.lst l1)]) ≤ left := by simp only [fG, bQ, bY, dH, dJ, bZ]; omega
 have hE : left - wt (U.st [(.str s0), (.lst l1)]) = left - s0.length - wt (.lst l1) := by simp only [fG, bQ, bY, dH, dJ, bZ]; omega
 rw [if_pos hT, hE]
 apply Ret.eq
 rw [PM]
 simp [vC, Tryz.f130, aG, q0, p0, q1, p1, o1]
theorem PT : wR 56 (.slice shAttr) :=
 Hr (f := 56) (g := 130) (tS := 27) (tE := 178) (F := Tryz.f56) (jL (c := LJ) (by kernel_rfl) aoN) rfl adJ (by rw [CW]; rfl) (by rw [CW]; rfl) (by rw [CW]; decide) Vk
theorem Rj : wR 10 shEntry := by
 intro H cs u left h hleft
 replace h := bV.1 h
 obtain ⟨us, rfl, h⟩ := h
 replace h := ag.1 h
 obtain ⟨c0, d0, u0, rr0, rfl, rfl, h0, h⟩ := h
 replace h := ag.1 h
 obtain ⟨c1, d1, u1, rr1, rfl, rfl, h1, h⟩ := h
 replace h := aO.1 h
 obtain ⟨rfl, rfl⟩ := h
 have k0 := h0
 replace h0 := aj.1 h0
 obtain ⟨v0, l0, rfl, rfl, w0, hv0⟩ := h0
 have o0 := hv0.one
 have k1 := h1
 replace h1 := aj.1 h1
 obtain ⟨v1, l1, rfl, rfl, w1, hv1⟩ := h1
 have o1 := hv1.one
 have q0 := MJ H _ _ (left) k0 (by omega)
 simp only [aG, List.headD_cons, List.append_nil, List.cons_append, List.nil_append] at q0
 by_cases g0 : wt (.lst l0) ≤ left
 rotate_left
 ·rw [if_neg g0] at q0
  have hT : ¬ wt (U.st [(.lst l0), (.lst l1)]) ≤ left := by simp only [fG, bQ, bY, dH, dJ, bZ]; omega
  rw [if_neg hT]
  apply Ret.eq
  rw [VK]
  simp [AB, Tryz.f10, aG, q0, o0, o1]
 rw [if_pos g0] at q0
 have p0 : ¬ (((left - wt (.lst l0) : Nat) : Int) < 0) := by omega
 have q1 := PT H _ _ (left - wt (.lst l0)) k1 (by omega)
 simp only [aG, List.headD_cons, List.append_nil, List.cons_append, List.nil_append] at q1
 by_cases g1 : wt (.lst l1) ≤ left - wt (.lst l0)
 rotate_left
 ·rw [if_neg g1] at q1
  have hT : ¬ wt (U.st [(.lst l0), (.lst l1)]) ≤ left := by simp only [fG, bQ, bY, dH, dJ, bZ]; omega
  rw [if_neg hT]
  apply Ret.eq
  rw [VK]
  simp [AB, Tryz.f10, aG, q0, p0, q1, o0, o1]
 rw [if_pos g1] at q1
 have p1 : ¬ (((left - wt (.lst l0) - wt (.lst l1) : Nat) : Int) < 0) := by omega
 have hT : wt (U.st [(.lst l0), (.lst l1)]) ≤ left := by simp only [fG, bQ, bY, dH, dJ, bZ]; omega
 have hE : left - wt (U.st [(.lst l0), (.lst l1)]) = left - wt (.lst l0) - wt (.lst l1) := by simp only [fG, bQ, bY, dH, dJ, bZ]; omega
 rw [if_pos hT, hE]
 apply Ret.eq
 rw [VK]
 simp [AB, Tryz.f10, aG, q0, p0, q1, p1, o0, o1]
theorem Ph : wR 87 (.slice shEntry) :=
 Hr (f := 87) (g := 10) (tS := 56) (tE := 29) (F := Tryz.f87) (jL (c := JK) (by kernel_rfl) aos) rfl aaH (by rw [Ol]; rfl) (by rw [Ol]; rfl) (by rw [Ol]; decide) Rj
theorem Qg : wR 183 bz := by
 intro H cs u left h hleft
 replace h := bV.1 h
 obtain ⟨us, rfl, h⟩ := h
 replace h := ag.1 h
 obtain ⟨c0, d0, u0, rr0, rfl, rfl, h0, h⟩ := h
 replace h := ag.1 h
 obtain ⟨c1, d1, u1, rr1, rfl, rfl, h1, h⟩ := h
 replace h := ag.1 h
 obtain ⟨c2, d2, u2, rr2, rfl, rfl, h2, h⟩ := h
 replace h := ag.1 h
 obtain ⟨c3, d3, u3, rr3, rfl, rfl, h3, h⟩ := h
 replace h := aO.1 h
 obtain ⟨rfl, rfl⟩ := h
 replace h0 := bn.1 h0
 obtain ⟨s0, rfl, rfl, w0⟩ := h0
 have k1 := h1
 replace h1 := aj.1 h1
 obtain ⟨v1, l1, rfl, rfl, w1, hv1⟩ := h1
 have o1 := hv1.one
 have k2 := h2
 replace h2 := aj.1 h2
 obtain ⟨v2, l2, rfl, rfl, w2, hv2⟩ := h2
 have o2 := hv2.one
 have k3 := h3
 replace h3 := aj.1 h3
 obtain ⟨v3, l3, rfl, rfl, w3, hv3⟩ := h3
 have o3 := hv3.one
 by_cases g0 : s0.length ≤ left
 rotate_left
 ·have q0 : IntKind.i64.wrap (((left : Nat) : Int) - s0.length) = ((left : Nat) : Int) - s0.length := wrap_i64 (by have : s0.length ≤ 9223372036854775807 := w0; omega) (by omega)
  have p0 : ((left : Nat) : Int) - s0.length < 0 := by omega
  have hT : ¬ wt (U.st [(.str s0), (.lst l1), (.lst l2), (.lst l3)]) ≤ left := by simp only [fG, bQ, bY, dH, dJ, bZ]; omega
  rw [if_neg hT]
  apply Ret.eq
  rw [Jr]
  simp [qw, Tryz.f183, aG, q0, p0, o1, o2, o3]
 have q0 : IntKind.i64.wrap (((left : Nat) : Int) - s0.length) = ((left - s0.length : Nat) : Int) := by rw [wrap_i64 (by omega) (by omega)]; omega
 have p0 : ¬ (((left - s0.length : Nat) : Int) < 0) := by omega
 have q1 := ni H _ _ (left - s0.length) k1 (by omega)
 simp only [aG, List.headD_cons, List.append_nil, List.cons_append, List.nil_append] at q1
 by_cases g1 : wt (.lst l1) ≤ left - s0.length
 rotate_left
 ·rw [if_neg g1] at q1
  have hT : ¬ wt (U.st [(.str s0), (.lst l1), (.lst l2), (.lst l3)]) ≤ left := by simp only [fG, bQ, bY, dH, dJ, bZ]; omega
  rw [if_neg hT]
  apply Ret.eq
  rw [Jr]
  simp [qw, Tryz.f183, aG, q0, p0, q1, o1, o2, o3]
 rw [if_pos g1] at q1
 have p1 : ¬ (((left - s0.length - wt (.lst l1) : Nat) : Int) < 0) := by omega
 have q2 := ni H _ _ (left - s0.length - wt (.lst l1)) k2 (by omega)
 simp only [aG, List.headD_cons, List.append_nil, List.cons_append, List.nil_append] at q2
 by_cases g2 : wt (.lst l2) ≤ left - s0.length - wt (.lst l1)
 rotate_left
 ·rw [if_neg g2] at q2
  have hT : ¬ wt (U.st [(.str s0), (.lst l1), (.lst l2), (.lst l3)]) ≤ left := by simp only [fG, bQ, bY, dH, dJ, bZ]; omega
  rw [if_neg hT]
  apply Ret.eq
  rw [Jr]
  simp [qw, Tryz.f183, aG, q0, p0, q1, p1, q2, o1, o2, o3]
 rw [if_pos g2] at q2
 have p2 : ¬ (((left - s0.length - wt (.lst l1) - wt (.lst l2) : Nat) : Int) < 0) := by omega
 have q3 := ni H _ _ (left - s0.length - wt (.lst l1) - wt (.lst l2)) k3 (by omega)
 simp only [aG, List.headD_cons, List.append_nil, List.cons_append, List.nil_append] at q3
 by_cases g3 : wt (.lst l3) ≤ left - s0.length - wt (.lst l1) - wt (.lst l2)
 rotate_left
 ·rw [if_neg g3] at q3
  have hT : ¬ wt (U.st [(.str s0), (.lst l1), (.lst l2), (.lst l3)]) ≤ left := by simp only [fG, bQ, bY, dH, dJ, bZ]; omega
  rw [if_neg hT]
  apply Ret.eq
  rw [Jr]
  simp [qw, Tryz.f183, aG, q0, p0, q1, p1, q2, p2, q3, o1, o2, o3]
 rw [if_pos g3] at q3
 have p3 : ¬ (((left - s0.length - wt (.lst l1) - wt (.lst l2) - wt (.lst l3) : Nat) : Int) < 0) := by omega
 have hT : wt (U.st [(.str s0), (.lst l1), (.lst l2), (.lst l3)]) ≤ left := by simp only [fG, bQ, bY, dH, dJ, bZ]; omega
 have hE : left - wt (U.st [(.str s0), (.lst l1), (.lst l2), (.lst l3)]) = left - s0.length - wt (.lst l1) - wt (.lst l2) - wt (.lst l3) := by simp only [fG, bQ, bY, dH, dJ, bZ]; omega
 rw [if_pos hT, hE]
 apply Ret.eq
 rw [Jr]
 simp [qw, Tryz.f183, aG, q0, p0, q1, p1, q2, p2, q3, p3, o1, o2, o3]
theorem NK : wR 86 (.slice bz) :=
 Hr (f := 86) (g := 183) (tS := 55) (tE := 227) (F := Tryz.f86) (jL (c := Ld) (by kernel_rfl) amM) rfl afx (by rw [Cf]; rfl) (by rw [Cf]; rfl) (by rw [Cf]; decide) Qg
theorem U6 : wR 28 dL := by
 intro H cs u left h hleft
 replace h := bV.1 h
 obtain ⟨us, rfl, h⟩ := h
 replace h := ag.1 h
 obtain ⟨c0, d0, u0, rr0, rfl, rfl, h0, h⟩ := h
 replace h := ag.1 h
 obtain ⟨c1, d1, u1, rr1, rfl, rfl, h1, h⟩ := h
 replace h := aO.1 h
 obtain ⟨rfl, rfl⟩ := h
 have k0 := h0
 replace h0 := aj.1 h0
 obtain ⟨v0, l0, rfl, rfl, w0, hv0⟩ := h0
 have o0 := hv0.one
 have k1 := h1
 replace h1 := aj.1 h1
 obtain ⟨v1, l1, rfl, rfl, w1, hv1⟩ := h1
 have o1 := hv1.one
 have q0 := NK H _ _ (left) k0 (by omega)
 simp only [aG, List.headD_cons, List.append_nil, List.cons_append, List.nil_append] at q0
 by_cases g0 : wt (.lst l0) ≤ left
 rotate_left
 ·rw [if_neg g0] at q0
  have hT : ¬ wt (U.st [(.lst l0), (.lst l1)]) ≤ left := by simp only [fG, bQ, bY, dH, dJ, bZ]; omega
  rw [if_neg hT]
  apply Ret.eq
  rw [V6]
  simp [zM, Tryz.f28, aG, q0, o0, o1]
 rw [if_pos g0] at q0
 have p0 : ¬ (((left - wt (.lst l0) : Nat) : Int) < 0) := by omega
 have q1 := Ph H _ _ (left - wt (.lst l0)) k1 (by omega)
 simp only [aG, List.headD_cons, List.append_nil, List.cons_append, List.nil_append] at q1
 by_cases g1 : wt (.lst l1) ≤ left - wt (.lst l0)
 rotate_left
 ·rw [if_neg g1] at q1
  have hT : ¬ wt (U.st [(.lst l0), (.lst l1)]) ≤ left := by simp only [fG, bQ, bY, dH, dJ, bZ]; omega
  rw [if_neg hT]
  apply Ret.eq
  rw [V6]
  simp [zM, Tryz.f28, aG, q0, p0, q1, o0, o1]
 rw [if_pos g1] at q1
 have p1 : ¬ (((left - wt (.lst l0) - wt (.lst l1) : Nat) : Int) < 0) := by omega
 have hT : wt (U.st [(.lst l0), (.lst l1)]) ≤ left := by simp only [fG, bQ, bY, dH, dJ, bZ]; omega
 have hE : left - wt (U.st [(.lst l0), (.lst l1)]) = left - wt (.lst l0) - wt (.lst l1) := by simp only [fG, bQ, bY, dH, dJ, bZ]; omega
 rw [if_pos hT, hE]
 apply Ret.eq
 rw [V6]
 simp [zM, Tryz.f28, aG, q0, p0, q1, p1, o0, o1]
theorem Wi : wR 118 iJ := by
 intro H cs u left h hleft
 replace h := bV.1 h
 obtain ⟨us, rfl, h⟩ := h
 replace h := ag.1 h
 obtain ⟨c0, d0, u0, rr0, rfl, rfl, h0, h⟩ := h
 replace h := ag.1 h
 obtain ⟨c1, d1, u1, rr1, rfl, rfl, h1, h⟩ := h
 replace h := ag.1 h
 obtain ⟨c2, d2, u2, rr2, rfl, rfl, h2, h⟩ := h
 replace h := aO.1 h
 obtain ⟨rfl, rfl⟩ := h
 replace h0 := jK.1 h0
 obtain ⟨n0, rfl, rfl, w0⟩ := h0
 replace h1 := bn.1 h1
 obtain ⟨s1, rfl, rfl, w1⟩ := h1
 have k2 := h2
 replace h2 := aj.1 h2
 obtain ⟨v2, l2, rfl, rfl, w2, hv2⟩ := h2
 have o2 := hv2.one
 by_cases g1 : s1.length ≤ left
 rotate_left
 ·have q1 : IntKind.i64.wrap (((left : Nat) : Int) - s1.length) = ((left : Nat) : Int) - s1.length := wrap_i64 (by have : s1.length ≤ 9223372036854775807 := w1; omega) (by omega)
  have p1 : ((left : Nat) : Int) - s1.length < 0 := by omega
  have hT : ¬ wt (U.st [(.int n0), (.str s1), (.lst l2)]) ≤ left := by simp only [fG, bQ, bY, dH, dJ, bZ]; omega
  rw [if_neg hT]
  apply Ret.eq
  rw [TF]
  simp [vS, Tryz.f118, aG, q1, p1, o2]
 have q1 : IntKind.i64.wrap (((left : Nat) : Int) - s1.length) = ((left - s1.length : Nat) : Int) := by rw [wrap_i64 (by omega) (by omega)]; omega
 have p1 : ¬ (((left - s1.length : Nat) : Int) < 0) := by omega
 have q2 := ni H _ _ (left - s1.length) k2 (by omega)
 simp only [aG, List.headD_cons, List.append_nil, List.cons_append, List.nil_append] at q2
 by_cases g2 : wt (.lst l2) ≤ left - s1.length
 rotate_left
 ·rw [if_neg g2] at q2
  have hT : ¬ wt (U.st [(.int n0), (.str s1), (.lst l2)]) ≤ left := by simp only [fG, bQ, bY, dH, dJ, bZ]; omega
  rw [if_neg hT]
  apply Ret.eq
  rw [TF]
  simp [vS, Tryz.f118, aG, q1, p1, q2, o2]
 rw [if_pos g2] at q2
 have p2 : ¬ (((left - s1.length - wt (.lst l2) : Nat) : Int) < 0) := by omega
 have hT : wt (U.st [(.int n0), (.str s1), (.lst l2)]) ≤ left := by simp only [fG, bQ, bY, dH, dJ, bZ]; omega
 have hE : left - wt (U.st [(.int n0), (.str s1), (.lst l2)]) = left - s1.length - wt (.lst l2) := by simp only [fG, bQ, bY, dH, dJ, bZ]; omega
 rw [if_pos hT, hE]
 apply Ret.eq
 rw [TF]
 simp [vS, Tryz.f118, aG, q1, p1, q2, p2, o2]
theorem Vh : wR 49 (.slice iJ) :=
 Hr (f := 49) (g := 118) (tS := 105) (tE := 167) (F := Tryz.f49) (jL (c := J6) (by kernel_rfl) alD) rfl Vz (by rw [CX]; rfl) (by rw [CX]; rfl) (by rw [CX]; decide) Wi
def tC (f : Nat) (sh : Sh) : Prop := ∀ (H : List Ob) (cs ds : List V) (u w : U), At H sh cs u → At H sh ds w →
 ∃ b : Bool, (b = true ↔ u = w) ∧ callW C f [aG sh cs, aG sh ds] H = some (.bool b, H)
theorem Ret.bool {f : Nat} {a : List V} {H : List Ob} {p : Prop} (h : Ret C f a H fun r H' => ∃ b : Bool, (b = true ↔ p) ∧ r = .bool b ∧ H' = H) : ∃ b : Bool, (b = true ↔ p) ∧ callW C f a H = some (.bool b, H) := by
 obtain ⟨r, H', hc, b, hb, rfl, rfl⟩ := h
 exact ⟨b, hb, hc⟩
theorem take_snoc {α : Type} {l m : List α} {i : Nat} {x : α} (h : l.take i = m.take i) (hx : l[i]? = some x) (hy : m[i]? = some x) : l.take (i + 1) = m.take (i + 1) := by
 rw [List.take_add_one, List.take_add_one, h, hx, hy]
theorem Td {α : Type} {l m : List α} {i : Nat} {x y : α} (hx : l[i]? = some x) (hy : m[i]? = some y) (h : ¬ x = y) : ¬ l = m := by
 rintro rfl
 rw [hx] at hy
 exact h (Option.some.inj hy)
theorem mX : tC 19 (.slice .str) := by
 intro H cs ds u w h h'
 obtain ⟨v, l, rfl, rfl, hlen, hv⟩ := aj.1 h
 obtain ⟨v', l', rfl, rfl, hlen', hv'⟩ := aj.1 h'
 apply Ret.bool
 rw [amk]
 have hl64 : l.length ≤ 9223372036854775807 := hlen
 by_cases hl : l.length = l'.length
 ·simp [GH, Tryz.f19, aG, hv.len, hv'.len, hl]
  refine aA (fun k σ => ∃ (i : Nat) (r : Nat → R), i + k = l.length ∧ σ = ⟨r, 0, H⟩ ∧ r 0 = .val v ∧ r 1 = .val v' ∧ r 5 = .val (.int .i64 i) ∧ l.take i = l'.take i) ?_ l.length _ ⟨0, _, by simp, rfl, by simp, by simp, by simp, by simp⟩
  rintro k σ ⟨i, r, hik, rfl, r0, r1, r5, heq⟩
  cases k with
  | zero =>
   have hi : i = l'.length := by omega
   subst hi
   have : l = l' := by rwa [← hl, List.take_length, hl, List.take_length] at heq
   simp [r0, r1, r5, hv.len, hl, this]
  | succ k =>
   have hi : i < l.length := by omega
   have hi' : i < l'.length := by omega
   obtain ⟨x, hx⟩ : ∃ x, l[i]? = some x := ⟨l[i], by simp [hi]⟩
   obtain ⟨y, hy⟩ : ∃ y, l'[i]? = some y := ⟨l'[i], by simp [hi']⟩
   obtain ⟨eid, o, own, cells, e1, e2, e3, s, e4, rfl, e5⟩ := hv.idx hx (by decide)
   obtain ⟨eid', o', own', cells', f1, f2, f3, s', f4, rfl, f5⟩ := hv'.idx hy (by decide)
   simp only [Sh.size_str] at e1 f1
   have c0 : cells[o]? = some (.str s) := by simpa using aX e4 (j := 0) rfl
   have d0 : cells'[o']? = some (.str s') := by simpa using aX f4 (j := 0) rfl
   have ld := aY e2 c0
   have ld' := aY f2 d0
   have hw1 : IntKind.i64.wrap ((i : Int) + 1) = ((i + 1 : Nat) : Int) := by rw [wrap_i64 (by omega) (by omega)]; omega
   by_cases hxy : s = s'
   ·subst hxy
    simp [r0, r1, r5, hi', hv.len, hl, e1, f1, ld, ld', hw1, af]
    exact ⟨k, by omega, i + 1, by omega, by omega, take_snoc heq hx hy⟩
   ·have hne : ¬ l = l' := Td hx hy (by intro e; cases e; exact hxy rfl)
    simp [r0, r1, r5, hi', hv.len, hl, e1, f1, ld, ld', hw1, af, hxy, hne]
 ·have hne : ¬ l = l' := fun e => hl (by rw [e])
  have hl' : ¬ (l.length : Int) = l'.length := by omega
  simp [GH, Tryz.f19, aG, hv.len, hv'.len, hl', hne, hl]
theorem Iq {f g tS tE : Nat} {zs : List V} {fs : List Sh} {F : Func} (hop : ∀ {a : List V} {H : List Ob} {R : V → List Ob → Prop}, Ret C f a H R ↔ WP C f (ren [(35, tS), (102, tE)] [(105, g)] xm) ⟨ae a, 0, H⟩ (aB C F H R))
  (hF : F.results = #[.tmp 4]) (hO : C.ord f 6 = none) (hS : C.ty tS = ⟨.slice tE, 1, 24, zs⟩) (hE : (C.ty tE).size = (Sh.st fs).size) (hE2 : (C.ty tE).isAgg = true) (hE0 : (C.ty tE).size ≠ 0) (hg : tC g (.st fs)) : tC f (.slice (.st fs)) := by
 intro H cs ds u w h h'
 obtain ⟨v, l, rfl, rfl, hlen, hv⟩ := aj.1 h
 obtain ⟨v', l', rfl, rfl, hlen', hv'⟩ := aj.1 h'
 apply Ret.bool
 rw [hop]
 have hl64 : l.length ≤ 9223372036854775807 := hlen
 by_cases hl : l.length = l'.length
 ·simp [xm, Tryz.f38, ren, Ox, Ov, nM, sub, aG, hS, hv.len, hv'.len, hl]
  refine aA (fun k σ => ∃ (i : Nat) (r : Nat → R), i + k = l.length ∧ σ = ⟨r, 0, H⟩ ∧ r 0 = .val v ∧ r 1 = .val v' ∧ r 5 = .val (.int .i64 i) ∧ l.take i = l'.take i) ?_ l.length _ ⟨0, _, by simp, rfl, by simp, by simp, by simp, by simp⟩
  rintro k σ ⟨i, r, hik, rfl, r0, r1, r5, heq⟩
  cases k with
  | zero =>
   have hi : i = l'.length := by omega
   subst hi
   have : l = l' := by rwa [← hl, List.take_length, hl, List.take_length] at heq
   simp [r0, r1, r5, hS, hv.len, hl, this, hF]
  | succ k =>
   have hi : i < l.length := by omega
   have hi' : i < l'.length := by omega
   obtain ⟨x, hx⟩ : ∃ x, l[i]? = some x := ⟨l[i], by simp [hi]⟩
   obtain ⟨y, hy⟩ : ∃ y, l'[i]? = some y := ⟨l'[i], by simp [hi']⟩
   obtain ⟨eid, o, own, cells, e1, e2, e3, e4⟩ := hv.idx hx (by rw [← hE]; exact hE0)
   obtain ⟨eid', o', own', cells', f1, f2, f3, f4⟩ := hv'.idx hy (by rw [← hE]; exact hE0)
   have e1 := fun (k : IntKind) => e1 tE 1 24 zs C.ty k hE
   have f1 := fun (k : IntKind) => f1 tE 1 24 zs C.ty k hE
   have ld := rU (T := C.ty tE) e2 (by rw [hE]; exact e3) rfl hE0 hE2
   have ld' := rU (T := C.ty tE) f2 (by rw [hE]; exact f3) rfl hE0 hE2
   rw [hE] at ld ld'
   have hw1 : IntKind.i64.wrap ((i : Int) + 1) = ((i + 1 : Nat) : Int) := by rw [wrap_i64 (by omega) (by omega)]; omega
   obtain ⟨b, hb, hc⟩ := hg H _ _ x y e4 f4
   simp only [aG, Sh.size_st] at hc
   by_cases hxy : x = y
   ·have := hb.2 hxy
    subst this hxy
    simp [r0, r1, r5, hi', hS, hv.len, hl, e1, f1, ld, ld', hw1, af hO, hc]
    exact ⟨k, by omega, i + 1, by omega, by omega, take_snoc heq hx hy⟩
   ·have hne : ¬ l = l' := Td hx hy hxy
    have : b = false := by cases b with
     | false => rfl
     | true => exact absurd (hb.1 rfl) hxy
    subst this
    simp [r0, r1, r5, hi', hS, hv.len, hl, e1, f1, ld, ld', hw1, af hO, hc, hne, hF]
 ·have hne : ¬ l = l' := fun e => hl (by rw [e])
  have hl' : ¬ (l.length : Int) = l'.length := by omega
  simp [xm, Tryz.f38, ren, Ox, Ov, nM, sub, aG, hS, hv.len, hv'.len, hl', hne, hl, hF]
theorem VU : tC 105 shRdn := by
 intro H cs ds u w h h'
 replace h := bV.1 h
 obtain ⟨usa, rfl, h⟩ := h
 replace h := ag.1 h
 obtain ⟨ca0, da0, ua0, rra0, rfl, rfl, ha0, h⟩ := h
 replace h := ag.1 h
 obtain ⟨ca1, da1, ua1, rra1, rfl, rfl, ha1, h⟩ := h
 replace h := aO.1 h
 obtain ⟨rfl, rfl⟩ := h
 replace ha0 := bn.1 ha0
 obtain ⟨sa0, rfl, rfl, wa0⟩ := ha0
 replace ha1 := bn.1 ha1
 obtain ⟨sa1, rfl, rfl, wa1⟩ := ha1
 replace h' := bV.1 h'
 obtain ⟨usb, rfl, h'⟩ := h'
 replace h' := ag.1 h'
 obtain ⟨cb0, db0, ub0, rrb0, rfl, rfl, hb0, h'⟩ := h'
 replace h' := ag.1 h'
 obtain ⟨cb1, db1, ub1, rrb1, rfl, rfl, hb1, h'⟩ := h'
 replace h' := aO.1 h'
 obtain ⟨rfl, rfl⟩ := h'
 replace hb0 := bn.1 hb0
 obtain ⟨sb0, rfl, rfl, wb0⟩ := hb0
 replace hb1 := bn.1 hb1
 obtain ⟨sb1, rfl, rfl, wb1⟩ := hb1
 by_cases e0 : sa0 = sb0
 rotate_left
 ·refine ⟨false, by simp [e0], ?_⟩
  apply Ret.eq
  rw [TA]
  simp [vz, Tryz.f105, aG, e0]
 subst e0
 by_cases e1 : sa1 = sb1
 rotate_left
 ·refine ⟨false, by simp [e1], ?_⟩
  apply Ret.eq
  rw [TA]
  simp [vz, Tryz.f105, aG, e1]
 subst e1
 refine ⟨true, by simp only [], ?_⟩
 apply Ret.eq
 rw [TA]
 simp [vz, Tryz.f105, aG]
theorem Nw : tC 38 (.slice shRdn) :=
 Iq (f := 38) (g := 105) (tS := 35) (tE := 102) (F := Tryz.f38) (jL (c := xm) (by kernel_rfl) anA) rfl Ua Wl (by rw [IR]; rfl) (by rw [IR]; rfl) (by rw [IR]; decide) VU
theorem TS : tC 150 shAttr := by
 intro H cs ds u w h h'
 replace h := bV.1 h
 obtain ⟨usa, rfl, h⟩ := h
 replace h := ag.1 h
 obtain ⟨ca0, da0, ua0, rra0, rfl, rfl, ha0, h⟩ := h
 replace h := ag.1 h
 obtain ⟨ca1, da1, ua1, rra1, rfl, rfl, ha1, h⟩ := h
 replace h := aO.1 h
 obtain ⟨rfl, rfl⟩ := h
 replace ha0 := bn.1 ha0
 obtain ⟨sa0, rfl, rfl, wa0⟩ := ha0
 have ka1 := ha1
 replace ha1 := aj.1 ha1
 obtain ⟨va1, la1, rfl, rfl, wa1, hva1⟩ := ha1
 have oa1 := hva1.one
 replace h' := bV.1 h'
 obtain ⟨usb, rfl, h'⟩ := h'
 replace h' := ag.1 h'
 obtain ⟨cb0, db0, ub0, rrb0, rfl, rfl, hb0, h'⟩ := h'
 replace h' := ag.1 h'
 obtain ⟨cb1, db1, ub1, rrb1, rfl, rfl, hb1, h'⟩ := h'
 replace h' := aO.1 h'
 obtain ⟨rfl, rfl⟩ := h'
 replace hb0 := bn.1 hb0
 obtain ⟨sb0, rfl, rfl, wb0⟩ := hb0
 have kb1 := hb1
 replace hb1 := aj.1 hb1
 obtain ⟨vb1, lb1, rfl, rfl, wb1, hvb1⟩ := hb1
 have ob1 := hvb1.one
 by_cases e0 : sa0 = sb0
 rotate_left
 ·refine ⟨false, by simp [e0], ?_⟩
  apply Ret.eq
  rw [SX]
  simp [wC, Tryz.f150, aG, e0, oa1, ob1]
 subst e0
 obtain ⟨t1, e1, q1⟩ := mX H _ _ _ _ ka1 kb1
 simp only [aG, List.headD_cons, List.append_nil, List.cons_append, List.nil_append] at q1
 cases t1 with
 | false =>
  have e1 : ¬ (.lst la1) = (U.lst lb1) := fun h => by simpa using e1.2 h
  refine ⟨false, by simp only [U.st.injEq, List.cons.injEq, e1, and_false, false_and, Bool.false_eq_true], ?_⟩
  apply Ret.eq
  rw [SX]
  simp [wC, Tryz.f150, aG, q1, oa1, ob1]
 | true =>
 have e1 := e1.1 rfl
 refine ⟨true, by simp only [e1], ?_⟩
 apply Ret.eq
 rw [SX]
 simp [wC, Tryz.f150, aG, q1, oa1, ob1]
theorem TL : tC 69 (.slice shAttr) :=
 Iq (f := 69) (g := 150) (tS := 41) (tE := 188) (F := Tryz.f69) (jL (c := J9) (by kernel_rfl) amL) rfl UV adk (by rw [Na]; rfl) (by rw [Na]; rfl) (by rw [Na]; decide) TS
theorem Qz : tC 18 shEntry := by
 intro H cs ds u w h h'
 replace h := bV.1 h
 obtain ⟨usa, rfl, h⟩ := h
 replace h := ag.1 h
 obtain ⟨ca0, da0, ua0, rra0, rfl, rfl, ha0, h⟩ := h
 replace h := ag.1 h
 obtain ⟨ca1, da1, ua1, rra1, rfl, rfl, ha1, h⟩ := h
 replace h := aO.1 h
 obtain ⟨rfl, rfl⟩ := h
 have ka0 := ha0
 replace ha0 := aj.1 ha0
 obtain ⟨va0, la0, rfl, rfl, wa0, hva0⟩ := ha0
 have oa0 := hva0.one
 have ka1 := ha1
 replace ha1 := aj.1 ha1
 obtain ⟨va1, la1, rfl, rfl, wa1, hva1⟩ := ha1
 have oa1 := hva1.one
 replace h' := bV.1 h'
 obtain ⟨usb, rfl, h'⟩ := h'
 replace h' := ag.1 h'
 obtain ⟨cb0, db0, ub0, rrb0, rfl, rfl, hb0, h'⟩ := h'
 replace h' := ag.1 h'
 obtain ⟨cb1, db1, ub1, rrb1, rfl, rfl, hb1, h'⟩ := h'
 replace h' := aO.1 h'
 obtain ⟨rfl, rfl⟩ := h'
 have kb0 := hb0
 replace hb0 := aj.1 hb0
 obtain ⟨vb0, lb0, rfl, rfl, wb0, hvb0⟩ := hb0
 have ob0 := hvb0.one
 have kb1 := hb1
 replace hb1 := aj.1 hb1
 obtain ⟨vb1, lb1, rfl, rfl, wb1, hvb1⟩ := hb1
 have ob1 := hvb1.one
 obtain ⟨t0, e0, q0⟩ := Nw H _ _ _ _ ka0 kb0
 simp only [aG, List.headD_cons, List.append_nil, List.cons_append, List.nil_append] at q0
 cases t0 with
 | false =>
  have e0 : ¬ (.lst la0) = (U.lst lb0) := fun h => by simpa using e0.2 h
  refine ⟨false, by simp only [U.st.injEq, List.cons.injEq, e0, and_false, false_and, Bool.false_eq_true], ?_⟩
  apply Ret.eq
  rw [Wy]
  simp [Bh, Tryz.f18, aG, q0, oa0, oa1, ob0, ob1]
 | true =>
 have e0 := e0.1 rfl
 obtain ⟨t1, e1, q1⟩ := TL H _ _ _ _ ka1 kb1
 simp only [aG, List.headD_cons, List.append_nil, List.cons_append, List.nil_append] at q1
 cases t1 with
 | false =>
  have e1 : ¬ (.lst la1) = (U.lst lb1) := fun h => by simpa using e1.2 h
  refine ⟨false, by simp only [U.st.injEq, List.cons.injEq, e1, and_false, false_and, Bool.false_eq_true], ?_⟩
  apply Ret.eq
  rw [Wy]
  simp [Bh, Tryz.f18, aG, q0, q1, oa0, oa1, ob0, ob1]
 | true =>
 have e1 := e1.1 rfl
 refine ⟨true, by simp only [e0, e1], ?_⟩
 apply Ret.eq
 rw [Wy]
 simp [Bh, Tryz.f18, aG, q0, q1, oa0, oa1, ob0, ob1]
theorem Dn : tC 103 (.slice shEntry) :=
 Iq (f := 103) (g := 18) (tS := 68) (tE := 43) (F := Tryz.f103) (jL (c := FT) (by kernel_rfl) afz) rfl QO ad1 (by rw [Vl]; rfl) (by rw [Vl]; rfl) (by rw [Vl]; decide) Qz
theorem TB : tC 196 bz := by
 intro H cs ds u w h h'
 replace h := bV.1 h
 obtain ⟨usa, rfl, h⟩ := h
 replace h := ag.1 h
 obtain ⟨ca0, da0, ua0, rra0, rfl, rfl, ha0, h⟩ := h
 replace h := ag.1 h
 obtain ⟨ca1, da1, ua1, rra1, rfl, rfl, ha1, h⟩ := h
 replace h := ag.1 h
 obtain ⟨ca2, da2, ua2, rra2, rfl, rfl, ha2, h⟩ := h
 replace h := ag.1 h
 obtain ⟨ca3, da3, ua3, rra3, rfl, rfl, ha3, h⟩ := h
 replace h := aO.1 h
 obtain ⟨rfl, rfl⟩ := h
 replace ha0 := bn.1 ha0
 obtain ⟨sa0, rfl, rfl, wa0⟩ := ha0
 have ka1 := ha1
 replace ha1 := aj.1 ha1
 obtain ⟨va1, la1, rfl, rfl, wa1, hva1⟩ := ha1
 have oa1 := hva1.one
 have ka2 := ha2
 replace ha2 := aj.1 ha2
 obtain ⟨va2, la2, rfl, rfl, wa2, hva2⟩ := ha2
 have oa2 := hva2.one
 have ka3 := ha3
 replace ha3 := aj.1 ha3
 obtain ⟨va3, la3, rfl, rfl, wa3, hva3⟩ := ha3
 have oa3 := hva3.one
 replace h' := bV.1 h'
 obtain ⟨usb, rfl, h'⟩ := h'
 replace h' := ag.1 h'
 obtain ⟨cb0, db0, ub0, rrb0, rfl, rfl, hb0, h'⟩ := h'
 replace h' := ag.1 h'
 obtain ⟨cb1, db1, ub1, rrb1, rfl, rfl, hb1, h'⟩ := h'
 replace h' := ag.1 h'
 obtain ⟨cb2, db2, ub2, rrb2, rfl, rfl, hb2, h'⟩ := h'
 replace h' := ag.1 h'
 obtain ⟨cb3, db3, ub3, rrb3, rfl, rfl, hb3, h'⟩ := h'
 replace h' := aO.1 h'
 obtain ⟨rfl, rfl⟩ := h'
 replace hb0 := bn.1 hb0
 obtain ⟨sb0, rfl, rfl, wb0⟩ := hb0
 have kb1 := hb1
 replace hb1 := aj.1 hb1
 obtain ⟨vb1, lb1, rfl, rfl, wb1, hvb1⟩ := hb1
 have ob1 := hvb1.one
 have kb2 := hb2
 replace hb2 := aj.1 hb2
 obtain ⟨vb2, lb2, rfl, rfl, wb2, hvb2⟩ := hb2
 have ob2 := hvb2.one
 have kb3 := hb3
 replace hb3 := aj.1 hb3
 obtain ⟨vb3, lb3, rfl, rfl, wb3, hvb3⟩ := hb3
 have ob3 := hvb3.one
 by_cases e0 : sa0 = sb0
 rotate_left
 ·refine ⟨false, by simp [e0], ?_⟩
  apply Ret.eq
  rw [Hu]
  simp [qE, Tryz.f196, aG, e0, oa1, oa2, oa3, ob1, ob2, ob3]
 subst e0
 obtain ⟨t1, e1, q1⟩ := mX H _ _ _ _ ka1 kb1
 simp only [aG, List.headD_cons, List.append_nil, List.cons_append, List.nil_append] at q1
 cases t1 with
 | false =>
  have e1 : ¬ (.lst la1) = (U.lst lb1) := fun h => by simpa using e1.2 h
  refine ⟨false, by simp only [U.st.injEq, List.cons.injEq, e1, and_false, false_and, Bool.false_eq_true], ?_⟩
  apply Ret.eq
  rw [Hu]
  simp [qE, Tryz.f196, aG, q1, oa1, oa2, oa3, ob1, ob2, ob3]
 | true =>
 have e1 := e1.1 rfl
 obtain ⟨t2, e2, q2⟩ := mX H _ _ _ _ ka2 kb2
 simp only [aG, List.headD_cons, List.append_nil, List.cons_append, List.nil_append] at q2
 cases t2 with
 | false =>
  have e2 : ¬ (.lst la2) = (U.lst lb2) := fun h => by simpa using e2.2 h
  refine ⟨false, by simp only [U.st.injEq, List.cons.injEq, e2, and_false, false_and, Bool.false_eq_true], ?_⟩
  apply Ret.eq
  rw [Hu]
  simp [qE, Tryz.f196, aG, q1, q2, oa1, oa2, oa3, ob1, ob2, ob3]
 | true =>
 have e2 := e2.1 rfl
 obtain ⟨t3, e3, q3⟩ := mX H _ _ _ _ ka3 kb3
 simp only [aG, List.headD_cons, List.append_nil, List.cons_append, List.nil_append] at q3
 cases t3 with
 | false =>
  have e3 : ¬ (.lst la3) = (U.lst lb3) := fun h => by simpa using e3.2 h
  refine ⟨false, by simp only [U.st.injEq, List.cons.injEq, e3, and_false, false_and, Bool.false_eq_true], ?_⟩
  apply Ret.eq
  rw [Hu]
  simp [qE, Tryz.f196, aG, q1, q2, q3, oa1, oa2, oa3, ob1, ob2, ob3]
 | true =>
 have e3 := e3.1 rfl
 refine ⟨true, by simp only [e1, e2, e3], ?_⟩
 apply Ret.eq
 rw [Hu]
 simp [qE, Tryz.f196, aG, q1, q2, q3, oa1, oa2, oa3, ob1, ob2, ob3]
theorem OM : tC 104 (.slice bz) :=
 Iq (f := 104) (g := 196) (tS := 67) (tE := 232) (F := Tryz.f104) (jL (c := Dv) (by kernel_rfl) Zi) rfl RD XL (by rw [MK]; rfl) (by rw [MK]; rfl) (by rw [MK]; decide) TB
theorem Nk : tC 37 dL := by
 intro H cs ds u w h h'
 replace h := bV.1 h
 obtain ⟨usa, rfl, h⟩ := h
 replace h := ag.1 h
 obtain ⟨ca0, da0, ua0, rra0, rfl, rfl, ha0, h⟩ := h
 replace h := ag.1 h
 obtain ⟨ca1, da1, ua1, rra1, rfl, rfl, ha1, h⟩ := h
 replace h := aO.1 h
 obtain ⟨rfl, rfl⟩ := h
 have ka0 := ha0
 replace ha0 := aj.1 ha0
 obtain ⟨va0, la0, rfl, rfl, wa0, hva0⟩ := ha0
 have oa0 := hva0.one
 have ka1 := ha1
 replace ha1 := aj.1 ha1
 obtain ⟨va1, la1, rfl, rfl, wa1, hva1⟩ := ha1
 have oa1 := hva1.one
 replace h' := bV.1 h'
 obtain ⟨usb, rfl, h'⟩ := h'
 replace h' := ag.1 h'
 obtain ⟨cb0, db0, ub0, rrb0, rfl, rfl, hb0, h'⟩ := h'
 replace h' := ag.1 h'
 obtain ⟨cb1, db1, ub1, rrb1, rfl, rfl, hb1, h'⟩ := h'
 replace h' := aO.1 h'
 obtain ⟨rfl, rfl⟩ := h'
 have kb0 := hb0
 replace hb0 := aj.1 hb0
 obtain ⟨vb0, lb0, rfl, rfl, wb0, hvb0⟩ := hb0
 have ob0 := hvb0.one
 have kb1 := hb1
 replace hb1 := aj.1 hb1
 obtain ⟨vb1, lb1, rfl, rfl, wb1, hvb1⟩ := hb1
 have ob1 := hvb1.one
 obtain ⟨t0, e0, q0⟩ := OM H _ _ _ _ ka0 kb0
 simp only [aG, List.headD_cons, List.append_nil, List.cons_append, List.nil_append] at q0
 cases t0 with
 | false =>
  have e0 : ¬ (.lst la0) = (U.lst lb0) := fun h => by simpa using e0.2 h
  refine ⟨false, by simp only [U.st.injEq, List.cons.injEq, e0, and_false, false_and, Bool.false_eq_true], ?_⟩
  apply Ret.eq
  rw [Wj]
  simp [zH, Tryz.f37, aG, q0, oa0, oa1, ob0, ob1]
 | true =>
 have e0 := e0.1 rfl
 obtain ⟨t1, e1, q1⟩ := Dn H _ _ _ _ ka1 kb1
 simp only [aG, List.headD_cons, List.append_nil, List.cons_append, List.nil_append] at q1
 cases t1 with
 | false =>
  have e1 : ¬ (.lst la1) = (U.lst lb1) := fun h => by simpa using e1.2 h
  refine ⟨false, by simp only [U.st.injEq, List.cons.injEq, e1, and_false, false_and, Bool.false_eq_true], ?_⟩
  apply Ret.eq
  rw [Wj]
  simp [zH, Tryz.f37, aG, q0, q1, oa0, oa1, ob0, ob1]
 | true =>
 have e1 := e1.1 rfl
 refine ⟨true, by simp only [e0, e1], ?_⟩
 apply Ret.eq
 rw [Wj]
 simp [zH, Tryz.f37, aG, q0, q1, oa0, oa1, ob0, ob1]
theorem VT : tC 127 iJ := by
 intro H cs ds u w h h'
 replace h := bV.1 h
 obtain ⟨usa, rfl, h⟩ := h
 replace h := ag.1 h
 obtain ⟨ca0, da0, ua0, rra0, rfl, rfl, ha0, h⟩ := h
 replace h := ag.1 h
 obtain ⟨ca1, da1, ua1, rra1, rfl, rfl, ha1, h⟩ := h
 replace h := ag.1 h
 obtain ⟨ca2, da2, ua2, rra2, rfl, rfl, ha2, h⟩ := h
 replace h := aO.1 h
 obtain ⟨rfl, rfl⟩ := h
 replace ha0 := jK.1 ha0
 obtain ⟨na0, rfl, rfl, wa0⟩ := ha0
 replace ha1 := bn.1 ha1
 obtain ⟨sa1, rfl, rfl, wa1⟩ := ha1
 have ka2 := ha2
 replace ha2 := aj.1 ha2
 obtain ⟨va2, la2, rfl, rfl, wa2, hva2⟩ := ha2
 have oa2 := hva2.one
 replace h' := bV.1 h'
 obtain ⟨usb, rfl, h'⟩ := h'
 replace h' := ag.1 h'
 obtain ⟨cb0, db0, ub0, rrb0, rfl, rfl, hb0, h'⟩ := h'
 replace h' := ag.1 h'
 obtain ⟨cb1, db1, ub1, rrb1, rfl, rfl, hb1, h'⟩ := h'
 replace h' := ag.1 h'
 obtain ⟨cb2, db2, ub2, rrb2, rfl, rfl, hb2, h'⟩ := h'
 replace h' := aO.1 h'
 obtain ⟨rfl, rfl⟩ := h'
 replace hb0 := jK.1 hb0
 obtain ⟨nb0, rfl, rfl, wb0⟩ := hb0
 replace hb1 := bn.1 hb1
 obtain ⟨sb1, rfl, rfl, wb1⟩ := hb1
 have kb2 := hb2
 replace hb2 := aj.1 hb2
 obtain ⟨vb2, lb2, rfl, rfl, wb2, hvb2⟩ := hb2
 have ob2 := hvb2.one
 by_cases e0 : na0 = nb0
 rotate_left
 ·refine ⟨false, by simp [e0], ?_⟩
  apply Ret.eq
  rw [MM]
  simp [sG, Tryz.f127, aG, e0, oa2, ob2]
 subst e0
 by_cases e1 : sa1 = sb1
 rotate_left
 ·refine ⟨false, by simp [e1], ?_⟩
  apply Ret.eq
  rw [MM]
  simp [sG, Tryz.f127, aG, e1, oa2, ob2]
 subst e1
 obtain ⟨t2, e2, q2⟩ := mX H _ _ _ _ ka2 kb2
 simp only [aG, List.headD_cons, List.append_nil, List.cons_append, List.nil_append] at q2
 cases t2 with
 | false =>
  have e2 : ¬ (.lst la2) = (U.lst lb2) := fun h => by simpa using e2.2 h
  refine ⟨false, by simp only [U.st.injEq, List.cons.injEq, e2, and_false, false_and, Bool.false_eq_true], ?_⟩
  apply Ret.eq
  rw [MM]
  simp [sG, Tryz.f127, aG, q2, oa2, ob2]
 | true =>
 have e2 := e2.1 rfl
 refine ⟨true, by simp only [e2], ?_⟩
 apply Ret.eq
 rw [MM]
 simp [sG, Tryz.f127, aG, q2, oa2, ob2]
theorem Vg : tC 53 (.slice iJ) :=
 Iq (f := 53) (g := 127) (tS := 108) (tE := 169) (F := Tryz.f53) (jL (c := LP) (by kernel_rfl) amK) rfl TQ VF (by rw [NC]; rfl) (by rw [NC]; rfl) (by rw [NC]; decide) VT
def uK (f : Nat) (sh : Sh) : Prop := ∀ (H : List Ob) (cs : List V) (u : U), At H sh cs u → wt u ≤ 1048576 →
 ∃ T cs' F, callW C f [aG sh cs] H = some (aG sh cs', H ++ T) ∧ AtF (H ++ T) sh cs' u F ∧ F.Nodup ∧ ∀ id ∈ F, H.length ≤ id
theorem Ret.to {f : Nat} {sh : Sh} {a : List V} {H : List Ob} {u : U} (h : Ret C f a H fun r H' => ∃ T cs' F, H' = H ++ T ∧ r = aG sh cs' ∧ AtF (H ++ T) sh cs' u F ∧ F.Nodup ∧ ∀ id ∈ F, H.length ≤ id) :
  ∃ T cs' F, callW C f a H = some (aG sh cs', H ++ T) ∧ AtF (H ++ T) sh cs' u F ∧ F.Nodup ∧ ∀ id ∈ F, H.length ≤ id := by
 obtain ⟨r, H', hc, T, cs', F, rfl, rfl, h1, h2, h3⟩ := h
 exact ⟨T, cs', F, hc, h1, h2, h3⟩
theorem mZ : uK 15 (.slice .str) := by
 intro H cs u h hwt
 obtain ⟨v, l, rfl, rfl, hlen, hv⟩ := aj.1 h
 apply Ret.to
 rw [anV]
 simp only [wt] at hwt
 have b1 : (l.length : Int) * 16 ≤ 1099511627776 := by omega
 have b2 : (l.length : Int) ≤ 1099511627776 := by omega
 simp [Mc, Tryz.f15, aG, aJ, St.new, aK, b1, b2, hv.len]
 refine aA (fun k σ => ∃ (i : Nat) (r : Nat → R) (G : List Ob), i + k = l.length ∧ σ = ⟨r, 0, G⟩ ∧ ToI H .str l i G ∧ r 0 = .val v ∧ r 3 = .val (.slc (some (H.length, 0)) l.length) ∧ r 4 = .val (.int .i64 i)) ?_ l.length _ ⟨0, _, _, by simp, rfl, ToI.init (by simp [ax]), by simp, by simp, by simp⟩
 rintro k σ ⟨i, r, G, hik, rfl, hI, r0, r3, r4⟩
 cases k with
 | zero =>
  have hi : i = l.length := by omega
  subst hi
  obtain ⟨T, F, rfl, h1, h2, h3, h4⟩ := hI.done hlen
  simp [r0, r3, r4, hv.len]
  exact ⟨[_], rfl, F, h1, h2, h3⟩
 | succ k =>
  have hi : i < l.length := by omega
  obtain ⟨x, hx⟩ : ∃ x, l[i]? = some x := ⟨l[i], by simp [hi]⟩
  have hI' := hI
  obtain ⟨T0, _, _, hG, _⟩ := hI'
  have hvG : Sl G Sh.str.size (At G .str) v l := by rw [hG]; exact hv.map aS fun _ _ h => h.ext
  clear hG
  obtain ⟨eid, o, own, cells, e1, e2, e3, e0⟩ := hvG.idx hx (by decide)
  obtain ⟨s, e4, rfl, e5⟩ := bn.1 e0
  simp only [Sh.size_str] at e1
  have c0 : cells[o]? = some (.str s) := by simpa using aX e4 (j := 0) rfl
  have ld := aY e2 c0
  obtain ⟨cells2, g1, g2, g3, g4⟩ := hI.step (T := []) hx (c := [.str s]) (F := []) (dh.2 ⟨⟨s, rfl, rfl, e5⟩, rfl⟩) (by simp) (by simp)
  simp only [List.append_nil, Sh.size_str, Nat.mul_one, List.length_singleton] at g1 g2 g4
  rw [lM (by omega)] at g4
  have st := store1 (v := .str s) (o := i) g1 (by omega) rfl rfl
  have hw : IntKind.i64.wrap ((i : Int) + 1) = ((i + 1 : Nat) : Int) := by rw [wrap_i64 (by omega) (by omega)]; omega
  simp [r0, r3, r4, hi, hv.len, e1, ld, st, hw]
  exact ⟨k, by omega, i + 1, by omega, _, _, ⟨rfl, rfl⟩, g4, by simp [r0], by simp [r3], by simp⟩
theorem Ic {f g tS tE tS2 tE2 b : Nat} {zs zs2 zs3 : List V} {d' : List (Nat × Nat)} {fs : List Sh} {F : Func} (hop : ∀ {a : List V} {H : List Ob} {R : V → List Ob → Prop}, Ret C f a H R ↔ WP C f (ren [(22, tS), (99, tE), (35, tS2), (102, tE2)] [(47, g)] Am) ⟨ae a, 0, H⟩ (aB C F H R))
  (hF : F.results = #[.tmp 2]) (hS : C.ty tS = ⟨.slice tE, 1, 24, zs⟩) (hE : (C.ty tE).size = (Sh.st fs).size) (hE2 : (C.ty tE).isAgg = true) (hE0 : (C.ty tE).size ≠ 0) (hb : b ≤ 1048576)
  (hS2 : C.ty tS2 = ⟨.slice tE2, 1, 24, zs2⟩) (hT2 : C.ty tE2 = ⟨.struct d', (Sh.st fs).size, b, zs3⟩) (hz : zs3.length = (Sh.st fs).size) (hg : uK g (.st fs)) : uK f (.slice (.st fs)) := by
 intro H cs u h hwt
 obtain ⟨v, l, rfl, rfl, hlen, hv⟩ := aj.1 h
 apply Ret.to
 rw [hop]
 simp only [wt] at hwt
 have b1 : (l.length : Int) * b ≤ 1099511627776 := by
  have : l.length * b ≤ 1048576 * 1048576 := Nat.mul_le_mul (by omega) hb
  omega
 have b2 : (l.length : Int) ≤ 1099511627776 := by omega
 have hs0 : 0 < Sh.sizes fs := by have := hE ▸ hE0; simp at this; omega
 have hs1 : ¬ Sh.sizes fs = 0 := by omega
 simp only [Sh.size_st] at hE hT2 hz
 simp [Am, Tryz.f33, ren, Ox, Ov, nM, sub, aG, aJ, St.new, aK, hS, hS2, hT2, hz, b1, b2, hs0, hv.len]
 refine aA (fun k σ => ∃ (i : Nat) (r : Nat → R) (G : List Ob), i + k = l.length ∧ σ = ⟨r, 0, G⟩ ∧ ToI H (.st fs) l i G ∧ r 0 = .val v ∧ r 3 = .val (.slc (some (H.length, 0)) l.length) ∧ r 4 = .val (.int .i64 i)) ?_ l.length _ ⟨0, _, _, by simp, rfl, ToI.init (by rw [KY, hz]; rfl), by simp, by simp, by simp⟩
 rintro k σ ⟨i, r, G, hik, rfl, hI, r0, r3, r4⟩
 cases k with
 | zero =>
  have hi : i = l.length := by omega
  subst hi
  obtain ⟨T, F, rfl, h1, h2, h3, h4⟩ := hI.done hlen
  simp [r0, r3, r4, hS, hv.len, hF]
  exact ⟨[_], rfl, F, h1, h2, h3⟩
 | succ k =>
  have hi : i < l.length := by omega
  obtain ⟨x, hx⟩ : ∃ x, l[i]? = some x := ⟨l[i], by simp [hi]⟩
  have hI' := hI
  obtain ⟨T0, _, _, hG, _⟩ := hI'
  have hvG : Sl G (Sh.st fs).size (At G (.st fs)) v l := by rw [hG]; exact hv.map aS fun _ _ h => h.ext
  clear hG
  obtain ⟨eid, o, own, cells, e1, e2, e3, e4⟩ := hvG.idx hx (by simp; omega)
  have e1 := fun (k : IntKind) => e1 tE 1 24 zs C.ty k hE
  have ld := rU (T := C.ty tE) e2 (by rw [hE]; exact e3) rfl hE0 hE2
  rw [hE] at ld
  have hwx : wt x ≤ 1048576 := by have := Gy hx; omega
  obtain ⟨T1, c, F1, hc, g5, g6, g7⟩ := hg G _ x e4 hwx
  obtain ⟨cells2, g1, g2, g3, g4⟩ := hI.step hx g5 g6 g7
  simp only [aG, Sh.size_st] at hc g1 g2 g3 g4
  have st := xH g1 g2 (by intro h0; subst h0; simp at g3; omega) (At.ones _ (AtF.at _ g5)) (C.ty tE2) (by rw [hT2, g3]; exact ⟨rfl, rfl⟩)
  rw [hT2] at st
  have hw : IntKind.i64.wrap ((i : Int) + 1) = ((i + 1 : Nat) : Int) := by rw [wrap_i64 (by omega) (by omega)]; omega
  simp [r0, r3, r4, hi, hS, hS2, hT2, hs0, hs1, hv.len, e1, ld, hc, st, hw, -setRange]
  exact ⟨k, by omega, i + 1, by omega, _, _, ⟨rfl, rfl⟩, g4, by simp [r0], by simp [r3], by simp⟩
theorem VQ : uK 47 shRdn := by
 intro H cs u h hwt
 replace h := bV.1 h
 obtain ⟨us, rfl, h⟩ := h
 replace h := ag.1 h
 obtain ⟨c0, d0, u0, rr0, rfl, rfl, h0, h⟩ := h
 replace h := ag.1 h
 obtain ⟨c1, d1, u1, rr1, rfl, rfl, h1, h⟩ := h
 replace h := aO.1 h
 obtain ⟨rfl, rfl⟩ := h
 replace h0 := bn.1 h0
 obtain ⟨s0, rfl, rfl, w0⟩ := h0
 replace h1 := bn.1 h1
 obtain ⟨s1, rfl, rfl, w1⟩ := h1
 simp only [fG, bQ, bY, dH, dJ, bZ] at hwt
 have hA : AtF H shRdn _ _ _ := eQ.2 ⟨_, rfl, aC.2 ⟨[_], _, _, _, [], [], rfl, rfl, rfl, dh.2 ⟨⟨_, rfl, rfl, w0⟩, rfl⟩, aC.2 ⟨[_], _, _, _, [], [], rfl, rfl, rfl, dh.2 ⟨⟨_, rfl, rfl, w1⟩, rfl⟩, dC.2 ⟨rfl, rfl, rfl⟩⟩⟩⟩
 apply Ret.to
 rw [aop]
 simp [LH, Tryz.f47, aG]
 exact ⟨[], by simpa using hA, by simp, by simp⟩
theorem vF : uK 33 (.slice shRdn) :=
 Ic (f := 33) (g := 47) (tS := 22) (tE := 99) (tS2 := 35) (tE2 := 102) (F := Tryz.f33) (jL (c := Am) (by kernel_rfl) anT) rfl ae6 (by rw [OC]; rfl) (by rw [OC]; rfl) (by rw [OC]; decide) (by decide) Wl IR rfl VQ
theorem Uu : uK 139 shAttr := by
 intro H cs u h hwt
 replace h := bV.1 h
 obtain ⟨us, rfl, h⟩ := h
 replace h := ag.1 h
 obtain ⟨c0, d0, u0, rr0, rfl, rfl, h0, h⟩ := h
 replace h := ag.1 h
 obtain ⟨c1, d1, u1, rr1, rfl, rfl, h1, h⟩ := h
 replace h := aO.1 h
 obtain ⟨rfl, rfl⟩ := h
 replace h0 := bn.1 h0
 obtain ⟨s0, rfl, rfl, w0⟩ := h0
 have k1 := h1
 replace h1 := aj.1 h1
 obtain ⟨v1, l1, rfl, rfl, w1, hv1⟩ := h1
 have o1 := hv1.one
 simp only [fG, bQ, bY, dH, dJ, bZ] at hwt
 obtain ⟨T1, x1, G1, q1, a1, m1, g1⟩ := mZ (H) _ _ (k1) (by omega)
 have y1 := a1
 obtain ⟨z1, _, rfl, zz1, _, _⟩ := aF.1 y1
 cases zz1
 have oz1 := (aj.1 (AtF.at _ a1))
 obtain ⟨_, _, x1, x2, _, oz1⟩ := oz1
 cases x1
 cases x2
 have oz1 := oz1.one
 simp only [aG, List.headD_cons, List.append_nil, List.cons_append, List.nil_append, List.append_assoc] at q1
 have hA : AtF (H ++ T1) shAttr _ _ _ := eQ.2 ⟨_, rfl, aC.2 ⟨[_], _, _, _, [], _, rfl, rfl, rfl, dh.2 ⟨⟨_, rfl, rfl, w0⟩, rfl⟩, aC.2 ⟨[_], _, _, _, G1, _, rfl, rfl, rfl, (a1), dC.2 ⟨rfl, rfl, rfl⟩⟩⟩⟩
 simp only [List.append_assoc, List.nil_append, List.append_nil] at hA
 skip
 have hge : ∀ q ∈ G1, H.length ≤ q := by
  intro q hq
  try simp only [List.mem_append] at hq
  ·have := g1 q hq; omega
 have hnd : (G1).Nodup := by
  have b1 := AtF.mem _ a1
  exact m1
 obtain ⟨T, hT, hA⟩ := Ad hA hge
 simp only [List.cons_append, List.nil_append, List.append_nil] at hT
 apply Ret.to
 rw [ahj]
 simp [Gt, Tryz.f139, aG, hT, q1, o1, oz1]
 exact ⟨_, hA, hnd, hge⟩
theorem Ti : uK 62 (.slice shAttr) :=
 Ic (f := 62) (g := 139) (tS := 27) (tE := 178) (tS2 := 41) (tE2 := 188) (F := Tryz.f62) (jL (c := MB) (by kernel_rfl) aod) rfl adJ (by rw [CW]; rfl) (by rw [CW]; rfl) (by rw [CW]; decide) (by decide) adk Na rfl Uu
theorem PS : uK 14 shEntry := by
 intro H cs u h hwt
 replace h := bV.1 h
 obtain ⟨us, rfl, h⟩ := h
 replace h := ag.1 h
 obtain ⟨c0, d0, u0, rr0, rfl, rfl, h0, h⟩ := h
 replace h := ag.1 h
 obtain ⟨c1, d1, u1, rr1, rfl, rfl, h1, h⟩ := h
 replace h := aO.1 h
 obtain ⟨rfl, rfl⟩ := h
 have k0 := h0
 replace h0 := aj.1 h0
 obtain ⟨v0, l0, rfl, rfl, w0, hv0⟩ := h0
 have o0 := hv0.one
 have k1 := h1
 replace h1 := aj.1 h1
 obtain ⟨v1, l1, rfl, rfl, w1, hv1⟩ := h1
 have o1 := hv1.one
 simp only [fG, bQ, bY, dH, dJ, bZ] at hwt
 obtain ⟨T0, x0, G0, q0, a0, m0, g0⟩ := vF (H) _ _ (k0) (by omega)
 have y0 := a0
 obtain ⟨z0, _, rfl, zz0, _, _⟩ := aF.1 y0
 cases zz0
 have oz0 := (aj.1 (AtF.at _ a0))
 obtain ⟨_, _, x1, x2, _, oz0⟩ := oz0
 cases x1
 cases x2
 have oz0 := oz0.one
 simp only [aG, List.headD_cons, List.append_nil, List.cons_append, List.nil_append, List.append_assoc] at q0
 obtain ⟨T1, x1, G1, q1, a1, m1, g1⟩ := Ti (H ++ T0) _ _ (k1.ext) (by omega)
 have y1 := a1
 obtain ⟨z1, _, rfl, zz1, _, _⟩ := aF.1 y1
 cases zz1
 have oz1 := (aj.1 (AtF.at _ a1))
 obtain ⟨_, _, x1, x2, _, oz1⟩ := oz1
 cases x1
 cases x2
 have oz1 := oz1.one
 simp only [aG, List.headD_cons, List.append_nil, List.cons_append, List.nil_append, List.append_assoc] at q1
 have hA : AtF (H ++ T0 ++ T1) shEntry _ _ _ := eQ.2 ⟨_, rfl, aC.2 ⟨[_], _, _, _, G0, _, rfl, rfl, rfl, (a0.app), aC.2 ⟨[_], _, _, _, G1, _, rfl, rfl, rfl, (a1), dC.2 ⟨rfl, rfl, rfl⟩⟩⟩⟩
 simp only [List.append_assoc, List.nil_append, List.append_nil] at hA
 simp only [List.length_append] at g0 g1
 have hge : ∀ q ∈ G0 ++ (G1), H.length ≤ q := by
  intro q hq
  try simp only [List.mem_append] at hq
  rcases hq with hq | hq
  ·have := g0 q hq; omega
  ·have := g1 q hq; omega
 have hnd : (G0 ++ (G1)).Nodup := by
  have b0 := AtF.mem _ a0
  have b1 := AtF.mem _ a1
  simp only [List.length_append] at b0 b1
  refine List.nodup_append.2 ⟨m0, ?_, fun x hx y hy e => ?_⟩
  rotate_left
  ·subst e
   have := b0 x hx
   try simp only [List.mem_append] at hy
   ·have := g1 x hy; omega
  exact m1
 obtain ⟨T, hT, hA⟩ := Ad hA hge
 simp only [List.cons_append, List.nil_append, List.append_nil] at hT
 apply Ret.to
 rw [ams]
 simp [JW, Tryz.f14, aG, hT, q0, q1, o0, o1, oz0, oz1]
 exact ⟨_, hA, hnd, hge⟩
theorem OQ : uK 95 (.slice shEntry) :=
 Ic (f := 95) (g := 14) (tS := 56) (tE := 29) (tS2 := 68) (tE2 := 43) (F := Tryz.f95) (jL (c := JY) (by kernel_rfl) ao1) rfl aaH (by rw [Ol]; rfl) (by rw [Ol]; rfl) (by rw [Ol]; decide) (by decide) ad1 Vl rfl PS
theorem Qe : uK 189 bz := by
 intro H cs u h hwt
 replace h := bV.1 h
 obtain ⟨us, rfl, h⟩ := h
 replace h := ag.1 h
 obtain ⟨c0, d0, u0, rr0, rfl, rfl, h0, h⟩ := h
 replace h := ag.1 h
 obtain ⟨c1, d1, u1, rr1, rfl, rfl, h1, h⟩ := h
 replace h := ag.1 h
 obtain ⟨c2, d2, u2, rr2, rfl, rfl, h2, h⟩ := h
 replace h := ag.1 h
 obtain ⟨c3, d3, u3, rr3, rfl, rfl, h3, h⟩ := h
 replace h := aO.1 h
 obtain ⟨rfl, rfl⟩ := h
 replace h0 := bn.1 h0
 obtain ⟨s0, rfl, rfl, w0⟩ := h0
 have k1 := h1
 replace h1 := aj.1 h1
 obtain ⟨v1, l1, rfl, rfl, w1, hv1⟩ := h1
 have o1 := hv1.one
 have k2 := h2
 replace h2 := aj.1 h2
 obtain ⟨v2, l2, rfl, rfl, w2, hv2⟩ := h2
 have o2 := hv2.one
 have k3 := h3
 replace h3 := aj.1 h3
 obtain ⟨v3, l3, rfl, rfl, w3, hv3⟩ := h3
 have o3 := hv3.one
 simp only [fG, bQ, bY, dH, dJ, bZ] at hwt
 obtain ⟨T1, x1, G1, q1, a1, m1, g1⟩ := mZ (H) _ _ (k1) (by omega)
 have y1 := a1
 obtain ⟨z1, _, rfl, zz1, _, _⟩ := aF.1 y1
 cases zz1
 have oz1 := (aj.1 (AtF.at _ a1))
 obtain ⟨_, _, x1, x2, _, oz1⟩ := oz1
 cases x1
 cases x2
 have oz1 := oz1.one
 simp only [aG, List.headD_cons, List.append_nil, List.cons_append, List.nil_append, List.append_assoc] at q1
 obtain ⟨T2, x2, G2, q2, a2, m2, g2⟩ := mZ (H ++ T1) _ _ (k2.ext) (by omega)
 have y2 := a2
 obtain ⟨z2, _, rfl, zz2, _, _⟩ := aF.1 y2
 cases zz2
 have oz2 := (aj.1 (AtF.at _ a2))
 obtain ⟨_, _, x1, x2, _, oz2⟩ := oz2
 cases x1
 cases x2
 have oz2 := oz2.one
 simp only [aG, List.headD_cons, List.append_nil, List.cons_append, List.nil_append, List.append_assoc] at q2
 obtain ⟨T3, x3, G3, q3, a3, m3, g3⟩ := mZ (H ++ T1 ++ T2) _ _ (k3.ext.ext) (by omega)
 have y3 := a3
 obtain ⟨z3, _, rfl, zz3, _, _⟩ := aF.1 y3
 cases zz3
 have oz3 := (aj.1 (AtF.at _ a3))
 obtain ⟨_, _, x1, x2, _, oz3⟩ := oz3
 cases x1
 cases x2
 have oz3 := oz3.one
 simp only [aG, List.headD_cons, List.append_nil, List.cons_append, List.nil_append, List.append_assoc] at q3
 have hA : AtF (H ++ T1 ++ T2 ++ T3) bz _ _ _ := eQ.2 ⟨_, rfl, aC.2 ⟨[_], _, _, _, [], _, rfl, rfl, rfl, dh.2 ⟨⟨_, rfl, rfl, w0⟩, rfl⟩, aC.2 ⟨[_], _, _, _, G1, _, rfl, rfl, rfl, (a1.app.app), aC.2 ⟨[_], _, _, _, G2, _, rfl, rfl, rfl, (a2.app), aC.2 ⟨[_], _, _, _, G3, _, rfl, rfl, rfl, (a3), dC.2 ⟨rfl, rfl, rfl⟩⟩⟩⟩⟩⟩
 simp only [List.append_assoc, List.nil_append, List.append_nil] at hA
 simp only [List.length_append] at g1 g2 g3
 have hge : ∀ q ∈ G1 ++ (G2 ++ (G3)), H.length ≤ q := by
  intro q hq
  try simp only [List.mem_append] at hq
  rcases hq with hq | hq | hq
  ·have := g1 q hq; omega
  ·have := g2 q hq; omega
  ·have := g3 q hq; omega
 have hnd : (G1 ++ (G2 ++ (G3))).Nodup := by
  have b1 := AtF.mem _ a1
  have b2 := AtF.mem _ a2
  have b3 := AtF.mem _ a3
  simp only [List.length_append] at b1 b2 b3
  refine List.nodup_append.2 ⟨m1, ?_, fun x hx y hy e => ?_⟩
  rotate_left
  ·subst e
   have := b1 x hx
   try simp only [List.mem_append] at hy
   rcases hy with hy | hy
   ·have := g2 x hy; omega
   ·have := g3 x hy; omega
  refine List.nodup_append.2 ⟨m2, ?_, fun x hx y hy e => ?_⟩
  rotate_left
  ·subst e
   have := b2 x hx
   try simp only [List.mem_append] at hy
   ·have := g3 x hy; omega
  exact m3
 obtain ⟨T, hT, hA⟩ := Ad hA hge
 simp only [List.cons_append, List.nil_append, List.append_nil] at hT
 apply Ret.to
 rw [acj]
 simp [Et, Tryz.f189, aG, hT, q1, q2, q3, o1, o2, o3, oz1, oz2, oz3]
 exact ⟨_, hA, hnd, hge⟩
theorem Pq : uK 94 (.slice bz) :=
 Ic (f := 94) (g := 189) (tS := 55) (tE := 227) (tS2 := 67) (tE2 := 232) (F := Tryz.f94) (jL (c := JP) (by kernel_rfl) aoj) rfl afx (by rw [Cf]; rfl) (by rw [Cf]; rfl) (by rw [Cf]; decide) (by decide) XL MK rfl Qe
theorem yZ : uK 32 dL := by
 intro H cs u h hwt
 replace h := bV.1 h
 obtain ⟨us, rfl, h⟩ := h
 replace h := ag.1 h
 obtain ⟨c0, d0, u0, rr0, rfl, rfl, h0, h⟩ := h
 replace h := ag.1 h
 obtain ⟨c1, d1, u1, rr1, rfl, rfl, h1, h⟩ := h
 replace h := aO.1 h
 obtain ⟨rfl, rfl⟩ := h
 have k0 := h0
 replace h0 := aj.1 h0
 obtain ⟨v0, l0, rfl, rfl, w0, hv0⟩ := h0
 have o0 := hv0.one
 have k1 := h1
 replace h1 := aj.1 h1
 obtain ⟨v1, l1, rfl, rfl, w1, hv1⟩ := h1
 have o1 := hv1.one
 simp only [fG, bQ, bY, dH, dJ, bZ] at hwt
 obtain ⟨T0, x0, G0, q0, a0, m0, g0⟩ := Pq (H) _ _ (k0) (by omega)
 have y0 := a0
 obtain ⟨z0, _, rfl, zz0, _, _⟩ := aF.1 y0
 cases zz0
 have oz0 := (aj.1 (AtF.at _ a0))
 obtain ⟨_, _, x1, x2, _, oz0⟩ := oz0
 cases x1
 cases x2
 have oz0 := oz0.one
 simp only [aG, List.headD_cons, List.append_nil, List.cons_append, List.nil_append, List.append_assoc] at q0
 obtain ⟨T1, x1, G1, q1, a1, m1, g1⟩ := OQ (H ++ T0) _ _ (k1.ext) (by omega)
 have y1 := a1
 obtain ⟨z1, _, rfl, zz1, _, _⟩ := aF.1 y1
 cases zz1
 have oz1 := (aj.1 (AtF.at _ a1))
 obtain ⟨_, _, x1, x2, _, oz1⟩ := oz1
 cases x1
 cases x2
 have oz1 := oz1.one
 simp only [aG, List.headD_cons, List.append_nil, List.cons_append, List.nil_append, List.append_assoc] at q1
 have hA : AtF (H ++ T0 ++ T1) dL _ _ _ := eQ.2 ⟨_, rfl, aC.2 ⟨[_], _, _, _, G0, _, rfl, rfl, rfl, (a0.app), aC.2 ⟨[_], _, _, _, G1, _, rfl, rfl, rfl, (a1), dC.2 ⟨rfl, rfl, rfl⟩⟩⟩⟩
 simp only [List.append_assoc, List.nil_append, List.append_nil] at hA
 simp only [List.length_append] at g0 g1
 have hge : ∀ q ∈ G0 ++ (G1), H.length ≤ q := by
  intro q hq
  try simp only [List.mem_append] at hq
  rcases hq with hq | hq
  ·have := g0 q hq; omega
  ·have := g1 q hq; omega
 have hnd : (G0 ++ (G1)).Nodup := by
  have b0 := AtF.mem _ a0
  have b1 := AtF.mem _ a1
  simp only [List.length_append] at b0 b1
  refine List.nodup_append.2 ⟨m0, ?_, fun x hx y hy e => ?_⟩
  rotate_left
  ·subst e
   have := b0 x hx
   try simp only [List.mem_append] at hy
   ·have := g1 x hy; omega
  exact m1
 obtain ⟨T, hT, hA⟩ := Ad hA hge
 simp only [List.cons_append, List.nil_append, List.append_nil] at hT
 apply Ret.to
 rw [anG]
 simp [Kr, Tryz.f32, aG, hT, q0, q1, o0, o1, oz0, oz1]
 exact ⟨_, hA, hnd, hge⟩
theorem V5 : uK 121 iJ := by
 intro H cs u h hwt
 replace h := bV.1 h
 obtain ⟨us, rfl, h⟩ := h
 replace h := ag.1 h
 obtain ⟨c0, d0, u0, rr0, rfl, rfl, h0, h⟩ := h
 replace h := ag.1 h
 obtain ⟨c1, d1, u1, rr1, rfl, rfl, h1, h⟩ := h
 replace h := ag.1 h
 obtain ⟨c2, d2, u2, rr2, rfl, rfl, h2, h⟩ := h
 replace h := aO.1 h
 obtain ⟨rfl, rfl⟩ := h
 replace h0 := jK.1 h0
 obtain ⟨n0, rfl, rfl, w0⟩ := h0
 replace h1 := bn.1 h1
 obtain ⟨s1, rfl, rfl, w1⟩ := h1
 have k2 := h2
 replace h2 := aj.1 h2
 obtain ⟨v2, l2, rfl, rfl, w2, hv2⟩ := h2
 have o2 := hv2.one
 simp only [fG, bQ, bY, dH, dJ, bZ] at hwt
 obtain ⟨T2, x2, G2, q2, a2, m2, g2⟩ := mZ (H) _ _ (k2) (by omega)
 have y2 := a2
 obtain ⟨z2, _, rfl, zz2, _, _⟩ := aF.1 y2
 cases zz2
 have oz2 := (aj.1 (AtF.at _ a2))
 obtain ⟨_, _, x1, x2, _, oz2⟩ := oz2
 cases x1
 cases x2
 have oz2 := oz2.one
 simp only [aG, List.headD_cons, List.append_nil, List.cons_append, List.nil_append, List.append_assoc] at q2
 have hA : AtF (H ++ T2) iJ _ _ _ := eQ.2 ⟨_, rfl, aC.2 ⟨[_], _, _, _, [], _, rfl, rfl, rfl, lQ.2 ⟨⟨_, rfl, rfl, w0⟩, rfl⟩, aC.2 ⟨[_], _, _, _, [], _, rfl, rfl, rfl, dh.2 ⟨⟨_, rfl, rfl, w1⟩, rfl⟩, aC.2 ⟨[_], _, _, _, G2, _, rfl, rfl, rfl, (a2), dC.2 ⟨rfl, rfl, rfl⟩⟩⟩⟩⟩
 simp only [List.append_assoc, List.nil_append, List.append_nil] at hA
 skip
 have hge : ∀ q ∈ G2, H.length ≤ q := by
  intro q hq
  try simp only [List.mem_append] at hq
  ·have := g2 q hq; omega
 have hnd : (G2).Nodup := by
  have b2 := AtF.mem _ a2
  exact m2
 obtain ⟨T, hT, hA⟩ := Ad hA hge
 simp only [List.cons_append, List.nil_append, List.append_nil] at hT
 apply Ret.to
 rw [aiu]
 simp [Ea, Tryz.f121, aG, hT, q2, o2, oz2]
 exact ⟨_, hA, hnd, hge⟩
theorem yQ : uK 51 (.slice iJ) :=
 Ic (f := 51) (g := 121) (tS := 105) (tE := 167) (tS2 := 108) (tE2 := 169) (F := Tryz.f51) (jL (c := LV) (by kernel_rfl) ao9) rfl Vz (by rw [CX]; rfl) (by rw [CX]; rfl) (by rw [CX]; decide) (by decide) VF NC rfl V5
theorem iO {H : List Ob} {k : Nat} (hk : k ≤ 100000000) : callW C 109 [.int .i64 k] H = some (.str (aI k), H) := by
 apply Ret.eq
 rw [abr]
 by_cases h0 : k = 0
 ·subst h0
  simp [zg, Tryz.f109, aI]
 ·have hp : ¬ ((k : Int) ≤ 0) := by omega
  simp [zg, Tryz.f109, hp, h0]
  refine aA (fun m σ => ∃ (r : Nat → R) (out : Str) (G T : List Ob), G = H ++ T ∧ σ = ⟨r, 0, G⟩ ∧ r 0 = .val (.int .i64 m) ∧ r 3 = .val (.str out) ∧ ji k [] = ji m out ∧ m ≤ 100000000 ∧ out.length + m ≤ 100000000) ?_ k _ ⟨_, [], H, [], by simp, rfl, by simp, by simp, rfl, hk, by simpa using hk⟩
  rintro m σ ⟨r, out, G, T, hG, rfl, r0, r3, hm, m1, m2⟩
  by_cases hz : m = 0
  ·subst hz
   rw [uj] at hm
   have hl : out.length + 1 ≤ maxStr := by unfold maxStr; omega
   have hl' : 1 + out.length ≤ maxStr := by unfold maxStr; omega
   subst hG
   simp [r0, r3, aI, h0, hm, hl, hl']
  ·have hpm : (0 : Int) < (m : Int) := by omega
   have hr : ((m : Int).tmod 10) = (m : Int) % 10 := by rw [Int.tmod_eq_emod_of_nonneg (by omega)]
   have hw : IntKind.i64.wrap (48 + (m : Int) % 10) = 48 + (m : Int) % 10 := wrap_i64 (by omega) (by omega)
   have hu : IntKind.u8.wrap (48 + (m : Int) % 10) = 48 + (m : Int) % 10 := by unfold IntKind.wrap; simp [IntKind.bits, IntKind.signed]; omega
   have hn : (48 + (m : Int) % 10).toNat = 48 + m % 10 := by omega
   have hq : ((m : Int).tdiv 10) = (m : Int) / 10 := by rw [Int.tdiv_eq_ediv_of_nonneg (by omega)]
   have hw2 : IntKind.i64.wrap ((m : Int) / 10) = (m : Int) / 10 := wrap_i64 (by omega) (by omega)
   have hl' : 1 + out.length ≤ maxStr := by unfold maxStr; omega
   have hmp : 0 < m := by omega
   simp [r0, r3, hpm, aJ, hz, hr, hw, hq, hw2, hu, hn, hl', hmp, aH, ax, bH, isByte, jr]
   refine ⟨m / 10, by omega, _, (48 + UInt8.ofNat (m % 10)) :: out, _, ⟨T ++ _, by rw [hG, List.append_assoc]⟩, ⟨rfl, rfl⟩, by simp, by simp, ?_, by omega, by simp; omega⟩
   rw [hm, tV hz]
theorem sO {k : Nat} (h : k ≤ 50000000) : (aI k).length ≤ maxLen := by
 have := IZ (k := k)
 unfold maxLen
 omega
def Gw (f : Nat) (sh : Sh) : Prop := ∀ (H : List Ob) (cs : List V) (u : U) (F : List Nat) (k : Nat), AtF H sh cs u F → F.Nodup → k + dF u ≤ 50000000 →
 ∃ H', callW C f [aG sh cs, .int .i64 k] H = some (.int .i64 ((k + dF u : Nat) : Int), H') ∧ H'.length = H.length ∧ (∀ q, q ∉ F → H'[q]? = H[q]?) ∧ AtF H' sh cs (mkV u k) F
theorem Ret.mark {f : Nat} {a : List V} {H : List Ob} {n : Int} {P : List Ob → Prop} (h : Ret C f a H fun r H' => r = .int .i64 n ∧ P H') : ∃ H', callW C f a H = some (.int .i64 n, H') ∧ P H' := by
 obtain ⟨r, H', hc, rfl, h⟩ := h
 exact ⟨H', hc, h⟩
theorem nX {H H' : List Ob} {r : V} (h : H'.length = H.length) : fB H H' r = H' := by
 unfold fB
 split
 ·rename_i hc
  obtain ⟨⟨T, rfl⟩, _⟩ := hc
  simp at h
  rw [h, List.append_nil]
 ·rfl
theorem nC : Gw 128 (.slice .str) := by
 intro H cs u F k h hn hk
 obtain ⟨v, l, rfl, rfl, hlen, hv⟩ := aF.1 h
 have hv := (aF.2 ⟨v, l, rfl, rfl, hlen, hv⟩).at
 obtain ⟨_, _, hx1, hx2, _, hv⟩ := aj.1 hv
 cases hx1; cases hx2
 apply Ret.mark
 rw [adz]
 simp only [dF] at hk
 have hl64 : l.length ≤ 9223372036854775807 := hlen
 simp [D7, Tryz.f128, aG, -setRange]
 refine aA (fun m σ => ∃ (i : Nat) (r : Nat → R) (G : List Ob), i + m = l.length ∧ σ = ⟨r, 0, G⟩ ∧ r 0 = .val v ∧ r 1 = .val (.int .i64 ((k + aT (l.take i) : Nat) : Int)) ∧ r 5 = .val (.int .i64 i) ∧ G.length = H.length ∧ (∀ q, q ∉ F → G[q]? = H[q]?) ∧ AtF G (.slice .str) [v] (.lst (bM (l.take i) k ++ l.drop i)) F) ?_ l.length _ ⟨0, _, H, by simp, rfl, by simp, by simp [aT], by simp, rfl, fun _ _ => rfl, by simpa [bM] using h⟩
 rintro m σ ⟨i, r, G, him, rfl, r0, r1, r5, g1, g2, g3⟩
 cases m with
 | zero =>
  have hi : i = l.length := by omega
  subst hi
  simp at g3
  simp [r0, r1, r5, hv.len, nX g1, dF, mkV]
  exact ⟨g1, g2, g3⟩
 | succ m =>
  have hi : i < l.length := by omega
  obtain ⟨x, hx⟩ : ∃ x, l[i]? = some x := ⟨l[i], by simp [hi]⟩
  obtain ⟨id, off, cells, K, e0, e1, e2, e3, e4, e5, e6, e7, e8⟩ := AtF.elem g3 hn (i := i) (x := x) (by rw [xI hi, hx])
  have hL : (bM (l.take i) k ++ l.drop i).length = l.length := by simp [dO]; omega
  rw [hL] at e0
  subst e0
  obtain ⟨⟨s, e3, rfl, _⟩, rfl⟩ := dh.1 e3
  have hcnt := fM hx
  have hle := dI (l := l) (i := i + 1)
  simp only [dE] at hcnt
  have hm := iO (H := G) (k := k + aT (l.take i)) (by omega)
  simp only [Sh.size_str, Nat.mul_one] at e1 e2 e8
  have st := store1 (v := .str (aI (k + aT (l.take i)))) (o := off + i) e1 (by omega) rfl rfl
  have hre := e8 (G.set id (.mk true 1 (cells.set (off + i) (.str (aI (k + aT (l.take i))))))) [.str (aI (k + aT (l.take i)))] (.str (aI (k + aT (l.take i)))) rfl
   (by rw [List.getElem?_set_self (List.getElem?_eq_some_iff.1 e1).1, lM (by omega)]) (fun q _ hq _ => by rw [List.getElem?_set_ne (Ne.symm hq)]) (dh.2 ⟨⟨_, rfl, rfl, sO (by omega)⟩, rfl⟩)
  have hmk := xJ (k := k) hx
  simp only [Q8] at hmk
  rw [hmk] at hre
  have hw : IntKind.i64.wrap ((i : Int) + 1) = ((i : Int) + 1) := wrap_i64 (by omega) (by omega)
  have hw2 : IntKind.i64.wrap ((k : Int) + aT (l.take i) + 1) = (k : Int) + aT (l.take i) + 1 := wrap_i64 (by omega) (by omega)
  simp only [Int.natCast_add] at hm r1
  simp [r0, r1, r5, hi, hm, st, hw, hw2, -setRange]
  exact ⟨m, by omega, i + 1, by omega, _, _, ⟨rfl, rfl⟩, by simp [r0], by simp; omega, by simp, by simpa using g1, fun q hq => by rw [List.getElem?_set_ne (by rintro rfl; exact hq e6)]; exact g2 q hq, hre⟩
def uI (f : Nat) (sh : Sh) : Prop := ∀ (H : List Ob) (cs : List V) (u : U) (k : Nat), At H sh cs (mkV u k) → k + dF u ≤ 50000000 →
 callW C f [aG sh cs, .int .i64 k] H = some (.int .i64 ((k + dF u : Nat) : Int), H)
theorem lX : uI 278 (.slice .str) := by
 intro H cs u k h hk
 obtain ⟨v, l', rfl, hu, hlen, hv⟩ := aj.1 h
 obtain ⟨l, rfl, rfl⟩ := pU hu
 apply Ret.eq
 rw [afM]
 simp only [dF] at hk ⊢
 have hl64 : (bM l k).length ≤ 9223372036854775807 := hlen
 rw [dO] at hl64
 have hvl := fun {e s b : Nat} {z : List V} => hv.len (e := e) (s := s) (b := b) (z := z)
 simp only [dO] at hvl
 simp [DU, Tryz.f278, aG]
 refine aA (fun m σ => ∃ (i : Nat) (r : Nat → R), i + m = l.length ∧ σ = ⟨r, 0, H⟩ ∧ r 0 = .val v ∧ r 1 = .val (.int .i64 ((k + aT (l.take i) : Nat) : Int)) ∧ r 5 = .val (.int .i64 i)) ?_ l.length _ ⟨0, _, by simp, rfl, by simp, by simp [aT], by simp⟩
 rintro m σ ⟨i, r, him, rfl, r0, r1, r5⟩
 cases m with
 | zero =>
  have hi : i = l.length := by omega
  subst hi
  simp at r1
  simp [r0, r1, r5, hvl]
 | succ m =>
  have hi : i < l.length := by omega
  obtain ⟨x, hx⟩ : ∃ x, l[i]? = some x := ⟨l[i], by simp [hi]⟩
  obtain ⟨eid, o, own, cells, e1, e2, e3, e0⟩ := hv.idx (qW hx) (by decide)
  obtain ⟨s, e4, e5, e6⟩ := bn.1 e0
  obtain ⟨⟨t, rfl⟩, rfl⟩ := vT e5
  simp only [Sh.size_str] at e1
  have c0 : cells[o]? = some (.str (aI (k + aT (l.take i)))) := by simpa using aX e4 (j := 0) rfl
  have ld := aY e2 c0
  have hid : eid < H.length := (List.getElem?_eq_some_iff.1 e2).1
  have hcnt := fM hx
  have hle := dI (l := l) (i := i + 1)
  simp only [dE] at hcnt
  have hm := iO (H := H) (k := k + aT (l.take i)) (by omega)
  have hw : IntKind.i64.wrap ((i : Int) + 1) = ((i : Int) + 1) := wrap_i64 (by omega) (by omega)
  have hw2 : IntKind.i64.wrap ((k : Int) + aT (l.take i) + 1) = (k : Int) + aT (l.take i) + 1 := wrap_i64 (by omega) (by omega)
  simp only [Int.natCast_add] at hm r1
  simp [r0, r1, r5, hi, hvl, e1, ld, hid, hm, hw, hw2]
  exact ⟨m, by omega, i + 1, by omega, by omega, by omega⟩
end Go.Proofs.Try1
end
