/- Part 11 of the proof of a law: the interpreter, its soundness, and what functions of the program compute over it. Conditions: none but those that each theorem names. -/
import Derived.Test.YtipjjjlomghdfaaGreatDoorR09
import Derived.Test.YtipjjjlomghdfaaGreatDoorR10
import Derived.Test.YtipjjjlomghdfaaGreatDoorR07
import Derived.Test.YtipjjjlomghdfaaGreatDoorR06

set_option linter.all false
set_option maxRecDepth 20000
set_option maxHeartbeats 40000000
section
namespace Go.Proofs.Try1
open Go Go.Lite
theorem asW : aiK 98 shRule := by
 intro H cs u left h hleft
 replace h := At_st.1 h
 obtain ⟨us, rfl, h⟩ := h
 replace h := Ats_cons.1 h
 obtain ⟨c0, d0, u0, rr0, rfl, rfl, h0, h⟩ := h
 replace h := Ats_cons.1 h
 obtain ⟨c1, d1, u1, rr1, rfl, rfl, h1, h⟩ := h
 replace h := Ats_cons.1 h
 obtain ⟨c2, d2, u2, rr2, rfl, rfl, h2, h⟩ := h
 replace h := Ats_cons.1 h
 obtain ⟨c3, d3, u3, rr3, rfl, rfl, h3, h⟩ := h
 replace h := Ats_cons.1 h
 obtain ⟨c4, d4, u4, rr4, rfl, rfl, h4, h⟩ := h
 replace h := Ats_nil.1 h
 obtain ⟨rfl, rfl⟩ := h
 replace h0 := At_str.1 h0
 obtain ⟨s0, rfl, rfl, w0⟩ := h0
 have k1 := h1
 replace h1 := At_slice.1 h1
 obtain ⟨v1, l1, rfl, rfl, w1, hv1⟩ := h1
 have o1 := hv1.one
 have k2 := h2
 replace h2 := At_slice.1 h2
 obtain ⟨v2, l2, rfl, rfl, w2, hv2⟩ := h2
 have o2 := hv2.one
 replace h3 := At_int.1 h3
 obtain ⟨n3, rfl, rfl, w3⟩ := h3
 replace h4 := At_bool.1 h4
 obtain ⟨b4, rfl, rfl⟩ := h4
 by_cases g0 : s0.length ≤ left
 rotate_left
 ·have q0 : IntKind.i64.wrap (((left : Nat) : Int) - s0.length) = ((left : Nat) : Int) - s0.length := wrap_i64 (by have : s0.length ≤ 9223372036854775807 := w0; omega) (by omega)
  have p0 : ((left : Nat) : Int) - s0.length < 0 := by omega
  have hT : ¬ wt (U.st [(.str s0), (.lst l1), (.lst l2), (.int n3), (.bool b4)]) ≤ left := by first | (simp only [wt_st, wts_cons, wts_nil, wt_str, wt_int, wt_bool]; omega) | (simp only [wt_st, wts_cons, wts_nil, wt_str, wt_int, wt_bool] at *; omega)
  rw [if_neg hT]
  apply Ret.eq
  rw [arT]
  simp [alv, Tryz.f98, valC, q0, p0, o1, o2]
 have q0 : IntKind.i64.wrap (((left : Nat) : Int) - s0.length) = ((left - s0.length : Nat) : Int) := by rw [wrap_i64 (by omega) (by omega)]; omega
 have p0 : ¬ (((left - s0.length : Nat) : Int) < 0) := by omega
 have q1 := amC H _ _ (left - s0.length) k1 (by omega)
 simp only [valC, List.headD_cons, List.append_nil, List.cons_append, List.nil_append] at q1
 by_cases g1 : wt (.lst l1) ≤ left - s0.length
 rotate_left
 ·rw [if_neg g1] at q1
  have hT : ¬ wt (U.st [(.str s0), (.lst l1), (.lst l2), (.int n3), (.bool b4)]) ≤ left := by first | (simp only [wt_st, wts_cons, wts_nil, wt_str, wt_int, wt_bool]; omega) | (simp only [wt_st, wts_cons, wts_nil, wt_str, wt_int, wt_bool] at *; omega)
  rw [if_neg hT]
  apply Ret.eq
  rw [arT]
  simp [alv, Tryz.f98, valC, q0, p0, q1, o1, o2]
 rw [if_pos g1] at q1
 have p1 : ¬ (((left - s0.length - wt (.lst l1) : Nat) : Int) < 0) := by omega
 have q2 := aiZ H _ _ (left - s0.length - wt (.lst l1)) k2 (by omega)
 simp only [valC, List.headD_cons, List.append_nil, List.cons_append, List.nil_append] at q2
 by_cases g2 : wt (.lst l2) ≤ left - s0.length - wt (.lst l1)
 rotate_left
 ·rw [if_neg g2] at q2
  have hT : ¬ wt (U.st [(.str s0), (.lst l1), (.lst l2), (.int n3), (.bool b4)]) ≤ left := by first | (simp only [wt_st, wts_cons, wts_nil, wt_str, wt_int, wt_bool]; omega) | (simp only [wt_st, wts_cons, wts_nil, wt_str, wt_int, wt_bool] at *; omega)
  rw [if_neg hT]
  apply Ret.eq
  rw [arT]
  simp [alv, Tryz.f98, valC, q0, p0, q1, p1, q2, o1, o2]
 rw [if_pos g2] at q2
 have p2 : ¬ (((left - s0.length - wt (.lst l1) - wt (.lst l2) : Nat) : Int) < 0) := by omega
 have hT : wt (U.st [(.str s0), (.lst l1), (.lst l2), (.int n3), (.bool b4)]) ≤ left := by first | (simp only [wt_st, wts_cons, wts_nil, wt_str, wt_int, wt_bool]; omega) | (simp only [wt_st, wts_cons, wts_nil, wt_str, wt_int, wt_bool] at *; omega)
 have hE : left - wt (U.st [(.str s0), (.lst l1), (.lst l2), (.int n3), (.bool b4)]) = left - s0.length - wt (.lst l1) - wt (.lst l2) := by first | (simp only [wt_st, wts_cons, wts_nil, wt_str, wt_int, wt_bool]; omega) | (simp only [wt_st, wts_cons, wts_nil, wt_str, wt_int, wt_bool] at *; omega)
 rw [if_pos hT, hE]
 apply Ret.eq
 rw [arT]
 simp [alv, Tryz.f98, valC, q0, p0, q1, p1, q2, p2, o1, o2]
theorem aqC : aiK 39 (.slice shRule) :=
 akj (f := 39) (g := 98) (tS := 26) (tE := 150) (F := Tryz.f39) (op_ren (c := aqF) (by kernel_rfl) aBO) rfl avx (by rw [al2]; rfl) (by rw [al2]; rfl) (by rw [al2]; decide) asW
theorem apV : aiK 180 shChange := by
 intro H cs u left h hleft
 replace h := At_st.1 h
 obtain ⟨us, rfl, h⟩ := h
 replace h := Ats_cons.1 h
 obtain ⟨c0, d0, u0, rr0, rfl, rfl, h0, h⟩ := h
 replace h := Ats_cons.1 h
 obtain ⟨c1, d1, u1, rr1, rfl, rfl, h1, h⟩ := h
 replace h := Ats_cons.1 h
 obtain ⟨c2, d2, u2, rr2, rfl, rfl, h2, h⟩ := h
 replace h := Ats_cons.1 h
 obtain ⟨c3, d3, u3, rr3, rfl, rfl, h3, h⟩ := h
 replace h := Ats_nil.1 h
 obtain ⟨rfl, rfl⟩ := h
 replace h0 := At_int.1 h0
 obtain ⟨n0, rfl, rfl, w0⟩ := h0
 replace h1 := At_int.1 h1
 obtain ⟨n1, rfl, rfl, w1⟩ := h1
 replace h2 := At_str.1 h2
 obtain ⟨s2, rfl, rfl, w2⟩ := h2
 have k3 := h3
 replace h3 := At_st.1 h3
 obtain ⟨us3_, rfl, h3⟩ := h3
 replace h3 := Ats_cons.1 h3
 obtain ⟨c3_0, d3_0, u3_0, rr3_0, rfl, rfl, h3_0, h3⟩ := h3
 replace h3 := Ats_cons.1 h3
 obtain ⟨c3_1, d3_1, u3_1, rr3_1, rfl, rfl, h3_1, h3⟩ := h3
 replace h3 := Ats_nil.1 h3
 obtain ⟨rfl, rfl⟩ := h3
 have k3_0 := h3_0
 replace h3_0 := At_slice.1 h3_0
 obtain ⟨v3_0, l3_0, rfl, rfl, w3_0, hv3_0⟩ := h3_0
 have o3_0 := hv3_0.one
 have k3_1 := h3_1
 replace h3_1 := At_slice.1 h3_1
 obtain ⟨v3_1, l3_1, rfl, rfl, w3_1, hv3_1⟩ := h3_1
 have o3_1 := hv3_1.one
 by_cases g2 : s2.length ≤ left
 rotate_left
 ·have q2 : IntKind.i64.wrap (((left : Nat) : Int) - s2.length) = ((left : Nat) : Int) - s2.length := wrap_i64 (by have : s2.length ≤ 9223372036854775807 := w2; omega) (by omega)
  have p2 : ((left : Nat) : Int) - s2.length < 0 := by omega
  have hT : ¬ wt (U.st [(.int n0), (.int n1), (.str s2), (.st [(.lst l3_0), (.lst l3_1)])]) ≤ left := by first | (simp only [wt_st, wts_cons, wts_nil, wt_str, wt_int, wt_bool]; omega) | (simp only [wt_st, wts_cons, wts_nil, wt_str, wt_int, wt_bool] at *; omega)
  rw [if_neg hT]
  apply Ret.eq
  rw [ark]
  simp [ak3, Tryz.f180, valC, q2, p2, o3_0, o3_1]
 have q2 : IntKind.i64.wrap (((left : Nat) : Int) - s2.length) = ((left - s2.length : Nat) : Int) := by rw [wrap_i64 (by omega) (by omega)]; omega
 have p2 : ¬ (((left - s2.length : Nat) : Int) < 0) := by omega
 have q3 := anf H _ _ (left - s2.length) k3 (by omega)
 simp only [valC, List.headD_cons, List.append_nil, List.cons_append, List.nil_append] at q3
 by_cases g3 : wt (.st [(.lst l3_0), (.lst l3_1)]) ≤ left - s2.length
 rotate_left
 ·rw [if_neg g3] at q3
  have hT : ¬ wt (U.st [(.int n0), (.int n1), (.str s2), (.st [(.lst l3_0), (.lst l3_1)])]) ≤ left := by first | (simp only [wt_st, wts_cons, wts_nil, wt_str, wt_int, wt_bool]; omega) | (simp only [wt_st, wts_cons, wts_nil, wt_str, wt_int, wt_bool] at *; omega)
  rw [if_neg hT]
  apply Ret.eq
  rw [ark]
  simp [ak3, Tryz.f180, valC, q2, p2, q3, o3_0, o3_1]
 rw [if_pos g3] at q3
 have p3 : ¬ (((left - s2.length - wt (.st [(.lst l3_0), (.lst l3_1)]) : Nat) : Int) < 0) := by omega
 have hT : wt (U.st [(.int n0), (.int n1), (.str s2), (.st [(.lst l3_0), (.lst l3_1)])]) ≤ left := by first | (simp only [wt_st, wts_cons, wts_nil, wt_str, wt_int, wt_bool]; omega) | (simp only [wt_st, wts_cons, wts_nil, wt_str, wt_int, wt_bool] at *; omega)
 have hE : left - wt (U.st [(.int n0), (.int n1), (.str s2), (.st [(.lst l3_0), (.lst l3_1)])]) = left - s2.length - wt (.st [(.lst l3_0), (.lst l3_1)]) := by first | (simp only [wt_st, wts_cons, wts_nil, wt_str, wt_int, wt_bool]; omega) | (simp only [wt_st, wts_cons, wts_nil, wt_str, wt_int, wt_bool] at *; omega)
 rw [if_pos hT, hE]
 apply Ret.eq
 rw [ark]
 simp [ak3, Tryz.f180, valC, q2, p2, q3, p3, o3_0, o3_1]
theorem anO : aiK 99 (.slice shChange) :=
 akj (f := 99) (g := 180) (tS := 27) (tE := 241) (F := Tryz.f99) (op_ren (c := aro) (by kernel_rfl) aAZ) rfl aw9 (by rw [al7]; rfl) (by rw [al7]; rfl) (by rw [al7]; decide) apV
theorem anr : aiK 40 shChanges := by
 intro H cs u left h hleft
 replace h := At_st.1 h
 obtain ⟨us, rfl, h⟩ := h
 replace h := Ats_cons.1 h
 obtain ⟨c0, d0, u0, rr0, rfl, rfl, h0, h⟩ := h
 replace h := Ats_cons.1 h
 obtain ⟨c1, d1, u1, rr1, rfl, rfl, h1, h⟩ := h
 replace h := Ats_nil.1 h
 obtain ⟨rfl, rfl⟩ := h
 replace h0 := At_int.1 h0
 obtain ⟨n0, rfl, rfl, w0⟩ := h0
 have k1 := h1
 replace h1 := At_slice.1 h1
 obtain ⟨v1, l1, rfl, rfl, w1, hv1⟩ := h1
 have o1 := hv1.one
 have q1 := anO H _ _ (left) k1 (by omega)
 simp only [valC, List.headD_cons, List.append_nil, List.cons_append, List.nil_append] at q1
 by_cases g1 : wt (.lst l1) ≤ left
 rotate_left
 ·rw [if_neg g1] at q1
  have hT : ¬ wt (U.st [(.int n0), (.lst l1)]) ≤ left := by first | (simp only [wt_st, wts_cons, wts_nil, wt_str, wt_int, wt_bool]; omega) | (simp only [wt_st, wts_cons, wts_nil, wt_str, wt_int, wt_bool] at *; omega)
  rw [if_neg hT]
  apply Ret.eq
  rw [avC]
  simp [anw, Tryz.f40, valC, q1, o1]
 rw [if_pos g1] at q1
 have p1 : ¬ (((left - wt (.lst l1) : Nat) : Int) < 0) := by omega
 have hT : wt (U.st [(.int n0), (.lst l1)]) ≤ left := by first | (simp only [wt_st, wts_cons, wts_nil, wt_str, wt_int, wt_bool]; omega) | (simp only [wt_st, wts_cons, wts_nil, wt_str, wt_int, wt_bool] at *; omega)
 have hE : left - wt (U.st [(.int n0), (.lst l1)]) = left - wt (.lst l1) := by first | (simp only [wt_st, wts_cons, wts_nil, wt_str, wt_int, wt_bool]; omega) | (simp only [wt_st, wts_cons, wts_nil, wt_str, wt_int, wt_bool] at *; omega)
 rw [if_pos hT, hE]
 apply Ret.eq
 rw [avC]
 simp [anw, Tryz.f40, valC, q1, p1, o1]
theorem al1 : aiK 8 shServer := by
 intro H cs u left h hleft
 replace h := At_st.1 h
 obtain ⟨us, rfl, h⟩ := h
 replace h := Ats_cons.1 h
 obtain ⟨c0, d0, u0, rr0, rfl, rfl, h0, h⟩ := h
 replace h := Ats_cons.1 h
 obtain ⟨c1, d1, u1, rr1, rfl, rfl, h1, h⟩ := h
 replace h := Ats_cons.1 h
 obtain ⟨c2, d2, u2, rr2, rfl, rfl, h2, h⟩ := h
 replace h := Ats_cons.1 h
 obtain ⟨c3, d3, u3, rr3, rfl, rfl, h3, h⟩ := h
 replace h := Ats_nil.1 h
 obtain ⟨rfl, rfl⟩ := h
 have k0 := h0
 replace h0 := At_st.1 h0
 obtain ⟨us0_, rfl, h0⟩ := h0
 replace h0 := Ats_cons.1 h0
 obtain ⟨c0_0, d0_0, u0_0, rr0_0, rfl, rfl, h0_0, h0⟩ := h0
 replace h0 := Ats_cons.1 h0
 obtain ⟨c0_1, d0_1, u0_1, rr0_1, rfl, rfl, h0_1, h0⟩ := h0
 replace h0 := Ats_nil.1 h0
 obtain ⟨rfl, rfl⟩ := h0
 have k0_0 := h0_0
 replace h0_0 := At_slice.1 h0_0
 obtain ⟨v0_0, l0_0, rfl, rfl, w0_0, hv0_0⟩ := h0_0
 have o0_0 := hv0_0.one
 have k0_1 := h0_1
 replace h0_1 := At_slice.1 h0_1
 obtain ⟨v0_1, l0_1, rfl, rfl, w0_1, hv0_1⟩ := h0_1
 have o0_1 := hv0_1.one
 have k1 := h1
 replace h1 := At_slice.1 h1
 obtain ⟨v1, l1, rfl, rfl, w1, hv1⟩ := h1
 have o1 := hv1.one
 have k2 := h2
 replace h2 := At_st.1 h2
 obtain ⟨us2_, rfl, h2⟩ := h2
 replace h2 := Ats_cons.1 h2
 obtain ⟨c2_0, d2_0, u2_0, rr2_0, rfl, rfl, h2_0, h2⟩ := h2
 replace h2 := Ats_cons.1 h2
 obtain ⟨c2_1, d2_1, u2_1, rr2_1, rfl, rfl, h2_1, h2⟩ := h2
 replace h2 := Ats_nil.1 h2
 obtain ⟨rfl, rfl⟩ := h2
 replace h2_0 := At_int.1 h2_0
 obtain ⟨n2_0, rfl, rfl, w2_0⟩ := h2_0
 have k2_1 := h2_1
 replace h2_1 := At_slice.1 h2_1
 obtain ⟨v2_1, l2_1, rfl, rfl, w2_1, hv2_1⟩ := h2_1
 have o2_1 := hv2_1.one
 replace h3 := At_str.1 h3
 obtain ⟨s3, rfl, rfl, w3⟩ := h3
 have q0 := asx H _ _ (left) k0 (by omega)
 simp only [valC, List.headD_cons, List.append_nil, List.cons_append, List.nil_append] at q0
 by_cases g0 : wt (.st [(.lst l0_0), (.lst l0_1)]) ≤ left
 rotate_left
 ·rw [if_neg g0] at q0
  have hT : ¬ wt (U.st [(.st [(.lst l0_0), (.lst l0_1)]), (.lst l1), (.st [(.int n2_0), (.lst l2_1)]), (.str s3)]) ≤ left := by first | (simp only [wt_st, wts_cons, wts_nil, wt_str, wt_int, wt_bool]; omega) | (simp only [wt_st, wts_cons, wts_nil, wt_str, wt_int, wt_bool] at *; omega)
  rw [if_neg hT]
  apply Ret.eq
  rw [op8]
  simp [alU, Tryz.f8, valC, q0, o0_0, o0_1, o1, o2_1]
 rw [if_pos g0] at q0
 have p0 : ¬ (((left - wt (.st [(.lst l0_0), (.lst l0_1)]) : Nat) : Int) < 0) := by omega
 have q1 := aqC H _ _ (left - wt (.st [(.lst l0_0), (.lst l0_1)])) k1 (by omega)
 simp only [valC, List.headD_cons, List.append_nil, List.cons_append, List.nil_append] at q1
 by_cases g1 : wt (.lst l1) ≤ left - wt (.st [(.lst l0_0), (.lst l0_1)])
 rotate_left
 ·rw [if_neg g1] at q1
  have hT : ¬ wt (U.st [(.st [(.lst l0_0), (.lst l0_1)]), (.lst l1), (.st [(.int n2_0), (.lst l2_1)]), (.str s3)]) ≤ left := by first | (simp only [wt_st, wts_cons, wts_nil, wt_str, wt_int, wt_bool]; omega) | (simp only [wt_st, wts_cons, wts_nil, wt_str, wt_int, wt_bool] at *; omega)
  rw [if_neg hT]
  apply Ret.eq
  rw [op8]
  simp [alU, Tryz.f8, valC, q0, p0, q1, o0_0, o0_1, o1, o2_1]
 rw [if_pos g1] at q1
 have p1 : ¬ (((left - wt (.st [(.lst l0_0), (.lst l0_1)]) - wt (.lst l1) : Nat) : Int) < 0) := by omega
 have q2 := anr H _ _ (left - wt (.st [(.lst l0_0), (.lst l0_1)]) - wt (.lst l1)) k2 (by omega)
 simp only [valC, List.headD_cons, List.append_nil, List.cons_append, List.nil_append] at q2
 by_cases g2 : wt (.st [(.int n2_0), (.lst l2_1)]) ≤ left - wt (.st [(.lst l0_0), (.lst l0_1)]) - wt (.lst l1)
 rotate_left
 ·rw [if_neg g2] at q2
  have hT : ¬ wt (U.st [(.st [(.lst l0_0), (.lst l0_1)]), (.lst l1), (.st [(.int n2_0), (.lst l2_1)]), (.str s3)]) ≤ left := by first | (simp only [wt_st, wts_cons, wts_nil, wt_str, wt_int, wt_bool]; omega) | (simp only [wt_st, wts_cons, wts_nil, wt_str, wt_int, wt_bool] at *; omega)
  rw [if_neg hT]
  apply Ret.eq
  rw [op8]
  simp [alU, Tryz.f8, valC, q0, p0, q1, p1, q2, o0_0, o0_1, o1, o2_1]
 rw [if_pos g2] at q2
 have p2 : ¬ (((left - wt (.st [(.lst l0_0), (.lst l0_1)]) - wt (.lst l1) - wt (.st [(.int n2_0), (.lst l2_1)]) : Nat) : Int) < 0) := by omega
 by_cases g3 : s3.length ≤ left - wt (.st [(.lst l0_0), (.lst l0_1)]) - wt (.lst l1) - wt (.st [(.int n2_0), (.lst l2_1)])
 rotate_left
 ·have q3 : IntKind.i64.wrap (((left - wt (.st [(.lst l0_0), (.lst l0_1)]) - wt (.lst l1) - wt (.st [(.int n2_0), (.lst l2_1)]) : Nat) : Int) - s3.length) = ((left - wt (.st [(.lst l0_0), (.lst l0_1)]) - wt (.lst l1) - wt (.st [(.int n2_0), (.lst l2_1)]) : Nat) : Int) - s3.length := wrap_i64 (by have : s3.length ≤ 9223372036854775807 := w3; omega) (by omega)
  have p3 : ((left - wt (.st [(.lst l0_0), (.lst l0_1)]) - wt (.lst l1) - wt (.st [(.int n2_0), (.lst l2_1)]) : Nat) : Int) - s3.length < 0 := by omega
  have hT : ¬ wt (U.st [(.st [(.lst l0_0), (.lst l0_1)]), (.lst l1), (.st [(.int n2_0), (.lst l2_1)]), (.str s3)]) ≤ left := by first | (simp only [wt_st, wts_cons, wts_nil, wt_str, wt_int, wt_bool]; omega) | (simp only [wt_st, wts_cons, wts_nil, wt_str, wt_int, wt_bool] at *; omega)
  rw [if_neg hT]
  apply Ret.eq
  rw [op8]
  simp [alU, Tryz.f8, valC, q0, p0, q1, p1, q2, p2, q3, p3, o0_0, o0_1, o1, o2_1]
 have q3 : IntKind.i64.wrap (((left - wt (.st [(.lst l0_0), (.lst l0_1)]) - wt (.lst l1) - wt (.st [(.int n2_0), (.lst l2_1)]) : Nat) : Int) - s3.length) = ((left - wt (.st [(.lst l0_0), (.lst l0_1)]) - wt (.lst l1) - wt (.st [(.int n2_0), (.lst l2_1)]) - s3.length : Nat) : Int) := by rw [wrap_i64 (by omega) (by omega)]; omega
 have p3 : ¬ (((left - wt (.st [(.lst l0_0), (.lst l0_1)]) - wt (.lst l1) - wt (.st [(.int n2_0), (.lst l2_1)]) - s3.length : Nat) : Int) < 0) := by omega
 have hT : wt (U.st [(.st [(.lst l0_0), (.lst l0_1)]), (.lst l1), (.st [(.int n2_0), (.lst l2_1)]), (.str s3)]) ≤ left := by first | (simp only [wt_st, wts_cons, wts_nil, wt_str, wt_int, wt_bool]; omega) | (simp only [wt_st, wts_cons, wts_nil, wt_str, wt_int, wt_bool] at *; omega)
 have hE : left - wt (U.st [(.st [(.lst l0_0), (.lst l0_1)]), (.lst l1), (.st [(.int n2_0), (.lst l2_1)]), (.str s3)]) = left - wt (.st [(.lst l0_0), (.lst l0_1)]) - wt (.lst l1) - wt (.st [(.int n2_0), (.lst l2_1)]) - s3.length := by first | (simp only [wt_st, wts_cons, wts_nil, wt_str, wt_int, wt_bool]; omega) | (simp only [wt_st, wts_cons, wts_nil, wt_str, wt_int, wt_bool] at *; omega)
 rw [if_pos hT, hE]
 apply Ret.eq
 rw [op8]
 simp [alU, Tryz.f8, valC, q0, p0, q1, p1, q2, p2, q3, p3, o0_0, o0_1, o1, o2_1]
theorem aui : aiK 256 shRow := by
 intro H cs u left h hleft
 replace h := At_st.1 h
 obtain ⟨us, rfl, h⟩ := h
 replace h := Ats_cons.1 h
 obtain ⟨c0, d0, u0, rr0, rfl, rfl, h0, h⟩ := h
 replace h := Ats_cons.1 h
 obtain ⟨c1, d1, u1, rr1, rfl, rfl, h1, h⟩ := h
 replace h := Ats_cons.1 h
 obtain ⟨c2, d2, u2, rr2, rfl, rfl, h2, h⟩ := h
 replace h := Ats_cons.1 h
 obtain ⟨c3, d3, u3, rr3, rfl, rfl, h3, h⟩ := h
 replace h := Ats_cons.1 h
 obtain ⟨c4, d4, u4, rr4, rfl, rfl, h4, h⟩ := h
 replace h := Ats_cons.1 h
 obtain ⟨c5, d5, u5, rr5, rfl, rfl, h5, h⟩ := h
 replace h := Ats_cons.1 h
 obtain ⟨c6, d6, u6, rr6, rfl, rfl, h6, h⟩ := h
 replace h := Ats_nil.1 h
 obtain ⟨rfl, rfl⟩ := h
 replace h0 := At_int.1 h0
 obtain ⟨n0, rfl, rfl, w0⟩ := h0
 replace h1 := At_str.1 h1
 obtain ⟨s1, rfl, rfl, w1⟩ := h1
 replace h2 := At_str.1 h2
 obtain ⟨s2, rfl, rfl, w2⟩ := h2
 replace h3 := At_str.1 h3
 obtain ⟨s3, rfl, rfl, w3⟩ := h3
 replace h4 := At_bool.1 h4
 obtain ⟨b4, rfl, rfl⟩ := h4
 replace h5 := At_int.1 h5
 obtain ⟨n5, rfl, rfl, w5⟩ := h5
 replace h6 := At_bool.1 h6
 obtain ⟨b6, rfl, rfl⟩ := h6
 by_cases g1 : s1.length ≤ left
 rotate_left
 ·have q1 : IntKind.i64.wrap (((left : Nat) : Int) - s1.length) = ((left : Nat) : Int) - s1.length := wrap_i64 (by have : s1.length ≤ 9223372036854775807 := w1; omega) (by omega)
  have p1 : ((left : Nat) : Int) - s1.length < 0 := by omega
  have hT : ¬ wt (U.st [(.int n0), (.str s1), (.str s2), (.str s3), (.bool b4), (.int n5), (.bool b6)]) ≤ left := by first | (simp only [wt_st, wts_cons, wts_nil, wt_str, wt_int, wt_bool]; omega) | (simp only [wt_st, wts_cons, wts_nil, wt_str, wt_int, wt_bool] at *; omega)
  rw [if_neg hT]
  apply Ret.eq
  rw [aoN]
  simp [akr, Tryz.f256, valC, q1, p1]
 have q1 : IntKind.i64.wrap (((left : Nat) : Int) - s1.length) = ((left - s1.length : Nat) : Int) := by rw [wrap_i64 (by omega) (by omega)]; omega
 have p1 : ¬ (((left - s1.length : Nat) : Int) < 0) := by omega
 by_cases g2 : s2.length ≤ left - s1.length
 rotate_left
 ·have q2 : IntKind.i64.wrap (((left - s1.length : Nat) : Int) - s2.length) = ((left - s1.length : Nat) : Int) - s2.length := wrap_i64 (by have : s2.length ≤ 9223372036854775807 := w2; omega) (by omega)
  have p2 : ((left - s1.length : Nat) : Int) - s2.length < 0 := by omega
  have hT : ¬ wt (U.st [(.int n0), (.str s1), (.str s2), (.str s3), (.bool b4), (.int n5), (.bool b6)]) ≤ left := by first | (simp only [wt_st, wts_cons, wts_nil, wt_str, wt_int, wt_bool]; omega) | (simp only [wt_st, wts_cons, wts_nil, wt_str, wt_int, wt_bool] at *; omega)
  rw [if_neg hT]
  apply Ret.eq
  rw [aoN]
  simp [akr, Tryz.f256, valC, q1, p1, q2, p2]
 have q2 : IntKind.i64.wrap (((left - s1.length : Nat) : Int) - s2.length) = ((left - s1.length - s2.length : Nat) : Int) := by rw [wrap_i64 (by omega) (by omega)]; omega
 have p2 : ¬ (((left - s1.length - s2.length : Nat) : Int) < 0) := by omega
 by_cases g3 : s3.length ≤ left - s1.length - s2.length
 rotate_left
 ·have q3 : IntKind.i64.wrap (((left - s1.length - s2.length : Nat) : Int) - s3.length) = ((left - s1.length - s2.length : Nat) : Int) - s3.length := wrap_i64 (by have : s3.length ≤ 9223372036854775807 := w3; omega) (by omega)
  have p3 : ((left - s1.length - s2.length : Nat) : Int) - s3.length < 0 := by omega
  have hT : ¬ wt (U.st [(.int n0), (.str s1), (.str s2), (.str s3), (.bool b4), (.int n5), (.bool b6)]) ≤ left := by first | (simp only [wt_st, wts_cons, wts_nil, wt_str, wt_int, wt_bool]; omega) | (simp only [wt_st, wts_cons, wts_nil, wt_str, wt_int, wt_bool] at *; omega)
  rw [if_neg hT]
  apply Ret.eq
  rw [aoN]
  simp [akr, Tryz.f256, valC, q1, p1, q2, p2, q3, p3]
 have q3 : IntKind.i64.wrap (((left - s1.length - s2.length : Nat) : Int) - s3.length) = ((left - s1.length - s2.length - s3.length : Nat) : Int) := by rw [wrap_i64 (by omega) (by omega)]; omega
 have p3 : ¬ (((left - s1.length - s2.length - s3.length : Nat) : Int) < 0) := by omega
 have hT : wt (U.st [(.int n0), (.str s1), (.str s2), (.str s3), (.bool b4), (.int n5), (.bool b6)]) ≤ left := by first | (simp only [wt_st, wts_cons, wts_nil, wt_str, wt_int, wt_bool]; omega) | (simp only [wt_st, wts_cons, wts_nil, wt_str, wt_int, wt_bool] at *; omega)
 have hE : left - wt (U.st [(.int n0), (.str s1), (.str s2), (.str s3), (.bool b4), (.int n5), (.bool b6)]) = left - s1.length - s2.length - s3.length := by first | (simp only [wt_st, wts_cons, wts_nil, wt_str, wt_int, wt_bool]; omega) | (simp only [wt_st, wts_cons, wts_nil, wt_str, wt_int, wt_bool] at *; omega)
 rw [if_pos hT, hE]
 apply Ret.eq
 rw [aoN]
 simp [akr, Tryz.f256, valC, q1, p1, q2, p2, q3, p3]
theorem ar4 : aiK 174 (.slice shRow) :=
 akj (f := 174) (g := 256) (tS := 79) (tE := 305) (F := Tryz.f174) (op_ren (c := aod) (by kernel_rfl) avZ) rfl avO (by rw [alW]; rfl) (by rw [alW]; rfl) (by rw [alW]; decide) aui
theorem aqp : aiK 89 shTable := by
 intro H cs u left h hleft
 replace h := At_st.1 h
 obtain ⟨us, rfl, h⟩ := h
 replace h := Ats_cons.1 h
 obtain ⟨c0, d0, u0, rr0, rfl, rfl, h0, h⟩ := h
 replace h := Ats_cons.1 h
 obtain ⟨c1, d1, u1, rr1, rfl, rfl, h1, h⟩ := h
 replace h := Ats_cons.1 h
 obtain ⟨c2, d2, u2, rr2, rfl, rfl, h2, h⟩ := h
 replace h := Ats_nil.1 h
 obtain ⟨rfl, rfl⟩ := h
 replace h0 := At_int.1 h0
 obtain ⟨n0, rfl, rfl, w0⟩ := h0
 replace h1 := At_int.1 h1
 obtain ⟨n1, rfl, rfl, w1⟩ := h1
 have k2 := h2
 replace h2 := At_slice.1 h2
 obtain ⟨v2, l2, rfl, rfl, w2, hv2⟩ := h2
 have o2 := hv2.one
 have q2 := ar4 H _ _ (left) k2 (by omega)
 simp only [valC, List.headD_cons, List.append_nil, List.cons_append, List.nil_append] at q2
 by_cases g2 : wt (.lst l2) ≤ left
 rotate_left
 ·rw [if_neg g2] at q2
  have hT : ¬ wt (U.st [(.int n0), (.int n1), (.lst l2)]) ≤ left := by first | (simp only [wt_st, wts_cons, wts_nil, wt_str, wt_int, wt_bool]; omega) | (simp only [wt_st, wts_cons, wts_nil, wt_str, wt_int, wt_bool] at *; omega)
  rw [if_neg hT]
  apply Ret.eq
  rw [axJ]
  simp [anJ, Tryz.f89, valC, q2, o2]
 rw [if_pos g2] at q2
 have p2 : ¬ (((left - wt (.lst l2) : Nat) : Int) < 0) := by omega
 have hT : wt (U.st [(.int n0), (.int n1), (.lst l2)]) ≤ left := by first | (simp only [wt_st, wts_cons, wts_nil, wt_str, wt_int, wt_bool]; omega) | (simp only [wt_st, wts_cons, wts_nil, wt_str, wt_int, wt_bool] at *; omega)
 have hE : left - wt (U.st [(.int n0), (.int n1), (.lst l2)]) = left - wt (.lst l2) := by first | (simp only [wt_st, wts_cons, wts_nil, wt_str, wt_int, wt_bool]; omega) | (simp only [wt_st, wts_cons, wts_nil, wt_str, wt_int, wt_bool] at *; omega)
 rw [if_pos hT, hE]
 apply Ret.eq
 rw [axJ]
 simp [anJ, Tryz.f89, valC, q2, p2, o2]
theorem amY : aiK 32 shWorld := by
 intro H cs u left h hleft
 replace h := At_st.1 h
 obtain ⟨us, rfl, h⟩ := h
 replace h := Ats_cons.1 h
 obtain ⟨c0, d0, u0, rr0, rfl, rfl, h0, h⟩ := h
 replace h := Ats_cons.1 h
 obtain ⟨c1, d1, u1, rr1, rfl, rfl, h1, h⟩ := h
 replace h := Ats_cons.1 h
 obtain ⟨c2, d2, u2, rr2, rfl, rfl, h2, h⟩ := h
 replace h := Ats_cons.1 h
 obtain ⟨c3, d3, u3, rr3, rfl, rfl, h3, h⟩ := h
 replace h := Ats_cons.1 h
 obtain ⟨c4, d4, u4, rr4, rfl, rfl, h4, h⟩ := h
 replace h := Ats_nil.1 h
 obtain ⟨rfl, rfl⟩ := h
 have k0 := h0
 replace h0 := At_st.1 h0
 obtain ⟨us0_, rfl, h0⟩ := h0
 replace h0 := Ats_cons.1 h0
 obtain ⟨c0_0, d0_0, u0_0, rr0_0, rfl, rfl, h0_0, h0⟩ := h0
 replace h0 := Ats_cons.1 h0
 obtain ⟨c0_1, d0_1, u0_1, rr0_1, rfl, rfl, h0_1, h0⟩ := h0
 replace h0 := Ats_cons.1 h0
 obtain ⟨c0_2, d0_2, u0_2, rr0_2, rfl, rfl, h0_2, h0⟩ := h0
 replace h0 := Ats_cons.1 h0
 obtain ⟨c0_3, d0_3, u0_3, rr0_3, rfl, rfl, h0_3, h0⟩ := h0
 replace h0 := Ats_nil.1 h0
 obtain ⟨rfl, rfl⟩ := h0
 have k0_0 := h0_0
 replace h0_0 := At_st.1 h0_0
 obtain ⟨us0_0_, rfl, h0_0⟩ := h0_0
 replace h0_0 := Ats_cons.1 h0_0
 obtain ⟨c0_0_0, d0_0_0, u0_0_0, rr0_0_0, rfl, rfl, h0_0_0, h0_0⟩ := h0_0
 replace h0_0 := Ats_cons.1 h0_0
 obtain ⟨c0_0_1, d0_0_1, u0_0_1, rr0_0_1, rfl, rfl, h0_0_1, h0_0⟩ := h0_0
 replace h0_0 := Ats_nil.1 h0_0
 obtain ⟨rfl, rfl⟩ := h0_0
 have k0_0_0 := h0_0_0
 replace h0_0_0 := At_slice.1 h0_0_0
 obtain ⟨v0_0_0, l0_0_0, rfl, rfl, w0_0_0, hv0_0_0⟩ := h0_0_0
 have o0_0_0 := hv0_0_0.one
 have k0_0_1 := h0_0_1
 replace h0_0_1 := At_slice.1 h0_0_1
 obtain ⟨v0_0_1, l0_0_1, rfl, rfl, w0_0_1, hv0_0_1⟩ := h0_0_1
 have o0_0_1 := hv0_0_1.one
 have k0_1 := h0_1
 replace h0_1 := At_slice.1 h0_1
 obtain ⟨v0_1, l0_1, rfl, rfl, w0_1, hv0_1⟩ := h0_1
 have o0_1 := hv0_1.one
 have k0_2 := h0_2
 replace h0_2 := At_st.1 h0_2
 obtain ⟨us0_2_, rfl, h0_2⟩ := h0_2
 replace h0_2 := Ats_cons.1 h0_2
 obtain ⟨c0_2_0, d0_2_0, u0_2_0, rr0_2_0, rfl, rfl, h0_2_0, h0_2⟩ := h0_2
 replace h0_2 := Ats_cons.1 h0_2
 obtain ⟨c0_2_1, d0_2_1, u0_2_1, rr0_2_1, rfl, rfl, h0_2_1, h0_2⟩ := h0_2
 replace h0_2 := Ats_nil.1 h0_2
 obtain ⟨rfl, rfl⟩ := h0_2
 replace h0_2_0 := At_int.1 h0_2_0
 obtain ⟨n0_2_0, rfl, rfl, w0_2_0⟩ := h0_2_0
 have k0_2_1 := h0_2_1
 replace h0_2_1 := At_slice.1 h0_2_1
 obtain ⟨v0_2_1, l0_2_1, rfl, rfl, w0_2_1, hv0_2_1⟩ := h0_2_1
 have o0_2_1 := hv0_2_1.one
 replace h0_3 := At_str.1 h0_3
 obtain ⟨s0_3, rfl, rfl, w0_3⟩ := h0_3
 have k1 := h1
 replace h1 := At_st.1 h1
 obtain ⟨us1_, rfl, h1⟩ := h1
 replace h1 := Ats_cons.1 h1
 obtain ⟨c1_0, d1_0, u1_0, rr1_0, rfl, rfl, h1_0, h1⟩ := h1
 replace h1 := Ats_cons.1 h1
 obtain ⟨c1_1, d1_1, u1_1, rr1_1, rfl, rfl, h1_1, h1⟩ := h1
 replace h1 := Ats_cons.1 h1
 obtain ⟨c1_2, d1_2, u1_2, rr1_2, rfl, rfl, h1_2, h1⟩ := h1
 replace h1 := Ats_nil.1 h1
 obtain ⟨rfl, rfl⟩ := h1
 replace h1_0 := At_int.1 h1_0
 obtain ⟨n1_0, rfl, rfl, w1_0⟩ := h1_0
 replace h1_1 := At_int.1 h1_1
 obtain ⟨n1_1, rfl, rfl, w1_1⟩ := h1_1
 have k1_2 := h1_2
 replace h1_2 := At_slice.1 h1_2
 obtain ⟨v1_2, l1_2, rfl, rfl, w1_2, hv1_2⟩ := h1_2
 have o1_2 := hv1_2.one
 have k2 := h2
 replace h2 := At_st.1 h2
 obtain ⟨us2_, rfl, h2⟩ := h2
 replace h2 := Ats_cons.1 h2
 obtain ⟨c2_0, d2_0, u2_0, rr2_0, rfl, rfl, h2_0, h2⟩ := h2
 replace h2 := Ats_cons.1 h2
 obtain ⟨c2_1, d2_1, u2_1, rr2_1, rfl, rfl, h2_1, h2⟩ := h2
 replace h2 := Ats_cons.1 h2
 obtain ⟨c2_2, d2_2, u2_2, rr2_2, rfl, rfl, h2_2, h2⟩ := h2
 replace h2 := Ats_cons.1 h2
 obtain ⟨c2_3, d2_3, u2_3, rr2_3, rfl, rfl, h2_3, h2⟩ := h2
 replace h2 := Ats_cons.1 h2
 obtain ⟨c2_4, d2_4, u2_4, rr2_4, rfl, rfl, h2_4, h2⟩ := h2
 replace h2 := Ats_cons.1 h2
 obtain ⟨c2_5, d2_5, u2_5, rr2_5, rfl, rfl, h2_5, h2⟩ := h2
 replace h2 := Ats_nil.1 h2
 obtain ⟨rfl, rfl⟩ := h2
 have k2_0 := h2_0
 replace h2_0 := At_slice.1 h2_0
 obtain ⟨v2_0, l2_0, rfl, rfl, w2_0, hv2_0⟩ := h2_0
 have o2_0 := hv2_0.one
 have k2_1 := h2_1
 replace h2_1 := At_slice.1 h2_1
 obtain ⟨v2_1, l2_1, rfl, rfl, w2_1, hv2_1⟩ := h2_1
 have o2_1 := hv2_1.one
 have k2_2 := h2_2
 replace h2_2 := At_slice.1 h2_2
 obtain ⟨v2_2, l2_2, rfl, rfl, w2_2, hv2_2⟩ := h2_2
 have o2_2 := hv2_2.one
 have k2_3 := h2_3
 replace h2_3 := At_slice.1 h2_3
 obtain ⟨v2_3, l2_3, rfl, rfl, w2_3, hv2_3⟩ := h2_3
 have o2_3 := hv2_3.one
 have k2_4 := h2_4
 replace h2_4 := At_slice.1 h2_4
 obtain ⟨v2_4, l2_4, rfl, rfl, w2_4, hv2_4⟩ := h2_4
 have o2_4 := hv2_4.one
 replace h2_5 := At_bool.1 h2_5
 obtain ⟨b2_5, rfl, rfl⟩ := h2_5
 replace h3 := At_int.1 h3
 obtain ⟨n3, rfl, rfl, w3⟩ := h3
 replace h4 := At_int.1 h4
 obtain ⟨n4, rfl, rfl, w4⟩ := h4
 have q0 := al1 H _ _ (left) k0 (by omega)
 simp only [valC, List.headD_cons, List.append_nil, List.cons_append, List.nil_append] at q0
 by_cases g0 : wt (.st [(.st [(.lst l0_0_0), (.lst l0_0_1)]), (.lst l0_1), (.st [(.int n0_2_0), (.lst l0_2_1)]), (.str s0_3)]) ≤ left
 rotate_left
 ·rw [if_neg g0] at q0
  have hT : ¬ wt (U.st [(.st [(.st [(.lst l0_0_0), (.lst l0_0_1)]), (.lst l0_1), (.st [(.int n0_2_0), (.lst l0_2_1)]), (.str s0_3)]), (.st [(.int n1_0), (.int n1_1), (.lst l1_2)]), (.st [(.lst l2_0), (.lst l2_1), (.lst l2_2), (.lst l2_3), (.lst l2_4), (.bool b2_5)]), (.int n3), (.int n4)]) ≤ left := by first | (simp only [wt_st, wts_cons, wts_nil, wt_str, wt_int, wt_bool]; omega) | (simp only [wt_st, wts_cons, wts_nil, wt_str, wt_int, wt_bool] at *; omega)
  rw [if_neg hT]
  apply Ret.eq
  rw [ar0]
  simp [alr, Tryz.f32, valC, q0, o0_0_0, o0_0_1, o0_1, o0_2_1, o1_2, o2_0, o2_1, o2_2, o2_3, o2_4]
 rw [if_pos g0] at q0
 have p0 : ¬ (((left - wt (.st [(.st [(.lst l0_0_0), (.lst l0_0_1)]), (.lst l0_1), (.st [(.int n0_2_0), (.lst l0_2_1)]), (.str s0_3)]) : Nat) : Int) < 0) := by omega
 have q1 := aqp H _ _ (left - wt (.st [(.st [(.lst l0_0_0), (.lst l0_0_1)]), (.lst l0_1), (.st [(.int n0_2_0), (.lst l0_2_1)]), (.str s0_3)])) k1 (by omega)
 simp only [valC, List.headD_cons, List.append_nil, List.cons_append, List.nil_append] at q1
 by_cases g1 : wt (.st [(.int n1_0), (.int n1_1), (.lst l1_2)]) ≤ left - wt (.st [(.st [(.lst l0_0_0), (.lst l0_0_1)]), (.lst l0_1), (.st [(.int n0_2_0), (.lst l0_2_1)]), (.str s0_3)])
 rotate_left
 ·rw [if_neg g1] at q1
  have hT : ¬ wt (U.st [(.st [(.st [(.lst l0_0_0), (.lst l0_0_1)]), (.lst l0_1), (.st [(.int n0_2_0), (.lst l0_2_1)]), (.str s0_3)]), (.st [(.int n1_0), (.int n1_1), (.lst l1_2)]), (.st [(.lst l2_0), (.lst l2_1), (.lst l2_2), (.lst l2_3), (.lst l2_4), (.bool b2_5)]), (.int n3), (.int n4)]) ≤ left := by first | (simp only [wt_st, wts_cons, wts_nil, wt_str, wt_int, wt_bool]; omega) | (simp only [wt_st, wts_cons, wts_nil, wt_str, wt_int, wt_bool] at *; omega)
  rw [if_neg hT]
  apply Ret.eq
  rw [ar0]
  simp [alr, Tryz.f32, valC, q0, p0, q1, o0_0_0, o0_0_1, o0_1, o0_2_1, o1_2, o2_0, o2_1, o2_2, o2_3, o2_4]
 rw [if_pos g1] at q1
 have p1 : ¬ (((left - wt (.st [(.st [(.lst l0_0_0), (.lst l0_0_1)]), (.lst l0_1), (.st [(.int n0_2_0), (.lst l0_2_1)]), (.str s0_3)]) - wt (.st [(.int n1_0), (.int n1_1), (.lst l1_2)]) : Nat) : Int) < 0) := by omega
 have q2 := asI H _ _ (left - wt (.st [(.st [(.lst l0_0_0), (.lst l0_0_1)]), (.lst l0_1), (.st [(.int n0_2_0), (.lst l0_2_1)]), (.str s0_3)]) - wt (.st [(.int n1_0), (.int n1_1), (.lst l1_2)])) k2 (by omega)
 simp only [valC, List.headD_cons, List.append_nil, List.cons_append, List.nil_append] at q2
 by_cases g2 : wt (.st [(.lst l2_0), (.lst l2_1), (.lst l2_2), (.lst l2_3), (.lst l2_4), (.bool b2_5)]) ≤ left - wt (.st [(.st [(.lst l0_0_0), (.lst l0_0_1)]), (.lst l0_1), (.st [(.int n0_2_0), (.lst l0_2_1)]), (.str s0_3)]) - wt (.st [(.int n1_0), (.int n1_1), (.lst l1_2)])
 rotate_left
 ·rw [if_neg g2] at q2
  have hT : ¬ wt (U.st [(.st [(.st [(.lst l0_0_0), (.lst l0_0_1)]), (.lst l0_1), (.st [(.int n0_2_0), (.lst l0_2_1)]), (.str s0_3)]), (.st [(.int n1_0), (.int n1_1), (.lst l1_2)]), (.st [(.lst l2_0), (.lst l2_1), (.lst l2_2), (.lst l2_3), (.lst l2_4), (.bool b2_5)]), (.int n3), (.int n4)]) ≤ left := by first | (simp only [wt_st, wts_cons, wts_nil, wt_str, wt_int, wt_bool]; omega) | (simp only [wt_st, wts_cons, wts_nil, wt_str, wt_int, wt_bool] at *; omega)
  rw [if_neg hT]
  apply Ret.eq
  rw [ar0]
  simp [alr, Tryz.f32, valC, q0, p0, q1, p1, q2, o0_0_0, o0_0_1, o0_1, o0_2_1, o1_2, o2_0, o2_1, o2_2, o2_3, o2_4]
 rw [if_pos g2] at q2
 have p2 : ¬ (((left - wt (.st [(.st [(.lst l0_0_0), (.lst l0_0_1)]), (.lst l0_1), (.st [(.int n0_2_0), (.lst l0_2_1)]), (.str s0_3)]) - wt (.st [(.int n1_0), (.int n1_1), (.lst l1_2)]) - wt (.st [(.lst l2_0), (.lst l2_1), (.lst l2_2), (.lst l2_3), (.lst l2_4), (.bool b2_5)]) : Nat) : Int) < 0) := by omega
 have hT : wt (U.st [(.st [(.st [(.lst l0_0_0), (.lst l0_0_1)]), (.lst l0_1), (.st [(.int n0_2_0), (.lst l0_2_1)]), (.str s0_3)]), (.st [(.int n1_0), (.int n1_1), (.lst l1_2)]), (.st [(.lst l2_0), (.lst l2_1), (.lst l2_2), (.lst l2_3), (.lst l2_4), (.bool b2_5)]), (.int n3), (.int n4)]) ≤ left := by first | (simp only [wt_st, wts_cons, wts_nil, wt_str, wt_int, wt_bool]; omega) | (simp only [wt_st, wts_cons, wts_nil, wt_str, wt_int, wt_bool] at *; omega)
 have hE : left - wt (U.st [(.st [(.st [(.lst l0_0_0), (.lst l0_0_1)]), (.lst l0_1), (.st [(.int n0_2_0), (.lst l0_2_1)]), (.str s0_3)]), (.st [(.int n1_0), (.int n1_1), (.lst l1_2)]), (.st [(.lst l2_0), (.lst l2_1), (.lst l2_2), (.lst l2_3), (.lst l2_4), (.bool b2_5)]), (.int n3), (.int n4)]) = left - wt (.st [(.st [(.lst l0_0_0), (.lst l0_0_1)]), (.lst l0_1), (.st [(.int n0_2_0), (.lst l0_2_1)]), (.str s0_3)]) - wt (.st [(.int n1_0), (.int n1_1), (.lst l1_2)]) - wt (.st [(.lst l2_0), (.lst l2_1), (.lst l2_2), (.lst l2_3), (.lst l2_4), (.bool b2_5)]) := by first | (simp only [wt_st, wts_cons, wts_nil, wt_str, wt_int, wt_bool]; omega) | (simp only [wt_st, wts_cons, wts_nil, wt_str, wt_int, wt_bool] at *; omega)
 rw [if_pos hT, hE]
 apply Ret.eq
 rw [ar0]
 simp [alr, Tryz.f32, valC, q0, p0, q1, p1, q2, p2, o0_0_0, o0_0_1, o0_1, o0_2_1, o1_2, o2_0, o2_1, o2_2, o2_3, o2_4]
theorem arV : aiH 108 shRule := by
 intro H cs u h hwt
 replace h := At_st.1 h
 obtain ⟨us, rfl, h⟩ := h
 replace h := Ats_cons.1 h
 obtain ⟨c0, d0, u0, rr0, rfl, rfl, h0, h⟩ := h
 replace h := Ats_cons.1 h
 obtain ⟨c1, d1, u1, rr1, rfl, rfl, h1, h⟩ := h
 replace h := Ats_cons.1 h
 obtain ⟨c2, d2, u2, rr2, rfl, rfl, h2, h⟩ := h
 replace h := Ats_cons.1 h
 obtain ⟨c3, d3, u3, rr3, rfl, rfl, h3, h⟩ := h
 replace h := Ats_cons.1 h
 obtain ⟨c4, d4, u4, rr4, rfl, rfl, h4, h⟩ := h
 replace h := Ats_nil.1 h
 obtain ⟨rfl, rfl⟩ := h
 replace h0 := At_str.1 h0
 obtain ⟨s0, rfl, rfl, w0⟩ := h0
 have k1 := h1
 replace h1 := At_slice.1 h1
 obtain ⟨v1, l1, rfl, rfl, w1, hv1⟩ := h1
 have o1 := hv1.one
 have k2 := h2
 replace h2 := At_slice.1 h2
 obtain ⟨v2, l2, rfl, rfl, w2, hv2⟩ := h2
 have o2 := hv2.one
 replace h3 := At_int.1 h3
 obtain ⟨n3, rfl, rfl, w3⟩ := h3
 replace h4 := At_bool.1 h4
 obtain ⟨b4, rfl, rfl⟩ := h4
 simp only [wt_st, wts_cons, wts_nil, wt_str, wt_int, wt_bool] at hwt
 obtain ⟨T1, x1, G1, q1, a1, m1, g1⟩ := amv (H) _ _ (k1) (by first | omega | (simp only [wt_st, wts_cons, wts_nil, wt_str, wt_int, wt_bool]; omega))
 have y1 := a1
 obtain ⟨z1, _, rfl, zz1, _, _⟩ := AtF_slice.1 y1
 cases zz1
 have oz1 := (At_slice.1 (AtF.at _ a1))
 obtain ⟨_, _, x1, x2, _, oz1⟩ := oz1
 cases x1
 cases x2
 have oz1 := oz1.one
 simp only [valC, List.headD_cons, List.append_nil, List.cons_append, List.nil_append, List.append_assoc] at q1
 obtain ⟨T2, x2, G2, q2, a2, m2, g2⟩ := ai2 (H ++ T1) _ _ (k2.ext) (by first | omega | (simp only [wt_st, wts_cons, wts_nil, wt_str, wt_int, wt_bool]; omega))
 have y2 := a2
 obtain ⟨z2, _, rfl, zz2, _, _⟩ := AtF_slice.1 y2
 cases zz2
 have oz2 := (At_slice.1 (AtF.at _ a2))
 obtain ⟨_, _, x1, x2, _, oz2⟩ := oz2
 cases x1
 cases x2
 have oz2 := oz2.one
 simp only [valC, List.headD_cons, List.append_nil, List.cons_append, List.nil_append, List.append_assoc] at q2
 have hA : AtF (H ++ T1 ++ T2) shRule _ _ _ := AtF_st.2 ⟨_, rfl, AtsF_cons.2 ⟨[_], _, _, _, [], _, rfl, rfl, rfl, AtF_str.2 ⟨⟨_, rfl, rfl, w0⟩, rfl⟩, AtsF_cons.2 ⟨[_], _, _, _, G1, _, rfl, rfl, rfl, (a1.app), AtsF_cons.2 ⟨[_], _, _, _, G2, _, rfl, rfl, rfl, (a2), AtsF_cons.2 ⟨[_], _, _, _, [], _, rfl, rfl, rfl, AtF_int.2 ⟨⟨_, rfl, rfl, w3⟩, rfl⟩, AtsF_cons.2 ⟨[_], _, _, _, [], _, rfl, rfl, rfl, AtF_bool.2 ⟨⟨b4, rfl, rfl⟩, rfl⟩, AtsF_nil.2 ⟨rfl, rfl, rfl⟩⟩⟩⟩⟩⟩⟩
 simp only [List.append_assoc, List.nil_append, List.append_nil] at hA
 simp only [List.length_append] at g1 g2
 have hge : ∀ q ∈ G1 ++ (G2), H.length ≤ q := by
  intro q hq
  try simp only [List.mem_append] at hq
  rcases hq with hq | hq
  ·have := g1 q hq; omega
  ·have := g2 q hq; omega
 have hnd : (G1 ++ (G2)).Nodup := by
  have b1 := AtF.mem _ a1
  have b2 := AtF.mem _ a2
  simp only [List.length_append] at b1 b2
  refine List.nodup_append.2 ⟨m1, ?_, fun x hx y hy e => ?_⟩
  rotate_left
  ·subst e
   have := b1 x hx
   try simp only [List.mem_append] at hy
   ·have := g2 x hy; omega
  exact m2
 obtain ⟨T, hT, hA⟩ := gcH_to hA hge
 simp only [List.cons_append, List.nil_append, List.append_nil] at hT
 apply Ret.to
 rw [avu]
 simp [anY, Tryz.f108, valC, hT, q1, q2, o1, o2, oz1, oz2]
 exact ⟨_, hA, hnd, hge⟩
theorem aqK : aiH 45 (.slice shRule) :=
 aj9 (f := 45) (g := 108) (tS := 26) (tE := 150) (tS2 := 38) (tE2 := 162) (F := Tryz.f45) (op_ren (c := ap6) (by kernel_rfl) aCf) rfl avx (by rw [al2]; rfl) (by rw [al2]; rfl) (by rw [al2]; decide) (by decide) awZ ao7 rfl arV
theorem apC : aiH 193 shChange := by
 intro H cs u h hwt
 replace h := At_st.1 h
 obtain ⟨us, rfl, h⟩ := h
 replace h := Ats_cons.1 h
 obtain ⟨c0, d0, u0, rr0, rfl, rfl, h0, h⟩ := h
 replace h := Ats_cons.1 h
 obtain ⟨c1, d1, u1, rr1, rfl, rfl, h1, h⟩ := h
 replace h := Ats_cons.1 h
 obtain ⟨c2, d2, u2, rr2, rfl, rfl, h2, h⟩ := h
 replace h := Ats_cons.1 h
 obtain ⟨c3, d3, u3, rr3, rfl, rfl, h3, h⟩ := h
 replace h := Ats_nil.1 h
 obtain ⟨rfl, rfl⟩ := h
 replace h0 := At_int.1 h0
 obtain ⟨n0, rfl, rfl, w0⟩ := h0
 replace h1 := At_int.1 h1
 obtain ⟨n1, rfl, rfl, w1⟩ := h1
 replace h2 := At_str.1 h2
 obtain ⟨s2, rfl, rfl, w2⟩ := h2
 have k3 := h3
 replace h3 := At_st.1 h3
 obtain ⟨us3_, rfl, h3⟩ := h3
 replace h3 := Ats_cons.1 h3
 obtain ⟨c3_0, d3_0, u3_0, rr3_0, rfl, rfl, h3_0, h3⟩ := h3
 replace h3 := Ats_cons.1 h3
 obtain ⟨c3_1, d3_1, u3_1, rr3_1, rfl, rfl, h3_1, h3⟩ := h3
 replace h3 := Ats_nil.1 h3
 obtain ⟨rfl, rfl⟩ := h3
 have k3_0 := h3_0
 replace h3_0 := At_slice.1 h3_0
 obtain ⟨v3_0, l3_0, rfl, rfl, w3_0, hv3_0⟩ := h3_0
 have o3_0 := hv3_0.one
 have k3_1 := h3_1
 replace h3_1 := At_slice.1 h3_1
 obtain ⟨v3_1, l3_1, rfl, rfl, w3_1, hv3_1⟩ := h3_1
 have o3_1 := hv3_1.one
 simp only [wt_st, wts_cons, wts_nil, wt_str, wt_int, wt_bool] at hwt
 obtain ⟨T3, x3, G3, q3, a3, m3, g3⟩ := am2 (H) _ _ (k3) (by first | omega | (simp only [wt_st, wts_cons, wts_nil, wt_str, wt_int, wt_bool]; omega))
 obtain ⟨FY3, hFY3⟩ : ∃ F, F = G3 := ⟨_, rfl⟩
 have y3 := a3
 rw [← hFY3] at y3
 replace y3 := AtF_st.1 y3
 obtain ⟨usz3_, hu_, y3⟩ := y3
 cases hu_
 replace y3 := AtsF_cons.1 y3
 obtain ⟨cz3_0, dz3_0, uz3_0, rrz3_0, Fz3_0, Ez3_0, rfl, hu_, rfl, hz3_0, y3⟩ := y3
 cases hu_
 replace y3 := AtsF_cons.1 y3
 obtain ⟨cz3_1, dz3_1, uz3_1, rrz3_1, Fz3_1, Ez3_1, rfl, hu_, rfl, hz3_1, y3⟩ := y3
 cases hu_
 replace y3 := AtsF_nil.1 y3
 obtain ⟨rfl, hu_, rfl⟩ := y3
 cases hu_
 have kz3_0 := hz3_0
 replace hz3_0 := AtF_slice.1 hz3_0
 obtain ⟨vz3_0, lz3_0, rfl, hu_, wz3_0, hvz3_0⟩ := hz3_0
 cases hu_
 have oz3_0 := (At_slice.1 (AtF.at _ kz3_0))
 obtain ⟨_, _, x1, x2, _, oz3_0⟩ := oz3_0
 cases x1
 cases x2
 have oz3_0 := oz3_0.one
 have kz3_1 := hz3_1
 replace hz3_1 := AtF_slice.1 hz3_1
 obtain ⟨vz3_1, lz3_1, rfl, hu_, wz3_1, hvz3_1⟩ := hz3_1
 cases hu_
 have oz3_1 := (At_slice.1 (AtF.at _ kz3_1))
 obtain ⟨_, _, x1, x2, _, oz3_1⟩ := oz3_1
 cases x1
 cases x2
 have oz3_1 := oz3_1.one
 simp only [valC, List.headD_cons, List.append_nil, List.cons_append, List.nil_append, List.append_assoc] at q3
 have hA : AtF (H ++ T3) shChange _ _ _ := AtF_st.2 ⟨_, rfl, AtsF_cons.2 ⟨[_], _, _, _, [], _, rfl, rfl, rfl, AtF_int.2 ⟨⟨_, rfl, rfl, w0⟩, rfl⟩, AtsF_cons.2 ⟨[_], _, _, _, [], _, rfl, rfl, rfl, AtF_int.2 ⟨⟨_, rfl, rfl, w1⟩, rfl⟩, AtsF_cons.2 ⟨[_], _, _, _, [], _, rfl, rfl, rfl, AtF_str.2 ⟨⟨_, rfl, rfl, w2⟩, rfl⟩, AtsF_cons.2 ⟨_, _, _, _, G3, _, rfl, rfl, rfl, (a3), AtsF_nil.2 ⟨rfl, rfl, rfl⟩⟩⟩⟩⟩⟩
 simp only [List.append_assoc, List.nil_append, List.append_nil] at hA
 skip
 have hge : ∀ q ∈ G3, H.length ≤ q := by
  intro q hq
  try simp only [List.mem_append] at hq
  ·have := g3 q hq; omega
 have hnd : (G3).Nodup := by
  have b3 := AtF.mem _ a3
  exact m3
 obtain ⟨T, hT, hA⟩ := gcH_to hA hge
 simp only [List.cons_append, List.nil_append, List.append_nil] at hT
 apply Ret.to
 rw [aw2]
 simp [anZ, Tryz.f193, valC, hT, q3, o3_0, o3_1, oz3_0, oz3_1]
 exact ⟨_, hA, hnd, hge⟩
theorem anH : aiH 109 (.slice shChange) :=
 aj9 (f := 109) (g := 193) (tS := 27) (tE := 241) (tS2 := 39) (tE2 := 164) (F := Tryz.f109) (op_ren (c := aoB) (by kernel_rfl) awy) rfl aw9 (by rw [al7]; rfl) (by rw [al7]; rfl) (by rw [al7]; decide) (by decide) avM apa rfl apC
theorem anA : aiH 46 shChanges := by
 intro H cs u h hwt
 replace h := At_st.1 h
 obtain ⟨us, rfl, h⟩ := h
 replace h := Ats_cons.1 h
 obtain ⟨c0, d0, u0, rr0, rfl, rfl, h0, h⟩ := h
 replace h := Ats_cons.1 h
 obtain ⟨c1, d1, u1, rr1, rfl, rfl, h1, h⟩ := h
 replace h := Ats_nil.1 h
 obtain ⟨rfl, rfl⟩ := h
 replace h0 := At_int.1 h0
 obtain ⟨n0, rfl, rfl, w0⟩ := h0
 have k1 := h1
 replace h1 := At_slice.1 h1
 obtain ⟨v1, l1, rfl, rfl, w1, hv1⟩ := h1
 have o1 := hv1.one
 simp only [wt_st, wts_cons, wts_nil, wt_str, wt_int, wt_bool] at hwt
 obtain ⟨T1, x1, G1, q1, a1, m1, g1⟩ := anH (H) _ _ (k1) (by first | omega | (simp only [wt_st, wts_cons, wts_nil, wt_str, wt_int, wt_bool]; omega))
 have y1 := a1
 obtain ⟨z1, _, rfl, zz1, _, _⟩ := AtF_slice.1 y1
 cases zz1
 have oz1 := (At_slice.1 (AtF.at _ a1))
 obtain ⟨_, _, x1, x2, _, oz1⟩ := oz1
 cases x1
 cases x2
 have oz1 := oz1.one
 simp only [valC, List.headD_cons, List.append_nil, List.cons_append, List.nil_append, List.append_assoc] at q1
 have hA : AtF (H ++ T1) shChanges _ _ _ := AtF_st.2 ⟨_, rfl, AtsF_cons.2 ⟨[_], _, _, _, [], _, rfl, rfl, rfl, AtF_int.2 ⟨⟨_, rfl, rfl, w0⟩, rfl⟩, AtsF_cons.2 ⟨[_], _, _, _, G1, _, rfl, rfl, rfl, (a1), AtsF_nil.2 ⟨rfl, rfl, rfl⟩⟩⟩⟩
 simp only [List.append_assoc, List.nil_append, List.append_nil] at hA
 skip
 have hge : ∀ q ∈ G1, H.length ≤ q := by
  intro q hq
  try simp only [List.mem_append] at hq
  ·have := g1 q hq; omega
 have hnd : (G1).Nodup := by
  have b1 := AtF.mem _ a1
  exact m1
 obtain ⟨T, hT, hA⟩ := gcH_to hA hge
 simp only [List.cons_append, List.nil_append, List.append_nil] at hT
 apply Ret.to
 rw [aAU]
 simp [aqB, Tryz.f46, valC, hT, q1, o1, oz1]
 exact ⟨_, hA, hnd, hge⟩
theorem ajD : aiH 10 shServer := by
 intro H cs u h hwt
 replace h := At_st.1 h
 obtain ⟨us, rfl, h⟩ := h
 replace h := Ats_cons.1 h
 obtain ⟨c0, d0, u0, rr0, rfl, rfl, h0, h⟩ := h
 replace h := Ats_cons.1 h
 obtain ⟨c1, d1, u1, rr1, rfl, rfl, h1, h⟩ := h
 replace h := Ats_cons.1 h
 obtain ⟨c2, d2, u2, rr2, rfl, rfl, h2, h⟩ := h
 replace h := Ats_cons.1 h
 obtain ⟨c3, d3, u3, rr3, rfl, rfl, h3, h⟩ := h
 replace h := Ats_nil.1 h
 obtain ⟨rfl, rfl⟩ := h
 have k0 := h0
 replace h0 := At_st.1 h0
 obtain ⟨us0_, rfl, h0⟩ := h0
 replace h0 := Ats_cons.1 h0
 obtain ⟨c0_0, d0_0, u0_0, rr0_0, rfl, rfl, h0_0, h0⟩ := h0
 replace h0 := Ats_cons.1 h0
 obtain ⟨c0_1, d0_1, u0_1, rr0_1, rfl, rfl, h0_1, h0⟩ := h0
 replace h0 := Ats_nil.1 h0
 obtain ⟨rfl, rfl⟩ := h0
 have k0_0 := h0_0
 replace h0_0 := At_slice.1 h0_0
 obtain ⟨v0_0, l0_0, rfl, rfl, w0_0, hv0_0⟩ := h0_0
 have o0_0 := hv0_0.one
 have k0_1 := h0_1
 replace h0_1 := At_slice.1 h0_1
 obtain ⟨v0_1, l0_1, rfl, rfl, w0_1, hv0_1⟩ := h0_1
 have o0_1 := hv0_1.one
 have k1 := h1
 replace h1 := At_slice.1 h1
 obtain ⟨v1, l1, rfl, rfl, w1, hv1⟩ := h1
 have o1 := hv1.one
 have k2 := h2
 replace h2 := At_st.1 h2
 obtain ⟨us2_, rfl, h2⟩ := h2
 replace h2 := Ats_cons.1 h2
 obtain ⟨c2_0, d2_0, u2_0, rr2_0, rfl, rfl, h2_0, h2⟩ := h2
 replace h2 := Ats_cons.1 h2
 obtain ⟨c2_1, d2_1, u2_1, rr2_1, rfl, rfl, h2_1, h2⟩ := h2
 replace h2 := Ats_nil.1 h2
 obtain ⟨rfl, rfl⟩ := h2
 replace h2_0 := At_int.1 h2_0
 obtain ⟨n2_0, rfl, rfl, w2_0⟩ := h2_0
 have k2_1 := h2_1
 replace h2_1 := At_slice.1 h2_1
 obtain ⟨v2_1, l2_1, rfl, rfl, w2_1, hv2_1⟩ := h2_1
 have o2_1 := hv2_1.one
 replace h3 := At_str.1 h3
 obtain ⟨s3, rfl, rfl, w3⟩ := h3
 simp only [wt_st, wts_cons, wts_nil, wt_str, wt_int, wt_bool] at hwt
 obtain ⟨T0, x0, G0, q0, a0, m0, g0⟩ := asc (H) _ _ (k0) (by first | omega | (simp only [wt_st, wts_cons, wts_nil, wt_str, wt_int, wt_bool]; omega))
 obtain ⟨FY0, hFY0⟩ : ∃ F, F = G0 := ⟨_, rfl⟩
 have y0 := a0
 rw [← hFY0] at y0
 replace y0 := AtF_st.1 y0
 obtain ⟨usz0_, hu_, y0⟩ := y0
 cases hu_
 replace y0 := AtsF_cons.1 y0
 obtain ⟨cz0_0, dz0_0, uz0_0, rrz0_0, Fz0_0, Ez0_0, rfl, hu_, rfl, hz0_0, y0⟩ := y0
 cases hu_
 replace y0 := AtsF_cons.1 y0
 obtain ⟨cz0_1, dz0_1, uz0_1, rrz0_1, Fz0_1, Ez0_1, rfl, hu_, rfl, hz0_1, y0⟩ := y0
 cases hu_
 replace y0 := AtsF_nil.1 y0
 obtain ⟨rfl, hu_, rfl⟩ := y0
 cases hu_
 have kz0_0 := hz0_0
 replace hz0_0 := AtF_slice.1 hz0_0
 obtain ⟨vz0_0, lz0_0, rfl, hu_, wz0_0, hvz0_0⟩ := hz0_0
 cases hu_
 have oz0_0 := (At_slice.1 (AtF.at _ kz0_0))
 obtain ⟨_, _, x1, x2, _, oz0_0⟩ := oz0_0
 cases x1
 cases x2
 have oz0_0 := oz0_0.one
 have kz0_1 := hz0_1
 replace hz0_1 := AtF_slice.1 hz0_1
 obtain ⟨vz0_1, lz0_1, rfl, hu_, wz0_1, hvz0_1⟩ := hz0_1
 cases hu_
 have oz0_1 := (At_slice.1 (AtF.at _ kz0_1))
 obtain ⟨_, _, x1, x2, _, oz0_1⟩ := oz0_1
 cases x1
 cases x2
 have oz0_1 := oz0_1.one
 simp only [valC, List.headD_cons, List.append_nil, List.cons_append, List.nil_append, List.append_assoc] at q0
 obtain ⟨T1, x1, G1, q1, a1, m1, g1⟩ := aqK (H ++ T0) _ _ (k1.ext) (by first | omega | (simp only [wt_st, wts_cons, wts_nil, wt_str, wt_int, wt_bool]; omega))
 have y1 := a1
 obtain ⟨z1, _, rfl, zz1, _, _⟩ := AtF_slice.1 y1
 cases zz1
 have oz1 := (At_slice.1 (AtF.at _ a1))
 obtain ⟨_, _, x1, x2, _, oz1⟩ := oz1
 cases x1
 cases x2
 have oz1 := oz1.one
 simp only [valC, List.headD_cons, List.append_nil, List.cons_append, List.nil_append, List.append_assoc] at q1
 obtain ⟨T2, x2, G2, q2, a2, m2, g2⟩ := anA (H ++ T0 ++ T1) _ _ (k2.ext.ext) (by first | omega | (simp only [wt_st, wts_cons, wts_nil, wt_str, wt_int, wt_bool]; omega))
 obtain ⟨FY2, hFY2⟩ : ∃ F, F = G2 := ⟨_, rfl⟩
 have y2 := a2
 rw [← hFY2] at y2
 replace y2 := AtF_st.1 y2
 obtain ⟨usz2_, hu_, y2⟩ := y2
 cases hu_
 replace y2 := AtsF_cons.1 y2
 obtain ⟨cz2_0, dz2_0, uz2_0, rrz2_0, Fz2_0, Ez2_0, rfl, hu_, rfl, hz2_0, y2⟩ := y2
 cases hu_
 replace y2 := AtsF_cons.1 y2
 obtain ⟨cz2_1, dz2_1, uz2_1, rrz2_1, Fz2_1, Ez2_1, rfl, hu_, rfl, hz2_1, y2⟩ := y2
 cases hu_
 replace y2 := AtsF_nil.1 y2
 obtain ⟨rfl, hu_, rfl⟩ := y2
 cases hu_
 replace hz2_0 := AtF_int.1 hz2_0
 obtain ⟨⟨nz2_0, rfl, hu_, wz2_0⟩, rfl⟩ := hz2_0
 cases hu_
 have kz2_1 := hz2_1
 replace hz2_1 := AtF_slice.1 hz2_1
 obtain ⟨vz2_1, lz2_1, rfl, hu_, wz2_1, hvz2_1⟩ := hz2_1
 cases hu_
 have oz2_1 := (At_slice.1 (AtF.at _ kz2_1))
 obtain ⟨_, _, x1, x2, _, oz2_1⟩ := oz2_1
 cases x1
 cases x2
 have oz2_1 := oz2_1.one
 simp only [valC, List.headD_cons, List.append_nil, List.cons_append, List.nil_append, List.append_assoc] at q2
 have hA : AtF (H ++ T0 ++ T1 ++ T2) shServer _ _ _ := AtF_st.2 ⟨_, rfl, AtsF_cons.2 ⟨_, _, _, _, G0, _, rfl, rfl, rfl, (a0.app.app), AtsF_cons.2 ⟨[_], _, _, _, G1, _, rfl, rfl, rfl, (a1.app), AtsF_cons.2 ⟨_, _, _, _, G2, _, rfl, rfl, rfl, (a2), AtsF_cons.2 ⟨[_], _, _, _, [], _, rfl, rfl, rfl, AtF_str.2 ⟨⟨_, rfl, rfl, w3⟩, rfl⟩, AtsF_nil.2 ⟨rfl, rfl, rfl⟩⟩⟩⟩⟩⟩
 simp only [List.append_assoc, List.nil_append, List.append_nil] at hA
 simp only [List.length_append] at g0 g1 g2
 have hge : ∀ q ∈ G0 ++ (G1 ++ (G2)), H.length ≤ q := by
  intro q hq
  try simp only [List.mem_append] at hq
  rcases hq with hq | hq | hq
  ·have := g0 q hq; omega
  ·have := g1 q hq; omega
  ·have := g2 q hq; omega
 have hnd : (G0 ++ (G1 ++ (G2))).Nodup := by
  have b0 := AtF.mem _ a0
  have b1 := AtF.mem _ a1
  have b2 := AtF.mem _ a2
  simp only [List.length_append] at b0 b1 b2
  refine List.nodup_append.2 ⟨m0, ?_, fun x hx y hy e => ?_⟩
  rotate_left
  ·subst e
   have := b0 x hx
   try simp only [List.mem_append] at hy
   rcases hy with hy | hy
   ·have := g1 x hy; omega
   ·have := g2 x hy; omega
  refine List.nodup_append.2 ⟨m1, ?_, fun x hx y hy e => ?_⟩
  rotate_left
  ·subst e
   have := b1 x hx
   try simp only [List.mem_append] at hy
   ·have := g2 x hy; omega
  exact m2
 obtain ⟨T, hT, hA⟩ := gcH_to hA hge
 simp only [List.cons_append, List.nil_append, List.append_nil] at hT
 apply Ret.to
 rw [aBt]
 simp [aqS, Tryz.f10, valC, hT, q0, q1, q2, o0_0, o0_1, o1, o2_1, oz0_0, oz0_1, oz1, oz2_1]
 exact ⟨_, hA, hnd, hge⟩
theorem auG : aiH 257 shRow := by
 intro H cs u h hwt
 replace h := At_st.1 h
 obtain ⟨us, rfl, h⟩ := h
 replace h := Ats_cons.1 h
 obtain ⟨c0, d0, u0, rr0, rfl, rfl, h0, h⟩ := h
 replace h := Ats_cons.1 h
 obtain ⟨c1, d1, u1, rr1, rfl, rfl, h1, h⟩ := h
 replace h := Ats_cons.1 h
 obtain ⟨c2, d2, u2, rr2, rfl, rfl, h2, h⟩ := h
 replace h := Ats_cons.1 h
 obtain ⟨c3, d3, u3, rr3, rfl, rfl, h3, h⟩ := h
 replace h := Ats_cons.1 h
 obtain ⟨c4, d4, u4, rr4, rfl, rfl, h4, h⟩ := h
 replace h := Ats_cons.1 h
 obtain ⟨c5, d5, u5, rr5, rfl, rfl, h5, h⟩ := h
 replace h := Ats_cons.1 h
 obtain ⟨c6, d6, u6, rr6, rfl, rfl, h6, h⟩ := h
 replace h := Ats_nil.1 h
 obtain ⟨rfl, rfl⟩ := h
 replace h0 := At_int.1 h0
 obtain ⟨n0, rfl, rfl, w0⟩ := h0
 replace h1 := At_str.1 h1
 obtain ⟨s1, rfl, rfl, w1⟩ := h1
 replace h2 := At_str.1 h2
 obtain ⟨s2, rfl, rfl, w2⟩ := h2
 replace h3 := At_str.1 h3
 obtain ⟨s3, rfl, rfl, w3⟩ := h3
 replace h4 := At_bool.1 h4
 obtain ⟨b4, rfl, rfl⟩ := h4
 replace h5 := At_int.1 h5
 obtain ⟨n5, rfl, rfl, w5⟩ := h5
 replace h6 := At_bool.1 h6
 obtain ⟨b6, rfl, rfl⟩ := h6
 simp only [wt_st, wts_cons, wts_nil, wt_str, wt_int, wt_bool] at hwt
 have hA : AtF H shRow _ _ _ := AtF_st.2 ⟨_, rfl, AtsF_cons.2 ⟨[_], _, _, _, [], [], rfl, rfl, rfl, AtF_int.2 ⟨⟨_, rfl, rfl, w0⟩, rfl⟩, AtsF_cons.2 ⟨[_], _, _, _, [], [], rfl, rfl, rfl, AtF_str.2 ⟨⟨_, rfl, rfl, w1⟩, rfl⟩, AtsF_cons.2 ⟨[_], _, _, _, [], [], rfl, rfl, rfl, AtF_str.2 ⟨⟨_, rfl, rfl, w2⟩, rfl⟩, AtsF_cons.2 ⟨[_], _, _, _, [], [], rfl, rfl, rfl, AtF_str.2 ⟨⟨_, rfl, rfl, w3⟩, rfl⟩, AtsF_cons.2 ⟨[_], _, _, _, [], [], rfl, rfl, rfl, AtF_bool.2 ⟨⟨b4, rfl, rfl⟩, rfl⟩, AtsF_cons.2 ⟨[_], _, _, _, [], [], rfl, rfl, rfl, AtF_int.2 ⟨⟨_, rfl, rfl, w5⟩, rfl⟩, AtsF_cons.2 ⟨[_], _, _, _, [], [], rfl, rfl, rfl, AtF_bool.2 ⟨⟨b6, rfl, rfl⟩, rfl⟩, AtsF_nil.2 ⟨rfl, rfl, rfl⟩⟩⟩⟩⟩⟩⟩⟩⟩
 apply Ret.to
 rw [avX]
 simp [aoH, Tryz.f257, valC]
 exact ⟨[], by simpa using hA, by simp, by simp⟩
theorem ar9 : aiH 176 (.slice shRow) :=
 aj9 (f := 176) (g := 257) (tS := 79) (tE := 305) (tS2 := 86) (tE2 := 233) (F := Tryz.f176) (op_ren (c := aoP) (by kernel_rfl) avr) rfl avO (by rw [alW]; rfl) (by rw [alW]; rfl) (by rw [alW]; decide) (by decide) axW ao0 rfl auG
theorem arv : aiH 92 shTable := by
 intro H cs u h hwt
 replace h := At_st.1 h
 obtain ⟨us, rfl, h⟩ := h
 replace h := Ats_cons.1 h
 obtain ⟨c0, d0, u0, rr0, rfl, rfl, h0, h⟩ := h
 replace h := Ats_cons.1 h
 obtain ⟨c1, d1, u1, rr1, rfl, rfl, h1, h⟩ := h
 replace h := Ats_cons.1 h
 obtain ⟨c2, d2, u2, rr2, rfl, rfl, h2, h⟩ := h
 replace h := Ats_nil.1 h
 obtain ⟨rfl, rfl⟩ := h
 replace h0 := At_int.1 h0
 obtain ⟨n0, rfl, rfl, w0⟩ := h0
 replace h1 := At_int.1 h1
 obtain ⟨n1, rfl, rfl, w1⟩ := h1
 have k2 := h2
 replace h2 := At_slice.1 h2
 obtain ⟨v2, l2, rfl, rfl, w2, hv2⟩ := h2
 have o2 := hv2.one
 simp only [wt_st, wts_cons, wts_nil, wt_str, wt_int, wt_bool] at hwt
 obtain ⟨T2, x2, G2, q2, a2, m2, g2⟩ := ar9 (H) _ _ (k2) (by first | omega | (simp only [wt_st, wts_cons, wts_nil, wt_str, wt_int, wt_bool]; omega))
 have y2 := a2
 obtain ⟨z2, _, rfl, zz2, _, _⟩ := AtF_slice.1 y2
 cases zz2
 have oz2 := (At_slice.1 (AtF.at _ a2))
 obtain ⟨_, _, x1, x2, _, oz2⟩ := oz2
 cases x1
 cases x2
 have oz2 := oz2.one
 simp only [valC, List.headD_cons, List.append_nil, List.cons_append, List.nil_append, List.append_assoc] at q2
 have hA : AtF (H ++ T2) shTable _ _ _ := AtF_st.2 ⟨_, rfl, AtsF_cons.2 ⟨[_], _, _, _, [], _, rfl, rfl, rfl, AtF_int.2 ⟨⟨_, rfl, rfl, w0⟩, rfl⟩, AtsF_cons.2 ⟨[_], _, _, _, [], _, rfl, rfl, rfl, AtF_int.2 ⟨⟨_, rfl, rfl, w1⟩, rfl⟩, AtsF_cons.2 ⟨[_], _, _, _, G2, _, rfl, rfl, rfl, (a2), AtsF_nil.2 ⟨rfl, rfl, rfl⟩⟩⟩⟩⟩
 simp only [List.append_assoc, List.nil_append, List.append_nil] at hA
 skip
 have hge : ∀ q ∈ G2, H.length ≤ q := by
  intro q hq
  try simp only [List.mem_append] at hq
  ·have := g2 q hq; omega
 have hnd : (G2).Nodup := by
  have b2 := AtF.mem _ a2
  exact m2
 obtain ⟨T, hT, hA⟩ := gcH_to hA hge
 simp only [List.cons_append, List.nil_append, List.append_nil] at hT
 apply Ret.to
 rw [aBZ]
 simp [aqM, Tryz.f92, valC, hT, q2, o2, oz2]
 exact ⟨_, hA, hnd, hge⟩
theorem ajb : aiH 34 shWorld := by
 intro H cs u h hwt
 replace h := At_st.1 h
 obtain ⟨us, rfl, h⟩ := h
 replace h := Ats_cons.1 h
 obtain ⟨c0, d0, u0, rr0, rfl, rfl, h0, h⟩ := h
 replace h := Ats_cons.1 h
 obtain ⟨c1, d1, u1, rr1, rfl, rfl, h1, h⟩ := h
 replace h := Ats_cons.1 h
 obtain ⟨c2, d2, u2, rr2, rfl, rfl, h2, h⟩ := h
 replace h := Ats_cons.1 h
 obtain ⟨c3, d3, u3, rr3, rfl, rfl, h3, h⟩ := h
 replace h := Ats_cons.1 h
 obtain ⟨c4, d4, u4, rr4, rfl, rfl, h4, h⟩ := h
 replace h := Ats_nil.1 h
 obtain ⟨rfl, rfl⟩ := h
 have k0 := h0
 replace h0 := At_st.1 h0
 obtain ⟨us0_, rfl, h0⟩ := h0
 replace h0 := Ats_cons.1 h0
 obtain ⟨c0_0, d0_0, u0_0, rr0_0, rfl, rfl, h0_0, h0⟩ := h0
 replace h0 := Ats_cons.1 h0
 obtain ⟨c0_1, d0_1, u0_1, rr0_1, rfl, rfl, h0_1, h0⟩ := h0
 replace h0 := Ats_cons.1 h0
 obtain ⟨c0_2, d0_2, u0_2, rr0_2, rfl, rfl, h0_2, h0⟩ := h0
 replace h0 := Ats_cons.1 h0
 obtain ⟨c0_3, d0_3, u0_3, rr0_3, rfl, rfl, h0_3, h0⟩ := h0
 replace h0 := Ats_nil.1 h0
 obtain ⟨rfl, rfl⟩ := h0
 have k0_0 := h0_0
 replace h0_0 := At_st.1 h0_0
 obtain ⟨us0_0_, rfl, h0_0⟩ := h0_0
 replace h0_0 := Ats_cons.1 h0_0
 obtain ⟨c0_0_0, d0_0_0, u0_0_0, rr0_0_0, rfl, rfl, h0_0_0, h0_0⟩ := h0_0
 replace h0_0 := Ats_cons.1 h0_0
 obtain ⟨c0_0_1, d0_0_1, u0_0_1, rr0_0_1, rfl, rfl, h0_0_1, h0_0⟩ := h0_0
 replace h0_0 := Ats_nil.1 h0_0
 obtain ⟨rfl, rfl⟩ := h0_0
 have k0_0_0 := h0_0_0
 replace h0_0_0 := At_slice.1 h0_0_0
 obtain ⟨v0_0_0, l0_0_0, rfl, rfl, w0_0_0, hv0_0_0⟩ := h0_0_0
 have o0_0_0 := hv0_0_0.one
 have k0_0_1 := h0_0_1
 replace h0_0_1 := At_slice.1 h0_0_1
 obtain ⟨v0_0_1, l0_0_1, rfl, rfl, w0_0_1, hv0_0_1⟩ := h0_0_1
 have o0_0_1 := hv0_0_1.one
 have k0_1 := h0_1
 replace h0_1 := At_slice.1 h0_1
 obtain ⟨v0_1, l0_1, rfl, rfl, w0_1, hv0_1⟩ := h0_1
 have o0_1 := hv0_1.one
 have k0_2 := h0_2
 replace h0_2 := At_st.1 h0_2
 obtain ⟨us0_2_, rfl, h0_2⟩ := h0_2
 replace h0_2 := Ats_cons.1 h0_2
 obtain ⟨c0_2_0, d0_2_0, u0_2_0, rr0_2_0, rfl, rfl, h0_2_0, h0_2⟩ := h0_2
 replace h0_2 := Ats_cons.1 h0_2
 obtain ⟨c0_2_1, d0_2_1, u0_2_1, rr0_2_1, rfl, rfl, h0_2_1, h0_2⟩ := h0_2
 replace h0_2 := Ats_nil.1 h0_2
 obtain ⟨rfl, rfl⟩ := h0_2
 replace h0_2_0 := At_int.1 h0_2_0
 obtain ⟨n0_2_0, rfl, rfl, w0_2_0⟩ := h0_2_0
 have k0_2_1 := h0_2_1
 replace h0_2_1 := At_slice.1 h0_2_1
 obtain ⟨v0_2_1, l0_2_1, rfl, rfl, w0_2_1, hv0_2_1⟩ := h0_2_1
 have o0_2_1 := hv0_2_1.one
 replace h0_3 := At_str.1 h0_3
 obtain ⟨s0_3, rfl, rfl, w0_3⟩ := h0_3
 have k1 := h1
 replace h1 := At_st.1 h1
 obtain ⟨us1_, rfl, h1⟩ := h1
 replace h1 := Ats_cons.1 h1
 obtain ⟨c1_0, d1_0, u1_0, rr1_0, rfl, rfl, h1_0, h1⟩ := h1
 replace h1 := Ats_cons.1 h1
 obtain ⟨c1_1, d1_1, u1_1, rr1_1, rfl, rfl, h1_1, h1⟩ := h1
 replace h1 := Ats_cons.1 h1
 obtain ⟨c1_2, d1_2, u1_2, rr1_2, rfl, rfl, h1_2, h1⟩ := h1
 replace h1 := Ats_nil.1 h1
 obtain ⟨rfl, rfl⟩ := h1
 replace h1_0 := At_int.1 h1_0
 obtain ⟨n1_0, rfl, rfl, w1_0⟩ := h1_0
 replace h1_1 := At_int.1 h1_1
 obtain ⟨n1_1, rfl, rfl, w1_1⟩ := h1_1
 have k1_2 := h1_2
 replace h1_2 := At_slice.1 h1_2
 obtain ⟨v1_2, l1_2, rfl, rfl, w1_2, hv1_2⟩ := h1_2
 have o1_2 := hv1_2.one
 have k2 := h2
 replace h2 := At_st.1 h2
 obtain ⟨us2_, rfl, h2⟩ := h2
 replace h2 := Ats_cons.1 h2
 obtain ⟨c2_0, d2_0, u2_0, rr2_0, rfl, rfl, h2_0, h2⟩ := h2
 replace h2 := Ats_cons.1 h2
 obtain ⟨c2_1, d2_1, u2_1, rr2_1, rfl, rfl, h2_1, h2⟩ := h2
 replace h2 := Ats_cons.1 h2
 obtain ⟨c2_2, d2_2, u2_2, rr2_2, rfl, rfl, h2_2, h2⟩ := h2
 replace h2 := Ats_cons.1 h2
 obtain ⟨c2_3, d2_3, u2_3, rr2_3, rfl, rfl, h2_3, h2⟩ := h2
 replace h2 := Ats_cons.1 h2
 obtain ⟨c2_4, d2_4, u2_4, rr2_4, rfl, rfl, h2_4, h2⟩ := h2
 replace h2 := Ats_cons.1 h2
 obtain ⟨c2_5, d2_5, u2_5, rr2_5, rfl, rfl, h2_5, h2⟩ := h2
 replace h2 := Ats_nil.1 h2
 obtain ⟨rfl, rfl⟩ := h2
 have k2_0 := h2_0
 replace h2_0 := At_slice.1 h2_0
 obtain ⟨v2_0, l2_0, rfl, rfl, w2_0, hv2_0⟩ := h2_0
 have o2_0 := hv2_0.one
 have k2_1 := h2_1
 replace h2_1 := At_slice.1 h2_1
 obtain ⟨v2_1, l2_1, rfl, rfl, w2_1, hv2_1⟩ := h2_1
 have o2_1 := hv2_1.one
 have k2_2 := h2_2
 replace h2_2 := At_slice.1 h2_2
 obtain ⟨v2_2, l2_2, rfl, rfl, w2_2, hv2_2⟩ := h2_2
 have o2_2 := hv2_2.one
 have k2_3 := h2_3
 replace h2_3 := At_slice.1 h2_3
 obtain ⟨v2_3, l2_3, rfl, rfl, w2_3, hv2_3⟩ := h2_3
 have o2_3 := hv2_3.one
 have k2_4 := h2_4
 replace h2_4 := At_slice.1 h2_4
 obtain ⟨v2_4, l2_4, rfl, rfl, w2_4, hv2_4⟩ := h2_4
 have o2_4 := hv2_4.one
 replace h2_5 := At_bool.1 h2_5
 obtain ⟨b2_5, rfl, rfl⟩ := h2_5
 replace h3 := At_int.1 h3
 obtain ⟨n3, rfl, rfl, w3⟩ := h3
 replace h4 := At_int.1 h4
 obtain ⟨n4, rfl, rfl, w4⟩ := h4
 simp only [wt_st, wts_cons, wts_nil, wt_str, wt_int, wt_bool] at hwt
 obtain ⟨T0, x0, G0, q0, a0, m0, g0⟩ := ajD (H) _ _ (k0) (by first | omega | (simp only [wt_st, wts_cons, wts_nil, wt_str, wt_int, wt_bool]; omega))
 obtain ⟨FY0, hFY0⟩ : ∃ F, F = G0 := ⟨_, rfl⟩
 have y0 := a0
 rw [← hFY0] at y0
 replace y0 := AtF_st.1 y0
 obtain ⟨usz0_, hu_, y0⟩ := y0
 cases hu_
 replace y0 := AtsF_cons.1 y0
 obtain ⟨cz0_0, dz0_0, uz0_0, rrz0_0, Fz0_0, Ez0_0, rfl, hu_, rfl, hz0_0, y0⟩ := y0
 cases hu_
 replace y0 := AtsF_cons.1 y0
 obtain ⟨cz0_1, dz0_1, uz0_1, rrz0_1, Fz0_1, Ez0_1, rfl, hu_, rfl, hz0_1, y0⟩ := y0
 cases hu_
 replace y0 := AtsF_cons.1 y0
 obtain ⟨cz0_2, dz0_2, uz0_2, rrz0_2, Fz0_2, Ez0_2, rfl, hu_, rfl, hz0_2, y0⟩ := y0
 cases hu_
 replace y0 := AtsF_cons.1 y0
 obtain ⟨cz0_3, dz0_3, uz0_3, rrz0_3, Fz0_3, Ez0_3, rfl, hu_, rfl, hz0_3, y0⟩ := y0
 cases hu_
 replace y0 := AtsF_nil.1 y0
 obtain ⟨rfl, hu_, rfl⟩ := y0
 cases hu_
 have kz0_0 := hz0_0
 replace hz0_0 := AtF_st.1 hz0_0
 obtain ⟨usz0_0_, hu_, hz0_0⟩ := hz0_0
 cases hu_
 replace hz0_0 := AtsF_cons.1 hz0_0
 obtain ⟨cz0_0_0, dz0_0_0, uz0_0_0, rrz0_0_0, Fz0_0_0, Ez0_0_0, rfl, hu_, rfl, hz0_0_0, hz0_0⟩ := hz0_0
 cases hu_
 replace hz0_0 := AtsF_cons.1 hz0_0
 obtain ⟨cz0_0_1, dz0_0_1, uz0_0_1, rrz0_0_1, Fz0_0_1, Ez0_0_1, rfl, hu_, rfl, hz0_0_1, hz0_0⟩ := hz0_0
 cases hu_
 replace hz0_0 := AtsF_nil.1 hz0_0
 obtain ⟨rfl, hu_, rfl⟩ := hz0_0
 cases hu_
 have kz0_0_0 := hz0_0_0
 replace hz0_0_0 := AtF_slice.1 hz0_0_0
 obtain ⟨vz0_0_0, lz0_0_0, rfl, hu_, wz0_0_0, hvz0_0_0⟩ := hz0_0_0
 cases hu_
 have oz0_0_0 := (At_slice.1 (AtF.at _ kz0_0_0))
 obtain ⟨_, _, x1, x2, _, oz0_0_0⟩ := oz0_0_0
 cases x1
 cases x2
 have oz0_0_0 := oz0_0_0.one
 have kz0_0_1 := hz0_0_1
 replace hz0_0_1 := AtF_slice.1 hz0_0_1
 obtain ⟨vz0_0_1, lz0_0_1, rfl, hu_, wz0_0_1, hvz0_0_1⟩ := hz0_0_1
 cases hu_
 have oz0_0_1 := (At_slice.1 (AtF.at _ kz0_0_1))
 obtain ⟨_, _, x1, x2, _, oz0_0_1⟩ := oz0_0_1
 cases x1
 cases x2
 have oz0_0_1 := oz0_0_1.one
 have kz0_1 := hz0_1
 replace hz0_1 := AtF_slice.1 hz0_1
 obtain ⟨vz0_1, lz0_1, rfl, hu_, wz0_1, hvz0_1⟩ := hz0_1
 cases hu_
 have oz0_1 := (At_slice.1 (AtF.at _ kz0_1))
 obtain ⟨_, _, x1, x2, _, oz0_1⟩ := oz0_1
 cases x1
 cases x2
 have oz0_1 := oz0_1.one
 have kz0_2 := hz0_2
 replace hz0_2 := AtF_st.1 hz0_2
 obtain ⟨usz0_2_, hu_, hz0_2⟩ := hz0_2
 cases hu_
 replace hz0_2 := AtsF_cons.1 hz0_2
 obtain ⟨cz0_2_0, dz0_2_0, uz0_2_0, rrz0_2_0, Fz0_2_0, Ez0_2_0, rfl, hu_, rfl, hz0_2_0, hz0_2⟩ := hz0_2
 cases hu_
 replace hz0_2 := AtsF_cons.1 hz0_2
 obtain ⟨cz0_2_1, dz0_2_1, uz0_2_1, rrz0_2_1, Fz0_2_1, Ez0_2_1, rfl, hu_, rfl, hz0_2_1, hz0_2⟩ := hz0_2
 cases hu_
 replace hz0_2 := AtsF_nil.1 hz0_2
 obtain ⟨rfl, hu_, rfl⟩ := hz0_2
 cases hu_
 replace hz0_2_0 := AtF_int.1 hz0_2_0
 obtain ⟨⟨nz0_2_0, rfl, hu_, wz0_2_0⟩, rfl⟩ := hz0_2_0
 cases hu_
 have kz0_2_1 := hz0_2_1
 replace hz0_2_1 := AtF_slice.1 hz0_2_1
 obtain ⟨vz0_2_1, lz0_2_1, rfl, hu_, wz0_2_1, hvz0_2_1⟩ := hz0_2_1
 cases hu_
 have oz0_2_1 := (At_slice.1 (AtF.at _ kz0_2_1))
 obtain ⟨_, _, x1, x2, _, oz0_2_1⟩ := oz0_2_1
 cases x1
 cases x2
 have oz0_2_1 := oz0_2_1.one
 replace hz0_3 := AtF_str.1 hz0_3
 obtain ⟨⟨sz0_3, rfl, hu_, wz0_3⟩, rfl⟩ := hz0_3
 cases hu_
 simp only [valC, List.headD_cons, List.append_nil, List.cons_append, List.nil_append, List.append_assoc] at q0
 obtain ⟨T1, x1, G1, q1, a1, m1, g1⟩ := arv (H ++ T0) _ _ (k1.ext) (by first | omega | (simp only [wt_st, wts_cons, wts_nil, wt_str, wt_int, wt_bool]; omega))
 obtain ⟨FY1, hFY1⟩ : ∃ F, F = G1 := ⟨_, rfl⟩
 have y1 := a1
 rw [← hFY1] at y1
 replace y1 := AtF_st.1 y1
 obtain ⟨usz1_, hu_, y1⟩ := y1
 cases hu_
 replace y1 := AtsF_cons.1 y1
 obtain ⟨cz1_0, dz1_0, uz1_0, rrz1_0, Fz1_0, Ez1_0, rfl, hu_, rfl, hz1_0, y1⟩ := y1
 cases hu_
 replace y1 := AtsF_cons.1 y1
 obtain ⟨cz1_1, dz1_1, uz1_1, rrz1_1, Fz1_1, Ez1_1, rfl, hu_, rfl, hz1_1, y1⟩ := y1
 cases hu_
 replace y1 := AtsF_cons.1 y1
 obtain ⟨cz1_2, dz1_2, uz1_2, rrz1_2, Fz1_2, Ez1_2, rfl, hu_, rfl, hz1_2, y1⟩ := y1
 cases hu_
 replace y1 := AtsF_nil.1 y1
 obtain ⟨rfl, hu_, rfl⟩ := y1
 cases hu_
 replace hz1_0 := AtF_int.1 hz1_0
 obtain ⟨⟨nz1_0, rfl, hu_, wz1_0⟩, rfl⟩ := hz1_0
 cases hu_
 replace hz1_1 := AtF_int.1 hz1_1
 obtain ⟨⟨nz1_1, rfl, hu_, wz1_1⟩, rfl⟩ := hz1_1
 cases hu_
 have kz1_2 := hz1_2
 replace hz1_2 := AtF_slice.1 hz1_2
 obtain ⟨vz1_2, lz1_2, rfl, hu_, wz1_2, hvz1_2⟩ := hz1_2
 cases hu_
 have oz1_2 := (At_slice.1 (AtF.at _ kz1_2))
 obtain ⟨_, _, x1, x2, _, oz1_2⟩ := oz1_2
 cases x1
 cases x2
 have oz1_2 := oz1_2.one
 simp only [valC, List.headD_cons, List.append_nil, List.cons_append, List.nil_append, List.append_assoc] at q1
 obtain ⟨T2, x2, G2, q2, a2, m2, g2⟩ := asU (H ++ T0 ++ T1) _ _ (k2.ext.ext) (by first | omega | (simp only [wt_st, wts_cons, wts_nil, wt_str, wt_int, wt_bool]; omega))
 obtain ⟨FY2, hFY2⟩ : ∃ F, F = G2 := ⟨_, rfl⟩
 have y2 := a2
 rw [← hFY2] at y2
 replace y2 := AtF_st.1 y2
 obtain ⟨usz2_, hu_, y2⟩ := y2
 cases hu_
 replace y2 := AtsF_cons.1 y2
 obtain ⟨cz2_0, dz2_0, uz2_0, rrz2_0, Fz2_0, Ez2_0, rfl, hu_, rfl, hz2_0, y2⟩ := y2
 cases hu_
 replace y2 := AtsF_cons.1 y2
 obtain ⟨cz2_1, dz2_1, uz2_1, rrz2_1, Fz2_1, Ez2_1, rfl, hu_, rfl, hz2_1, y2⟩ := y2
 cases hu_
 replace y2 := AtsF_cons.1 y2
 obtain ⟨cz2_2, dz2_2, uz2_2, rrz2_2, Fz2_2, Ez2_2, rfl, hu_, rfl, hz2_2, y2⟩ := y2
 cases hu_
 replace y2 := AtsF_cons.1 y2
 obtain ⟨cz2_3, dz2_3, uz2_3, rrz2_3, Fz2_3, Ez2_3, rfl, hu_, rfl, hz2_3, y2⟩ := y2
 cases hu_
 replace y2 := AtsF_cons.1 y2
 obtain ⟨cz2_4, dz2_4, uz2_4, rrz2_4, Fz2_4, Ez2_4, rfl, hu_, rfl, hz2_4, y2⟩ := y2
 cases hu_
 replace y2 := AtsF_cons.1 y2
 obtain ⟨cz2_5, dz2_5, uz2_5, rrz2_5, Fz2_5, Ez2_5, rfl, hu_, rfl, hz2_5, y2⟩ := y2
 cases hu_
 replace y2 := AtsF_nil.1 y2
 obtain ⟨rfl, hu_, rfl⟩ := y2
 cases hu_
 have kz2_0 := hz2_0
 replace hz2_0 := AtF_slice.1 hz2_0
 obtain ⟨vz2_0, lz2_0, rfl, hu_, wz2_0, hvz2_0⟩ := hz2_0
 cases hu_
 have oz2_0 := (At_slice.1 (AtF.at _ kz2_0))
 obtain ⟨_, _, x1, x2, _, oz2_0⟩ := oz2_0
 cases x1
 cases x2
 have oz2_0 := oz2_0.one
 have kz2_1 := hz2_1
 replace hz2_1 := AtF_slice.1 hz2_1
 obtain ⟨vz2_1, lz2_1, rfl, hu_, wz2_1, hvz2_1⟩ := hz2_1
 cases hu_
 have oz2_1 := (At_slice.1 (AtF.at _ kz2_1))
 obtain ⟨_, _, x1, x2, _, oz2_1⟩ := oz2_1
 cases x1
 cases x2
 have oz2_1 := oz2_1.one
 have kz2_2 := hz2_2
 replace hz2_2 := AtF_slice.1 hz2_2
 obtain ⟨vz2_2, lz2_2, rfl, hu_, wz2_2, hvz2_2⟩ := hz2_2
 cases hu_
 have oz2_2 := (At_slice.1 (AtF.at _ kz2_2))
 obtain ⟨_, _, x1, x2, _, oz2_2⟩ := oz2_2
 cases x1
 cases x2
 have oz2_2 := oz2_2.one
 have kz2_3 := hz2_3
 replace hz2_3 := AtF_slice.1 hz2_3
 obtain ⟨vz2_3, lz2_3, rfl, hu_, wz2_3, hvz2_3⟩ := hz2_3
 cases hu_
 have oz2_3 := (At_slice.1 (AtF.at _ kz2_3))
 obtain ⟨_, _, x1, x2, _, oz2_3⟩ := oz2_3
 cases x1
 cases x2
 have oz2_3 := oz2_3.one
 have kz2_4 := hz2_4
 replace hz2_4 := AtF_slice.1 hz2_4
 obtain ⟨vz2_4, lz2_4, rfl, hu_, wz2_4, hvz2_4⟩ := hz2_4
 cases hu_
 have oz2_4 := (At_slice.1 (AtF.at _ kz2_4))
 obtain ⟨_, _, x1, x2, _, oz2_4⟩ := oz2_4
 cases x1
 cases x2
 have oz2_4 := oz2_4.one
 replace hz2_5 := AtF_bool.1 hz2_5
 obtain ⟨⟨bz2_5, rfl, hu_⟩, rfl⟩ := hz2_5
 cases hu_
 simp only [valC, List.headD_cons, List.append_nil, List.cons_append, List.nil_append, List.append_assoc] at q2
 have hA : AtF (H ++ T0 ++ T1 ++ T2) shWorld _ _ _ := AtF_st.2 ⟨_, rfl, AtsF_cons.2 ⟨_, _, _, _, G0, _, rfl, rfl, rfl, (a0.app.app), AtsF_cons.2 ⟨_, _, _, _, G1, _, rfl, rfl, rfl, (a1.app), AtsF_cons.2 ⟨_, _, _, _, G2, _, rfl, rfl, rfl, (a2), AtsF_cons.2 ⟨[_], _, _, _, [], _, rfl, rfl, rfl, AtF_int.2 ⟨⟨_, rfl, rfl, w3⟩, rfl⟩, AtsF_cons.2 ⟨[_], _, _, _, [], _, rfl, rfl, rfl, AtF_int.2 ⟨⟨_, rfl, rfl, w4⟩, rfl⟩, AtsF_nil.2 ⟨rfl, rfl, rfl⟩⟩⟩⟩⟩⟩⟩
 simp only [List.append_assoc, List.nil_append, List.append_nil] at hA
 simp only [List.length_append] at g0 g1 g2
 have hge : ∀ q ∈ G0 ++ (G1 ++ (G2)), H.length ≤ q := by
  intro q hq
  try simp only [List.mem_append] at hq
  rcases hq with hq | hq | hq
  ·have := g0 q hq; omega
  ·have := g1 q hq; omega
  ·have := g2 q hq; omega
 have hnd : (G0 ++ (G1 ++ (G2))).Nodup := by
  have b0 := AtF.mem _ a0
  have b1 := AtF.mem _ a1
  have b2 := AtF.mem _ a2
  simp only [List.length_append] at b0 b1 b2
  refine List.nodup_append.2 ⟨m0, ?_, fun x hx y hy e => ?_⟩
  rotate_left
  ·subst e
   have := b0 x hx
   try simp only [List.mem_append] at hy
   rcases hy with hy | hy
   ·have := g1 x hy; omega
   ·have := g2 x hy; omega
  refine List.nodup_append.2 ⟨m1, ?_, fun x hx y hy e => ?_⟩
  rotate_left
  ·subst e
   have := b1 x hx
   try simp only [List.mem_append] at hy
   ·have := g2 x hy; omega
  exact m2
 obtain ⟨T, hT, hA⟩ := gcH_to hA hge
 simp only [List.cons_append, List.nil_append, List.append_nil] at hT
 apply Ret.to
 rw [aBq]
 simp [aqo, Tryz.f34, valC, hT, q0, q1, q2, o0_0_0, o0_0_1, o0_1, o0_2_1, o1_2, o2_0, o2_1, o2_2, o2_3, o2_4, oz0_0_0, oz0_0_1, oz0_1, oz0_2_1, oz1_2, oz2_0, oz2_1, oz2_2, oz2_3, oz2_4]
 exact ⟨_, hA, hnd, hge⟩
end Go.Proofs.Try1
end
section
namespace Go.Proofs.Try1
open Go Go.Lite
attribute [-simp] WP_region WP_cond
attribute [local simp] WP_regionF WP_condF ThenW_some ThenW_none CondW_true CondW_false
attribute [local simp low] CondW_bool
theorem ajt {H : List Ob} {c0 : List V} {u0 : U}  {rV : V} (h0 : At H shServer c0 u0)
  (hS : wt u0 ≤ 1048576 → ∀ (G : List Ob) (x0 : List V), At G shServer x0 u0 → ∃ G', callW C 9 [valC shServer x0] G = some (rV, G') ∧ Le G G')
  (hI : wt u0 ≤ 1048576 → ∀ (G : List Ob) (x0 : List V), At G shServer x0 u0 → ∃ G', callW C 11 [valC shServer x0] G = some (rV, G') ∧ Le G G')
  (hR : ∃ n, rV = .bool n) : Ret C 3 [valC shServer c0] H fun r _ => r = .bool true := by
 obtain ⟨nR, rfl⟩ := hR
 rw [op3]
 obtain ⟨c0_0, c0_1, c0_2, c0_3, c0_4, c0_5, rfl⟩ := list6 (At.len _ h0 : _ = 6)
 have on0 := ones_all h0
 simp only [List.mem_cons, List.not_mem_nil, or_false, forall_eq_or_imp, forall_eq] at on0
 simp only [valC, List.headD_cons]
 have b0 := al1 H [c0_0, c0_1, c0_2, c0_3, c0_4, c0_5] _ (1048576) h0 (by omega)
 simp only [valC, List.headD_cons] at b0
 by_cases g0 : wt u0 ≤ 1048576
 rotate_left
 ·rw [if_neg g0] at b0
  simp at b0
  simp [aqV, Tryz.f3, on0, b0]
 rw [if_pos g0] at b0
 have hw0 : wt u0 ≤ 1048576 := by omega
 have p0 : ¬ (((1048576 - wt u0 : Nat) : Int) < 0) := by omega
 obtain ⟨LL0, hLL0⟩ : ∃ n, n = 1048576 - wt u0 := ⟨_, rfl⟩
 rw [← hLL0] at b0 p0
 have q0 : LL0 + wt u0 = 1048576 := by omega
 have L0 : Le H H := Le.refl
 obtain ⟨G1, y0, k1, s1, n1⟩ := toN ajD (h0.Le L0) hw0
 have l1 := s1.len
 have L1 := L0.trans s1
 obtain ⟨y0_0, y0_1, y0_2, y0_3, y0_4, y0_5, rfl⟩ := list6 (At.len _ n1.at : _ = 6)
 have o1 := ones_all n1.at
 simp only [List.mem_cons, List.not_mem_nil, or_false, forall_eq_or_imp, forall_eq] at o1
 simp only [valC, List.headD_cons] at k1
 obtain ⟨G2, k2, s2⟩ := hS hw0 _ [y0_0, y0_1, y0_2, y0_3, y0_4, y0_5] (n1.at.Le Le.refl)
 have l2 := s2.len
 have L2 := L1.trans s2
 simp only [valC, List.headD_cons] at k2
 obtain ⟨G3, z0, k3, s3, n3⟩ := toN ajD (h0.Le L2) hw0
 have l3 := s3.len
 have L3 := L2.trans s3
 obtain ⟨z0_0, z0_1, z0_2, z0_3, z0_4, z0_5, rfl⟩ := list6 (At.len _ n3.at : _ = 6)
 have o3 := ones_all n3.at
 simp only [List.mem_cons, List.not_mem_nil, or_false, forall_eq_or_imp, forall_eq] at o3
 simp only [valC, List.headD_cons] at k3
 obtain ⟨G4, k4, s4⟩ := hI hw0 _ [z0_0, z0_1, z0_2, z0_3, z0_4, z0_5] (n3.at.Le Le.refl)
 have l4 := s4.len
 have L4 := L3.trans s4
 simp only [valC, List.headD_cons] at k4
 obtain ⟨G5, v0, k5, s5, n5⟩ := toN ajD (h0.Le L4) hw0
 have l5 := s5.len
 have L5 := L4.trans s5
 obtain ⟨v0_0, v0_1, v0_2, v0_3, v0_4, v0_5, rfl⟩ := list6 (At.len _ n5.at : _ = 6)
 have o5 := ones_all n5.at
 simp only [List.mem_cons, List.not_mem_nil, or_false, forall_eq_or_imp, forall_eq] at o5
 simp only [valC, List.headD_cons] at k5
 have k6 := eqN al8 (n3.at.Le (Le.trans s4 s5)) n5.at
 simp only [valC, List.headD_cons] at k6
 simp at b0
 simp (maxSteps := 2000000) [aqV, Tryz.f3, on0, b0, p0, k1, o1, k2, k3, o3, k4, k5, o5, k6, regionL_none, regionL_some, List.lookup]
end Go.Proofs.Try1
end
section
namespace Go.Proofs.Try1
open Go Go.Lite
theorem ala {t : Str} {H : List Ob} (ht : t.length ≤ 1000) : callW C 263 [.str t] H = some (.bool (dec (Plain t)), H) := by
 apply Ret.dec
 rw [arM]
 simp [ajj, Tryz.f263]
 refine WP_loop (fun k σ => ∃ (i : Nat) (r : Nat → R), i + k = t.length ∧ σ = ⟨r, 0, H⟩ ∧ r 0 = .val (.str t) ∧ r 3 = .val (.int .i64 i) ∧ ∀ j, j < i → ∀ c, t[j]? = some c → PlainB c) ?_ t.length _ ⟨0, _, by simp, rfl, by simp, by simp, by simp⟩
 rintro k σ ⟨i, r, hik, rfl, r0, r3, hall⟩
 cases k with
 | zero =>
  have hi : i = t.length := by omega
  subst hi
  simp [r0, r3]
  intro j c hc
  exact hall j (List.getElem?_eq_some_iff.1 hc).1 c hc
 | succ k =>
  have hi : i < t.length := by omega
  obtain ⟨c, hc⟩ : ∃ c, t[i]? = some c := ⟨t[i], by simp [hi]⟩
  have hc' : t[i] = c := (List.getElem?_eq_some_iff.1 hc).2
  have hw : IntKind.i64.wrap ((i : Int) + 1) = ((i : Int) + 1) := wrap_i64 (by omega) (by omega)
  by_cases h1 : (c.toNat : Int) < 32
  ·simp [r0, r3, hi, hc', h1]
   intro hp
   have := (hp i c hc).1
   omega
  ·by_cases h2 : (c.toNat : Int) > 126
   ·simp [r0, r3, hi, hc', h1, h2]
    intro hp
    have := (hp i c hc).2
    omega
   ·simp [r0, r3, hi, hc', h1, h2, hw]
    exact ⟨k, by omega, i + 1, by omega, by omega, all_step (P := fun _ c => PlainB c) hall hc ⟨by omega, by omega⟩⟩
theorem akX {t : Str} {H : List Ob} (ht : t.length ≤ 1000) : callW C 271 [.str t] H = some (.bool (dec (Plain t)), H) := by
 apply Ret.dec
 rw [aqR]
 simp [ajp, Tryz.f271]
 refine WP_loop (fun k σ => ∃ (i : Nat) (r : Nat → R), i + k = t.length ∧ σ = ⟨r, 0, H⟩ ∧ r 0 = .val (.str t) ∧ r 5 = .val (.int .i64 t.length) ∧ r 6 = .val (.int .i64 i) ∧ ∀ j, j < i → ∀ c, t[j]? = some c → PlainB c) ?_ t.length _ ⟨0, _, by simp, rfl, by simp, by simp, by simp, by simp⟩
 rintro k σ ⟨i, r, hik, rfl, r0, r5, r6, hall⟩
 cases k with
 | zero =>
  have hi : i = t.length := by omega
  subst hi
  simp [r0, r5, r6]
  intro j c hc
  exact hall j (List.getElem?_eq_some_iff.1 hc).1 c hc
 | succ k =>
  have hi : i < t.length := by omega
  obtain ⟨c, hc⟩ : ∃ c, t[i]? = some c := ⟨t[i], by simp [hi]⟩
  have hc' : t[i] = c := (List.getElem?_eq_some_iff.1 hc).2
  have hw : IntKind.i64.wrap ((i : Int) + 1) = ((i : Int) + 1) := wrap_i64 (by omega) (by omega)
  by_cases h1 : (c.toNat : Int) < 32
  ·simp [r0, r5, r6, hi, hc', h1]
   intro hp
   have := (hp i c hc).1
   omega
  ·by_cases h2 : (c.toNat : Int) > 126
   ·simp [r0, r5, r6, hi, hc', h1, h2]
    intro hp
    have := (hp i c hc).2
    omega
   ·simp [r0, r5, r6, hi, hc', h1, h2, hw]
    exact ⟨k, by omega, i + 1, by omega, by omega, all_step (P := fun _ c => PlainB c) hall hc ⟨by omega, by omega⟩⟩
theorem aja {t : Str} {H : List Ob} : callW C 44 [.str t] H = some (.bool (dec (NameOk t)), H) := by
 apply Ret.dec
 rw [aux]
 by_cases g1 : (t.length : Int) < 1
 ·have g2 : ¬ NameOk t := fun h => by have := h.1; omega
  simp [aiV, Tryz.f44, g1, g2]
 by_cases g2 : (t.length : Int) > 20
 ·have g3 : ¬ NameOk t := fun h => by have := h.2.1; omega
  simp [aiV, Tryz.f44, g1, g2, g3]
 simp [aiV, Tryz.f44, g1, g2]
 refine WP_loop (fun k σ => ∃ (i : Nat) (r : Nat → R), i + k = t.length ∧ σ = ⟨r, 0, H⟩ ∧ r 0 = .val (.str t) ∧ r 3 = .val (.int .i64 i) ∧ ∀ j, j < i → ∀ c, t[j]? = some c → LowB c ∨ (0 < j ∧ (DigB c ∨ c.toNat = 95))) ?_ t.length _ ⟨0, _, by simp, rfl, by simp, by simp, by simp⟩
 rintro k σ ⟨i, r, hik, rfl, r0, r3, hall⟩
 cases k with
 | zero =>
  have hi : i = t.length := by omega
  subst hi
  have hok : NameOk t := ⟨by omega, by omega, fun j c hc => hall j (List.getElem?_eq_some_iff.1 hc).1 c hc⟩
  simp [r0, r3, hok]
 | succ k =>
  have hi : i < t.length := by omega
  obtain ⟨c, hc⟩ : ∃ c, t[i]? = some c := ⟨t[i], by simp [hi]⟩
  have hc' : t[i] = c := (List.getElem?_eq_some_iff.1 hc).2
  have hw : IntKind.i64.wrap ((i : Int) + 1) = ((i : Int) + 1) := wrap_i64 (by omega) (by omega)
  have hgo : LowB c ∨ (0 < i ∧ (DigB c ∨ c.toNat = 95)) → ∃ k', k' < k + 1 ∧ ∃ i', i' + k' = t.length ∧ (i : Int) + 1 = i' ∧ ∀ j, j < i' → ∀ c, t[j]? = some c → LowB c ∨ (0 < j ∧ (DigB c ∨ c.toNat = 95)) := fun h =>
   ⟨k, by omega, i + 1, by omega, by omega, all_step (P := fun j c => LowB c ∨ (0 < j ∧ (DigB c ∨ c.toNat = 95))) hall hc h⟩
  by_cases h1 : LowB c
  ·have h1a : (c.toNat : Int) ≥ 97 := by have := h1.1; omega
   have h1b : (c.toNat : Int) ≤ 122 := by have := h1.2; omega
   simp [r0, r3, hi, hc', h1a, h1b, hw]
   exact hgo (.inl h1)
  have hl : (¬ (c.toNat : Int) ≥ 97) ∨ ((c.toNat : Int) ≥ 97 ∧ ¬ (c.toNat : Int) ≤ 122) := by unfold LowB at h1; omega
  have hno : ¬ (0 < i ∧ (DigB c ∨ c.toNat = 95)) → ¬ NameOk t := fun h hk => (hk.2.2 i c hc).elim h1 h
  by_cases h2 : i = 0
  ·have hno := hno (by omega)
   subst h2
   rcases hl with hl | ⟨hl, hl2⟩
   ·simp [r0, r3, hi, hc', hl, hno]
   ·simp [r0, r3, hi, hc', hl, hl2, hno]
  have h2' : ¬ (i : Int) = 0 := by omega
  by_cases h3 : DigB c
  ·have h3a : (c.toNat : Int) ≥ 48 := by have := h3.1; omega
   have h3b : (c.toNat : Int) ≤ 57 := by have := h3.2; omega
   have h3c : ¬ (c.toNat : Int) ≥ 97 := by omega
   simp [r0, r3, hi, hc', h2, h3a, h3b, h3c, hw]
   exact hgo (.inr ⟨by omega, .inl h3⟩)
  have hd : (¬ (c.toNat : Int) ≥ 48) ∨ ((c.toNat : Int) ≥ 48 ∧ ¬ (c.toNat : Int) ≤ 57) := by unfold DigB at h3; omega
  by_cases h4 : c.toNat = 95
  ·have := hgo (.inr ⟨by omega, .inr h4⟩)
   simp [r0, r3, hi, hc', h2, h4, hw]
   exact this
  ·have h4' : ¬ (c.toNat : Int) = 95 := by omega
   have hno := hno (fun h => h.2.elim h3 h4)
   rcases hl with hl | ⟨hl, hl2⟩ <;> rcases hd with hd | ⟨hd, hd2⟩
   ·simp [r0, r3, hi, hc', h2, h4', hl, hd, hno]
   ·simp [r0, r3, hi, hc', h2, h4', hl, hd, hd2, hno]
   ·simp [r0, r3, hi, hc', h2, h4', hl, hl2, hd, hno]
   ·simp [r0, r3, hi, hc', h2, h4', hl, hl2, hd, hd2, hno]
theorem akc {c : UInt8} (h1 : 65 ≤ c.toNat) (h2 : c.toNat ≤ 90) : IntKind.u8.wrap ((c.toNat : Int) + 32) = ((lowC c).toNat : Int) := by
 have : lowC c = c + 32 := by unfold lowC; rw [if_pos ⟨h1, h2⟩]
 rw [this]
 unfold IntKind.wrap
 simp [IntKind.bits, IntKind.signed, UInt8.toNat_add]
theorem ajd {c : UInt8} (h1 : 65 ≤ c.toNat) (h2 : c.toNat ≤ 90) : (lowC c).toNat = c.toNat + 32 := by
 have : lowC c = c + 32 := by unfold lowC; rw [if_pos ⟨h1, h2⟩]
 rw [this, UInt8.toNat_add]
 have : c.toNat + 32 < 256 := by omega
 simp
 omega
theorem akp {c : UInt8} (h : ¬ (65 ≤ c.toNat ∧ c.toNat ≤ 90)) : lowC c = c := by unfold lowC; rw [if_neg h]
theorem ai0 {c : UInt8} : c = 32 ↔ c.toNat = 32 := ⟨fun h => by rw [h]; rfl, fun h => UInt8.toNat_inj.1 h⟩
theorem aiW {t : Str} {i : Nat} {c : UInt8} (h : t[i]? = some c) (f : Str → UInt8 → Str) (b : Str) : (t.take (i + 1)).foldl f b = f ((t.take i).foldl f b) c := by
 rw [take_get h, List.foldl_append]
 rfl
theorem ah2 {b : Str} {d : UInt8} (h : b.getLast? = some d) : endSp b = true ↔ d = 32 := by
 unfold endSp
 rw [h]
 simp
theorem aiJ {b : Str} (h : b ≠ []) : ∃ d, b.getLast? = some d := ⟨b.getLast h, List.getLast?_eq_some_getLast h⟩
theorem ajn {t : Str} {H : List Ob} : callW C 186 [.str t] H = some (.str (norm t), H) := by
 apply Ret.eq
 rw [aqc]
 by_cases g1 : (t.length : Int) > 100
 ·have : norm t = [] := by unfold norm; rw [if_neg (by omega)]
  simp [aiE, Tryz.f186, g1, this]
 have hp := ala (t := t) (H := H) (by omega)
 by_cases g2 : Plain t
 rotate_left
 ·rw [dec_neg g2] at hp
  have : norm t = [] := by unfold norm; rw [dec_neg g2]; simp
  simp [aiE, Tryz.f186, g1, hp, this]
 rw [dec_pos g2] at hp
 have hn : norm t = nfin (t.foldl nstep []) := by unfold norm; rw [if_pos ⟨by omega, dec_pos g2⟩]
 have hbz : ∀ i, ((t.take i).foldl nstep []).length ≤ 100 := fun i => by
  have := foldl_len (t.take i) []
  simp at this
  omega
 simp [aiE, Tryz.f186, g1, hp, elemT, fillL, zerosL, St.new]
 refine WP_loop (fun k σ => ∃ (i : Nat) (r : Nat → R) (G : List Ob) (v : V), i + k = t.length ∧ σ = ⟨r, 0, G⟩ ∧ r 0 = .val (.str t) ∧ r 3 = .val v ∧ r 4 = .val (.int .i64 i) ∧ Bs H G v ((t.take i).foldl nstep [])) ?_ t.length _ ⟨0, _, _, _, by simp, rfl, by simp, by simp, by simp, Bs.init⟩
 rintro k σ ⟨i, r, G, v, hik, rfl, r0, r3, r4, hB⟩
 have hbl := hbz i
 generalize hb : (t.take i).foldl nstep [] = b at hB hbl
 have hw1 : IntKind.i64.wrap ((b.length : Int) - 1) = (b.length : Int) - 1 := wrap_i64 (by omega) (by omega)
 cases k with
 | zero =>
  have hi : i = t.length := by omega
  subst hi
  rw [List.take_length] at hb
  rw [hb] at hn
  obtain ⟨TT, rfl⟩ := hB.ext
  by_cases hb0 : b = []
  ·subst hb0
   obtain ⟨id, rfl, hst, hsl⟩ := hB.cut (n := 0) (Nat.le_refl _)
   simp [r0, r3, r4, hsl, isByte, bys_mapM, hn, nfin, endSp]
  ·obtain ⟨d, hd⟩ := aiJ hb0
   have hb1 : 0 < b.length := List.length_pos_iff.2 hb0
   have hb2 : 0 < (b.length : Int) := by omega
   have hb3 : (1 : Int) ≤ (b.length : Int) := by omega
   have hb5 : (b.length : Int) - 1 < (b.length : Int) := by omega
   have hb4 : ((b.length : Int) - 1).toNat = b.length - 1 := by omega
   obtain ⟨id, rfl, hld⟩ := hB.last hd
   by_cases hd32 : d = 32
   ·obtain ⟨_, hv, hst, hsl⟩ := hB.cut (n := b.length - 1) (by omega)
    cases hv
    have he : nfin b = b.take (b.length - 1) := by unfold nfin; rw [if_pos ((ah2 hd).2 hd32), List.dropLast_eq_take]
    have hd' : (d.toNat : Int) = 32 := by rw [hd32]; rfl
    simp [r0, r3, r4, hb0, hb1, hb2, hb3, hb4, hb5, hw1, hld, hd', hst, hsl, isByte, bys_mapM, hn, he]
   ·obtain ⟨_, hv, hst, hsl⟩ := hB.cut (n := b.length) (Nat.le_refl _)
    cases hv
    have he : nfin b = b := by unfold nfin; rw [if_neg (fun h => hd32 ((ah2 hd).1 h))]
    have hd' : ¬ (d.toNat : Int) = 32 := by have := mt ai0.2 hd32; omega
    rw [List.take_length] at hsl
    simp [r0, r3, r4, hb0, hb1, hb2, hb3, hb4, hb5, hw1, hld, hd', hst, hsl, isByte, bys_mapM, hn, he]
 | succ k =>
  have hi : i < t.length := by omega
  obtain ⟨c, hc⟩ : ∃ c, t[i]? = some c := ⟨t[i], by simp [hi]⟩
  have hc' : t[i] = c := (List.getElem?_eq_some_iff.1 hc).2
  have hw : IntKind.i64.wrap ((i : Int) + 1) = ((i : Int) + 1) := wrap_i64 (by omega) (by omega)
  have hfs := aiW hc nstep []
  rw [hb] at hfs
  have hgo : ∀ G' v', Bs H G' v' (nstep b c) → ∃ k', k' < k + 1 ∧ ∃ i', i' + k' = t.length ∧ (i : Int) + 1 = i' ∧ Bs H G' v' ((t.take i').foldl nstep []) := fun G' v' h =>
   ⟨k, by omega, i + 1, by omega, by omega, by rw [hfs]; exact h⟩
  by_cases hup : 65 ≤ c.toNat ∧ c.toNat ≤ 90
  ·have hu1 : (c.toNat : Int) ≥ 65 := by omega
   have hu2 : (c.toNat : Int) ≤ 90 := by omega
   have hlw := akc hup.1 hup.2
   have hl32 : ¬ ((lowC c).toNat : Int) = 32 := by rw [ajd hup.1 hup.2]; omega
   have hns : nstep b c = b ++ [lowC c] := by unfold nstep; rw [if_neg (fun h => hl32 (by rw [ai0.1 h.1]; rfl))]
   obtain ⟨v', G', ha, hB'⟩ := hB.push (by omega) (c := lowC c) (d := .int .u8) (z := [.int .u8 0]) rfl
   rw [← hns] at hB'
   simp [r0, r3, r4, hi, hc', hu1, hu2, hlw, hl32, elemT, fillL, zerosL, St.new, badArg, ha, hw]
   obtain ⟨k', q1, i', q2, q3, q4⟩ := hgo G' v' hB'
   exact ⟨k', q1, i', q2, _, _, ⟨rfl, rfl⟩, by simp [r0], _, by simp [r3], by simp [q3], q4⟩
  have hlc := akp hup
  have hu : (¬ (c.toNat : Int) ≥ 65) ∨ ((c.toNat : Int) ≥ 65 ∧ ¬ (c.toNat : Int) ≤ 90) := by omega
  by_cases h32 : c = 32
  ·have h32' : (c.toNat : Int) = 32 := by rw [h32]; rfl
   have hu1 : ¬ (c.toNat : Int) ≥ 65 := by omega
   by_cases hb0 : b = []
   ·have hns : nstep b c = b := by unfold nstep; rw [if_pos ⟨by rw [hlc, h32], .inl hb0⟩]
    rw [hns] at hgo
    have hbl0 : b.length = 0 := by rw [hb0]; rfl
    have := hgo G v hB
    simp [r0, r3, r4, hi, hc', h32', hB.len, hbl0, hw]
    obtain ⟨k', q1, i', q2, q3, q4⟩ := this
    exact ⟨k', q1, i', q2, _, _, ⟨rfl, rfl⟩, by simp [r0], _, by simp [r3], by simp [q3], q4⟩
   ·obtain ⟨d, hd⟩ := aiJ hb0
    have hb1 : 0 < b.length := List.length_pos_iff.2 hb0
    have hb3 : (1 : Int) ≤ (b.length : Int) := by omega
    have hb5 : (b.length : Int) - 1 < (b.length : Int) := by omega
    have hb4 : ((b.length : Int) - 1).toNat = b.length - 1 := by omega
    obtain ⟨id, hv, hld⟩ := hB.last hd
    have hB0 := hB
    subst hv
    by_cases hd32 : d = 32
    ·have hns : nstep b c = b := by unfold nstep; rw [if_pos ⟨by rw [hlc, h32], .inr ((ah2 hd).2 hd32)⟩]
     rw [hns] at hgo
     have hd' : (d.toNat : Int) = 32 := by rw [hd32]; rfl
     have := hgo G _ hB
     simp [r0, r3, r4, hi, hc', h32', hb0, hb1, hb3, hb4, hb5, hw1, hld, hd', hw]
     obtain ⟨k', q1, i', q2, q3, q4⟩ := this
     exact ⟨k', q1, i', q2, _, _, ⟨rfl, rfl⟩, by simp [r0], _, by simp [r3], by simp [q3], q4⟩
    ·have hns : nstep b c = b ++ [c] := by unfold nstep; rw [if_neg (fun h => h.2.elim hb0 (fun h => hd32 ((ah2 hd).1 h))), hlc]
     have hd' : ¬ (d.toNat : Int) = 32 := by have := mt ai0.2 hd32; omega
     obtain ⟨v', G', ha, hB'⟩ := hB.push (by omega) (c := c) (d := .int .u8) (z := [.int .u8 0]) rfl
     rw [← hns] at hB'
     rw [h32'] at ha
     simp [r0, r3, r4, hi, hc', h32', hb0, hb1, hb3, hb4, hb5, hw1, hld, hd', elemT, fillL, zerosL, St.new, badArg, ha, hw]
     obtain ⟨k', q1, i', q2, q3, q4⟩ := hgo G' v' hB'
     exact ⟨k', q1, i', q2, _, _, ⟨rfl, rfl⟩, by simp [r0], _, by simp [r3], by simp [q3], q4⟩
  ·have h32' : ¬ (c.toNat : Int) = 32 := by have := mt ai0.2 h32; omega
   have hns : nstep b c = b ++ [c] := by unfold nstep; rw [if_neg (fun h => h32 (hlc ▸ h.1)), hlc]
   obtain ⟨v', G', ha, hB'⟩ := hB.push (by omega) (c := c) (d := .int .u8) (z := [.int .u8 0]) rfl
   rw [← hns] at hB'
   have := hgo G' v' hB'
   rcases hu with hu | ⟨hu, hu2⟩
   ·simp [r0, r3, r4, hi, hc', hu, h32', elemT, fillL, zerosL, St.new, badArg, ha, hw]
    obtain ⟨k', q1, i', q2, q3, q4⟩ := this
    exact ⟨k', q1, i', q2, _, _, ⟨rfl, rfl⟩, by simp [r0], _, by simp [r3], by simp [q3], q4⟩
   ·simp [r0, r3, r4, hi, hc', hu, hu2, h32', elemT, fillL, zerosL, St.new, badArg, ha, hw]
    obtain ⟨k', q1, i', q2, q3, q4⟩ := this
    exact ⟨k', q1, i', q2, _, _, ⟨rfl, rfl⟩, by simp [r0], _, by simp [r3], by simp [q3], q4⟩
end Go.Proofs.Try1
end
