/- Part 09 of the proof of a law: the interpreter, its soundness, and what functions of the program compute over it. Conditions: none but those that each theorem names. -/
import Derived.Test.YtipjjjlomghdfaaGreatDoorR07
import Derived.Test.YtipjjjlomghdfaaGreatDoorR08
import Derived.Test.YtipjjjlomghdfaaGreatDoorR06

set_option linter.all false
set_option maxRecDepth 20000
set_option maxHeartbeats 40000000
section
namespace Go.Proofs.Try1
open Go Go.Lite
theorem auJ : aiK 124 shRdn := by
 intro H cs u left h hleft
 replace h := At_st.1 h
 obtain ⟨us, rfl, h⟩ := h
 replace h := Ats_cons.1 h
 obtain ⟨c0, d0, u0, rr0, rfl, rfl, h0, h⟩ := h
 replace h := Ats_cons.1 h
 obtain ⟨c1, d1, u1, rr1, rfl, rfl, h1, h⟩ := h
 replace h := Ats_nil.1 h
 obtain ⟨rfl, rfl⟩ := h
 replace h0 := At_str.1 h0
 obtain ⟨s0, rfl, rfl, w0⟩ := h0
 replace h1 := At_str.1 h1
 obtain ⟨s1, rfl, rfl, w1⟩ := h1
 by_cases g0 : s0.length ≤ left
 rotate_left
 ·have q0 : IntKind.i64.wrap (((left : Nat) : Int) - s0.length) = ((left : Nat) : Int) - s0.length := wrap_i64 (by have : s0.length ≤ 9223372036854775807 := w0; omega) (by omega)
  have p0 : ((left : Nat) : Int) - s0.length < 0 := by omega
  have hT : ¬ wt (U.st [(.str s0), (.str s1)]) ≤ left := by first | (simp only [wt_st, wts_cons, wts_nil, wt_str, wt_int, wt_bool]; omega) | (simp only [wt_st, wts_cons, wts_nil, wt_str, wt_int, wt_bool] at *; omega)
  rw [if_neg hT]
  apply Ret.eq
  rw [aqU]
  simp [ak7, Tryz.f124, valC, q0, p0]
 have q0 : IntKind.i64.wrap (((left : Nat) : Int) - s0.length) = ((left - s0.length : Nat) : Int) := by rw [wrap_i64 (by omega) (by omega)]; omega
 have p0 : ¬ (((left - s0.length : Nat) : Int) < 0) := by omega
 by_cases g1 : s1.length ≤ left - s0.length
 rotate_left
 ·have q1 : IntKind.i64.wrap (((left - s0.length : Nat) : Int) - s1.length) = ((left - s0.length : Nat) : Int) - s1.length := wrap_i64 (by have : s1.length ≤ 9223372036854775807 := w1; omega) (by omega)
  have p1 : ((left - s0.length : Nat) : Int) - s1.length < 0 := by omega
  have hT : ¬ wt (U.st [(.str s0), (.str s1)]) ≤ left := by first | (simp only [wt_st, wts_cons, wts_nil, wt_str, wt_int, wt_bool]; omega) | (simp only [wt_st, wts_cons, wts_nil, wt_str, wt_int, wt_bool] at *; omega)
  rw [if_neg hT]
  apply Ret.eq
  rw [aqU]
  simp [ak7, Tryz.f124, valC, q0, p0, q1, p1]
 have q1 : IntKind.i64.wrap (((left - s0.length : Nat) : Int) - s1.length) = ((left - s0.length - s1.length : Nat) : Int) := by rw [wrap_i64 (by omega) (by omega)]; omega
 have p1 : ¬ (((left - s0.length - s1.length : Nat) : Int) < 0) := by omega
 have hT : wt (U.st [(.str s0), (.str s1)]) ≤ left := by first | (simp only [wt_st, wts_cons, wts_nil, wt_str, wt_int, wt_bool]; omega) | (simp only [wt_st, wts_cons, wts_nil, wt_str, wt_int, wt_bool] at *; omega)
 have hE : left - wt (U.st [(.str s0), (.str s1)]) = left - s0.length - s1.length := by first | (simp only [wt_st, wts_cons, wts_nil, wt_str, wt_int, wt_bool]; omega) | (simp only [wt_st, wts_cons, wts_nil, wt_str, wt_int, wt_bool] at *; omega)
 rw [if_pos hT, hE]
 apply Ret.eq
 rw [aqU]
 simp [ak7, Tryz.f124, valC, q0, p0, q1, p1]
theorem amC : aiK 53 (.slice shRdn) :=
 akj (f := 53) (g := 124) (tS := 47) (tE := 180) (F := Tryz.f53) (op_ren (c := alD) (by kernel_rfl) aBL) rfl axH (by rw [amb]; rfl) (by rw [amb]; rfl) (by rw [amb]; decide) auJ
theorem ast : aiK 282 shAttr := by
 intro H cs u left h hleft
 replace h := At_st.1 h
 obtain ⟨us, rfl, h⟩ := h
 replace h := Ats_cons.1 h
 obtain ⟨c0, d0, u0, rr0, rfl, rfl, h0, h⟩ := h
 replace h := Ats_cons.1 h
 obtain ⟨c1, d1, u1, rr1, rfl, rfl, h1, h⟩ := h
 replace h := Ats_nil.1 h
 obtain ⟨rfl, rfl⟩ := h
 replace h0 := At_str.1 h0
 obtain ⟨s0, rfl, rfl, w0⟩ := h0
 have k1 := h1
 replace h1 := At_slice.1 h1
 obtain ⟨v1, l1, rfl, rfl, w1, hv1⟩ := h1
 have o1 := hv1.one
 by_cases g0 : s0.length ≤ left
 rotate_left
 ·have q0 : IntKind.i64.wrap (((left : Nat) : Int) - s0.length) = ((left : Nat) : Int) - s0.length := wrap_i64 (by have : s0.length ≤ 9223372036854775807 := w0; omega) (by omega)
  have p0 : ((left : Nat) : Int) - s0.length < 0 := by omega
  have hT : ¬ wt (U.st [(.str s0), (.lst l1)]) ≤ left := by first | (simp only [wt_st, wts_cons, wts_nil, wt_str, wt_int, wt_bool]; omega) | (simp only [wt_st, wts_cons, wts_nil, wt_str, wt_int, wt_bool] at *; omega)
  rw [if_neg hT]
  apply Ret.eq
  rw [aqG]
  simp [alb, Tryz.f282, valC, q0, p0, o1]
 have q0 : IntKind.i64.wrap (((left : Nat) : Int) - s0.length) = ((left - s0.length : Nat) : Int) := by rw [wrap_i64 (by omega) (by omega)]; omega
 have p0 : ¬ (((left - s0.length : Nat) : Int) < 0) := by omega
 have q1 := aiZ H _ _ (left - s0.length) k1 (by omega)
 simp only [valC, List.headD_cons, List.append_nil, List.cons_append, List.nil_append] at q1
 by_cases g1 : wt (.lst l1) ≤ left - s0.length
 rotate_left
 ·rw [if_neg g1] at q1
  have hT : ¬ wt (U.st [(.str s0), (.lst l1)]) ≤ left := by first | (simp only [wt_st, wts_cons, wts_nil, wt_str, wt_int, wt_bool]; omega) | (simp only [wt_st, wts_cons, wts_nil, wt_str, wt_int, wt_bool] at *; omega)
  rw [if_neg hT]
  apply Ret.eq
  rw [aqG]
  simp [alb, Tryz.f282, valC, q0, p0, q1, o1]
 rw [if_pos g1] at q1
 have p1 : ¬ (((left - s0.length - wt (.lst l1) : Nat) : Int) < 0) := by omega
 have hT : wt (U.st [(.str s0), (.lst l1)]) ≤ left := by first | (simp only [wt_st, wts_cons, wts_nil, wt_str, wt_int, wt_bool]; omega) | (simp only [wt_st, wts_cons, wts_nil, wt_str, wt_int, wt_bool] at *; omega)
 have hE : left - wt (U.st [(.str s0), (.lst l1)]) = left - s0.length - wt (.lst l1) := by first | (simp only [wt_st, wts_cons, wts_nil, wt_str, wt_int, wt_bool]; omega) | (simp only [wt_st, wts_cons, wts_nil, wt_str, wt_int, wt_bool] at *; omega)
 rw [if_pos hT, hE]
 apply Ret.eq
 rw [aqG]
 simp [alb, Tryz.f282, valC, q0, p0, q1, p1, o1]
theorem ap4 : aiK 216 (.slice shAttr) :=
 akj (f := 216) (g := 282) (tS := 191) (tE := 323) (F := Tryz.f216) (op_ren (c := apb) (by kernel_rfl) ax1) rfl atM (by rw [al5]; rfl) (by rw [al5]; rfl) (by rw [al5]; decide) ast
theorem anf : aiK 128 shEntry := by
 intro H cs u left h hleft
 replace h := At_st.1 h
 obtain ⟨us, rfl, h⟩ := h
 replace h := Ats_cons.1 h
 obtain ⟨c0, d0, u0, rr0, rfl, rfl, h0, h⟩ := h
 replace h := Ats_cons.1 h
 obtain ⟨c1, d1, u1, rr1, rfl, rfl, h1, h⟩ := h
 replace h := Ats_nil.1 h
 obtain ⟨rfl, rfl⟩ := h
 have k0 := h0
 replace h0 := At_slice.1 h0
 obtain ⟨v0, l0, rfl, rfl, w0, hv0⟩ := h0
 have o0 := hv0.one
 have k1 := h1
 replace h1 := At_slice.1 h1
 obtain ⟨v1, l1, rfl, rfl, w1, hv1⟩ := h1
 have o1 := hv1.one
 have q0 := amC H _ _ (left) k0 (by omega)
 simp only [valC, List.headD_cons, List.append_nil, List.cons_append, List.nil_append] at q0
 by_cases g0 : wt (.lst l0) ≤ left
 rotate_left
 ·rw [if_neg g0] at q0
  have hT : ¬ wt (U.st [(.lst l0), (.lst l1)]) ≤ left := by first | (simp only [wt_st, wts_cons, wts_nil, wt_str, wt_int, wt_bool]; omega) | (simp only [wt_st, wts_cons, wts_nil, wt_str, wt_int, wt_bool] at *; omega)
  rw [if_neg hT]
  apply Ret.eq
  rw [aq9]
  simp [akN, Tryz.f128, valC, q0, o0, o1]
 rw [if_pos g0] at q0
 have p0 : ¬ (((left - wt (.lst l0) : Nat) : Int) < 0) := by omega
 have q1 := ap4 H _ _ (left - wt (.lst l0)) k1 (by omega)
 simp only [valC, List.headD_cons, List.append_nil, List.cons_append, List.nil_append] at q1
 by_cases g1 : wt (.lst l1) ≤ left - wt (.lst l0)
 rotate_left
 ·rw [if_neg g1] at q1
  have hT : ¬ wt (U.st [(.lst l0), (.lst l1)]) ≤ left := by first | (simp only [wt_st, wts_cons, wts_nil, wt_str, wt_int, wt_bool]; omega) | (simp only [wt_st, wts_cons, wts_nil, wt_str, wt_int, wt_bool] at *; omega)
  rw [if_neg hT]
  apply Ret.eq
  rw [aq9]
  simp [akN, Tryz.f128, valC, q0, p0, q1, o0, o1]
 rw [if_pos g1] at q1
 have p1 : ¬ (((left - wt (.lst l0) - wt (.lst l1) : Nat) : Int) < 0) := by omega
 have hT : wt (U.st [(.lst l0), (.lst l1)]) ≤ left := by first | (simp only [wt_st, wts_cons, wts_nil, wt_str, wt_int, wt_bool]; omega) | (simp only [wt_st, wts_cons, wts_nil, wt_str, wt_int, wt_bool] at *; omega)
 have hE : left - wt (U.st [(.lst l0), (.lst l1)]) = left - wt (.lst l0) - wt (.lst l1) := by first | (simp only [wt_st, wts_cons, wts_nil, wt_str, wt_int, wt_bool]; omega) | (simp only [wt_st, wts_cons, wts_nil, wt_str, wt_int, wt_bool] at *; omega)
 rw [if_pos hT, hE]
 apply Ret.eq
 rw [aq9]
 simp [akN, Tryz.f128, valC, q0, p0, q1, p1, o0, o1]
theorem apU : aiK 57 (.slice shEntry) :=
 akj (f := 57) (g := 128) (tS := 23) (tE := 193) (F := Tryz.f57) (op_ren (c := ap0) (by kernel_rfl) aBl) rfl awk (by rw [al3]; rfl) (by rw [al3]; rfl) (by rw [al3]; decide) anf
theorem aqX : aiK 127 shClass := by
 intro H cs u left h hleft
 replace h := At_st.1 h
 obtain ⟨us, rfl, h⟩ := h
 replace h := Ats_cons.1 h
 obtain ⟨c0, d0, u0, rr0, rfl, rfl, h0, h⟩ := h
 replace h := Ats_cons.1 h
 obtain ⟨c1, d1, u1, rr1, rfl, rfl, h1, h⟩ := h
 replace h := Ats_cons.1 h
 obtain ⟨c2, d2, u2, rr2, rfl, rfl, h2, h⟩ := h
 replace h := Ats_cons.1 h
 obtain ⟨c3, d3, u3, rr3, rfl, rfl, h3, h⟩ := h
 replace h := Ats_nil.1 h
 obtain ⟨rfl, rfl⟩ := h
 replace h0 := At_str.1 h0
 obtain ⟨s0, rfl, rfl, w0⟩ := h0
 have k1 := h1
 replace h1 := At_slice.1 h1
 obtain ⟨v1, l1, rfl, rfl, w1, hv1⟩ := h1
 have o1 := hv1.one
 have k2 := h2
 replace h2 := At_slice.1 h2
 obtain ⟨v2, l2, rfl, rfl, w2, hv2⟩ := h2
 have o2 := hv2.one
 have k3 := h3
 replace h3 := At_slice.1 h3
 obtain ⟨v3, l3, rfl, rfl, w3, hv3⟩ := h3
 have o3 := hv3.one
 by_cases g0 : s0.length ≤ left
 rotate_left
 ·have q0 : IntKind.i64.wrap (((left : Nat) : Int) - s0.length) = ((left : Nat) : Int) - s0.length := wrap_i64 (by have : s0.length ≤ 9223372036854775807 := w0; omega) (by omega)
  have p0 : ((left : Nat) : Int) - s0.length < 0 := by omega
  have hT : ¬ wt (U.st [(.str s0), (.lst l1), (.lst l2), (.lst l3)]) ≤ left := by first | (simp only [wt_st, wts_cons, wts_nil, wt_str, wt_int, wt_bool]; omega) | (simp only [wt_st, wts_cons, wts_nil, wt_str, wt_int, wt_bool] at *; omega)
  rw [if_neg hT]
  apply Ret.eq
  rw [anm]
  simp [ajL, Tryz.f127, valC, q0, p0, o1, o2, o3]
 have q0 : IntKind.i64.wrap (((left : Nat) : Int) - s0.length) = ((left - s0.length : Nat) : Int) := by rw [wrap_i64 (by omega) (by omega)]; omega
 have p0 : ¬ (((left - s0.length : Nat) : Int) < 0) := by omega
 have q1 := aiZ H _ _ (left - s0.length) k1 (by omega)
 simp only [valC, List.headD_cons, List.append_nil, List.cons_append, List.nil_append] at q1
 by_cases g1 : wt (.lst l1) ≤ left - s0.length
 rotate_left
 ·rw [if_neg g1] at q1
  have hT : ¬ wt (U.st [(.str s0), (.lst l1), (.lst l2), (.lst l3)]) ≤ left := by first | (simp only [wt_st, wts_cons, wts_nil, wt_str, wt_int, wt_bool]; omega) | (simp only [wt_st, wts_cons, wts_nil, wt_str, wt_int, wt_bool] at *; omega)
  rw [if_neg hT]
  apply Ret.eq
  rw [anm]
  simp [ajL, Tryz.f127, valC, q0, p0, q1, o1, o2, o3]
 rw [if_pos g1] at q1
 have p1 : ¬ (((left - s0.length - wt (.lst l1) : Nat) : Int) < 0) := by omega
 have q2 := aiZ H _ _ (left - s0.length - wt (.lst l1)) k2 (by omega)
 simp only [valC, List.headD_cons, List.append_nil, List.cons_append, List.nil_append] at q2
 by_cases g2 : wt (.lst l2) ≤ left - s0.length - wt (.lst l1)
 rotate_left
 ·rw [if_neg g2] at q2
  have hT : ¬ wt (U.st [(.str s0), (.lst l1), (.lst l2), (.lst l3)]) ≤ left := by first | (simp only [wt_st, wts_cons, wts_nil, wt_str, wt_int, wt_bool]; omega) | (simp only [wt_st, wts_cons, wts_nil, wt_str, wt_int, wt_bool] at *; omega)
  rw [if_neg hT]
  apply Ret.eq
  rw [anm]
  simp [ajL, Tryz.f127, valC, q0, p0, q1, p1, q2, o1, o2, o3]
 rw [if_pos g2] at q2
 have p2 : ¬ (((left - s0.length - wt (.lst l1) - wt (.lst l2) : Nat) : Int) < 0) := by omega
 have q3 := aiZ H _ _ (left - s0.length - wt (.lst l1) - wt (.lst l2)) k3 (by omega)
 simp only [valC, List.headD_cons, List.append_nil, List.cons_append, List.nil_append] at q3
 by_cases g3 : wt (.lst l3) ≤ left - s0.length - wt (.lst l1) - wt (.lst l2)
 rotate_left
 ·rw [if_neg g3] at q3
  have hT : ¬ wt (U.st [(.str s0), (.lst l1), (.lst l2), (.lst l3)]) ≤ left := by first | (simp only [wt_st, wts_cons, wts_nil, wt_str, wt_int, wt_bool]; omega) | (simp only [wt_st, wts_cons, wts_nil, wt_str, wt_int, wt_bool] at *; omega)
  rw [if_neg hT]
  apply Ret.eq
  rw [anm]
  simp [ajL, Tryz.f127, valC, q0, p0, q1, p1, q2, p2, q3, o1, o2, o3]
 rw [if_pos g3] at q3
 have p3 : ¬ (((left - s0.length - wt (.lst l1) - wt (.lst l2) - wt (.lst l3) : Nat) : Int) < 0) := by omega
 have hT : wt (U.st [(.str s0), (.lst l1), (.lst l2), (.lst l3)]) ≤ left := by first | (simp only [wt_st, wts_cons, wts_nil, wt_str, wt_int, wt_bool]; omega) | (simp only [wt_st, wts_cons, wts_nil, wt_str, wt_int, wt_bool] at *; omega)
 have hE : left - wt (U.st [(.str s0), (.lst l1), (.lst l2), (.lst l3)]) = left - s0.length - wt (.lst l1) - wt (.lst l2) - wt (.lst l3) := by first | (simp only [wt_st, wts_cons, wts_nil, wt_str, wt_int, wt_bool]; omega) | (simp only [wt_st, wts_cons, wts_nil, wt_str, wt_int, wt_bool] at *; omega)
 rw [if_pos hT, hE]
 apply Ret.eq
 rw [anm]
 simp [ajL, Tryz.f127, valC, q0, p0, q1, p1, q2, p2, q3, p3, o1, o2, o3]
theorem apR : aiK 56 (.slice shClass) :=
 akj (f := 56) (g := 127) (tS := 22) (tE := 189) (F := Tryz.f56) (op_ren (c := arK) (by kernel_rfl) aB4) rfl au7 (by rw [alZ]; rfl) (by rw [alZ]; rfl) (by rw [alZ]; decide) aqX
theorem asx : aiK 14 shTree := by
 intro H cs u left h hleft
 replace h := At_st.1 h
 obtain ⟨us, rfl, h⟩ := h
 replace h := Ats_cons.1 h
 obtain ⟨c0, d0, u0, rr0, rfl, rfl, h0, h⟩ := h
 replace h := Ats_cons.1 h
 obtain ⟨c1, d1, u1, rr1, rfl, rfl, h1, h⟩ := h
 replace h := Ats_nil.1 h
 obtain ⟨rfl, rfl⟩ := h
 have k0 := h0
 replace h0 := At_slice.1 h0
 obtain ⟨v0, l0, rfl, rfl, w0, hv0⟩ := h0
 have o0 := hv0.one
 have k1 := h1
 replace h1 := At_slice.1 h1
 obtain ⟨v1, l1, rfl, rfl, w1, hv1⟩ := h1
 have o1 := hv1.one
 have q0 := apR H _ _ (left) k0 (by omega)
 simp only [valC, List.headD_cons, List.append_nil, List.cons_append, List.nil_append] at q0
 by_cases g0 : wt (.lst l0) ≤ left
 rotate_left
 ·rw [if_neg g0] at q0
  have hT : ¬ wt (U.st [(.lst l0), (.lst l1)]) ≤ left := by first | (simp only [wt_st, wts_cons, wts_nil, wt_str, wt_int, wt_bool]; omega) | (simp only [wt_st, wts_cons, wts_nil, wt_str, wt_int, wt_bool] at *; omega)
  rw [if_neg hT]
  apply Ret.eq
  rw [aup]
  simp [amF, Tryz.f14, valC, q0, o0, o1]
 rw [if_pos g0] at q0
 have p0 : ¬ (((left - wt (.lst l0) : Nat) : Int) < 0) := by omega
 have q1 := apU H _ _ (left - wt (.lst l0)) k1 (by omega)
 simp only [valC, List.headD_cons, List.append_nil, List.cons_append, List.nil_append] at q1
 by_cases g1 : wt (.lst l1) ≤ left - wt (.lst l0)
 rotate_left
 ·rw [if_neg g1] at q1
  have hT : ¬ wt (U.st [(.lst l0), (.lst l1)]) ≤ left := by first | (simp only [wt_st, wts_cons, wts_nil, wt_str, wt_int, wt_bool]; omega) | (simp only [wt_st, wts_cons, wts_nil, wt_str, wt_int, wt_bool] at *; omega)
  rw [if_neg hT]
  apply Ret.eq
  rw [aup]
  simp [amF, Tryz.f14, valC, q0, p0, q1, o0, o1]
 rw [if_pos g1] at q1
 have p1 : ¬ (((left - wt (.lst l0) - wt (.lst l1) : Nat) : Int) < 0) := by omega
 have hT : wt (U.st [(.lst l0), (.lst l1)]) ≤ left := by first | (simp only [wt_st, wts_cons, wts_nil, wt_str, wt_int, wt_bool]; omega) | (simp only [wt_st, wts_cons, wts_nil, wt_str, wt_int, wt_bool] at *; omega)
 have hE : left - wt (U.st [(.lst l0), (.lst l1)]) = left - wt (.lst l0) - wt (.lst l1) := by first | (simp only [wt_st, wts_cons, wts_nil, wt_str, wt_int, wt_bool]; omega) | (simp only [wt_st, wts_cons, wts_nil, wt_str, wt_int, wt_bool] at *; omega)
 rw [if_pos hT, hE]
 apply Ret.eq
 rw [aup]
 simp [amF, Tryz.f14, valC, q0, p0, q1, p1, o0, o1]
theorem asB : aiK 125 shNode := by
 intro H cs u left h hleft
 replace h := At_st.1 h
 obtain ⟨us, rfl, h⟩ := h
 replace h := Ats_cons.1 h
 obtain ⟨c0, d0, u0, rr0, rfl, rfl, h0, h⟩ := h
 replace h := Ats_cons.1 h
 obtain ⟨c1, d1, u1, rr1, rfl, rfl, h1, h⟩ := h
 replace h := Ats_cons.1 h
 obtain ⟨c2, d2, u2, rr2, rfl, rfl, h2, h⟩ := h
 replace h := Ats_cons.1 h
 obtain ⟨c3, d3, u3, rr3, rfl, rfl, h3, h⟩ := h
 replace h := Ats_nil.1 h
 obtain ⟨rfl, rfl⟩ := h
 replace h0 := At_int.1 h0
 obtain ⟨n0, rfl, rfl, w0⟩ := h0
 replace h1 := At_str.1 h1
 obtain ⟨s1, rfl, rfl, w1⟩ := h1
 replace h2 := At_str.1 h2
 obtain ⟨s2, rfl, rfl, w2⟩ := h2
 replace h3 := At_int.1 h3
 obtain ⟨n3, rfl, rfl, w3⟩ := h3
 by_cases g1 : s1.length ≤ left
 rotate_left
 ·have q1 : IntKind.i64.wrap (((left : Nat) : Int) - s1.length) = ((left : Nat) : Int) - s1.length := wrap_i64 (by have : s1.length ≤ 9223372036854775807 := w1; omega) (by omega)
  have p1 : ((left : Nat) : Int) - s1.length < 0 := by omega
  have hT : ¬ wt (U.st [(.int n0), (.str s1), (.str s2), (.int n3)]) ≤ left := by first | (simp only [wt_st, wts_cons, wts_nil, wt_str, wt_int, wt_bool]; omega) | (simp only [wt_st, wts_cons, wts_nil, wt_str, wt_int, wt_bool] at *; omega)
  rw [if_neg hT]
  apply Ret.eq
  rw [arh]
  simp [ak6, Tryz.f125, valC, q1, p1]
 have q1 : IntKind.i64.wrap (((left : Nat) : Int) - s1.length) = ((left - s1.length : Nat) : Int) := by rw [wrap_i64 (by omega) (by omega)]; omega
 have p1 : ¬ (((left - s1.length : Nat) : Int) < 0) := by omega
 by_cases g2 : s2.length ≤ left - s1.length
 rotate_left
 ·have q2 : IntKind.i64.wrap (((left - s1.length : Nat) : Int) - s2.length) = ((left - s1.length : Nat) : Int) - s2.length := wrap_i64 (by have : s2.length ≤ 9223372036854775807 := w2; omega) (by omega)
  have p2 : ((left - s1.length : Nat) : Int) - s2.length < 0 := by omega
  have hT : ¬ wt (U.st [(.int n0), (.str s1), (.str s2), (.int n3)]) ≤ left := by first | (simp only [wt_st, wts_cons, wts_nil, wt_str, wt_int, wt_bool]; omega) | (simp only [wt_st, wts_cons, wts_nil, wt_str, wt_int, wt_bool] at *; omega)
  rw [if_neg hT]
  apply Ret.eq
  rw [arh]
  simp [ak6, Tryz.f125, valC, q1, p1, q2, p2]
 have q2 : IntKind.i64.wrap (((left - s1.length : Nat) : Int) - s2.length) = ((left - s1.length - s2.length : Nat) : Int) := by rw [wrap_i64 (by omega) (by omega)]; omega
 have p2 : ¬ (((left - s1.length - s2.length : Nat) : Int) < 0) := by omega
 have hT : wt (U.st [(.int n0), (.str s1), (.str s2), (.int n3)]) ≤ left := by first | (simp only [wt_st, wts_cons, wts_nil, wt_str, wt_int, wt_bool]; omega) | (simp only [wt_st, wts_cons, wts_nil, wt_str, wt_int, wt_bool] at *; omega)
 have hE : left - wt (U.st [(.int n0), (.str s1), (.str s2), (.int n3)]) = left - s1.length - s2.length := by first | (simp only [wt_st, wts_cons, wts_nil, wt_str, wt_int, wt_bool]; omega) | (simp only [wt_st, wts_cons, wts_nil, wt_str, wt_int, wt_bool] at *; omega)
 rw [if_pos hT, hE]
 apply Ret.eq
 rw [arh]
 simp [ak6, Tryz.f125, valC, q1, p1, q2, p2]
theorem aqw : aiK 54 (.slice shNode) :=
 akj (f := 54) (g := 125) (tS := 48) (tE := 183) (F := Tryz.f54) (op_ren (c := aqD) (by kernel_rfl) aA6) rfl avJ (by rw [ama]; rfl) (by rw [ama]; rfl) (by rw [ama]; decide) asB
theorem asu : aiK 126 shPart := by
 intro H cs u left h hleft
 replace h := At_st.1 h
 obtain ⟨us, rfl, h⟩ := h
 replace h := Ats_cons.1 h
 obtain ⟨c0, d0, u0, rr0, rfl, rfl, h0, h⟩ := h
 replace h := Ats_cons.1 h
 obtain ⟨c1, d1, u1, rr1, rfl, rfl, h1, h⟩ := h
 replace h := Ats_cons.1 h
 obtain ⟨c2, d2, u2, rr2, rfl, rfl, h2, h⟩ := h
 replace h := Ats_nil.1 h
 obtain ⟨rfl, rfl⟩ := h
 replace h0 := At_int.1 h0
 obtain ⟨n0, rfl, rfl, w0⟩ := h0
 replace h1 := At_str.1 h1
 obtain ⟨s1, rfl, rfl, w1⟩ := h1
 replace h2 := At_int.1 h2
 obtain ⟨n2, rfl, rfl, w2⟩ := h2
 by_cases g1 : s1.length ≤ left
 rotate_left
 ·have q1 : IntKind.i64.wrap (((left : Nat) : Int) - s1.length) = ((left : Nat) : Int) - s1.length := wrap_i64 (by have : s1.length ≤ 9223372036854775807 := w1; omega) (by omega)
  have p1 : ((left : Nat) : Int) - s1.length < 0 := by omega
  have hT : ¬ wt (U.st [(.int n0), (.str s1), (.int n2)]) ≤ left := by first | (simp only [wt_st, wts_cons, wts_nil, wt_str, wt_int, wt_bool]; omega) | (simp only [wt_st, wts_cons, wts_nil, wt_str, wt_int, wt_bool] at *; omega)
  rw [if_neg hT]
  apply Ret.eq
  rw [atG]
  simp [amD, Tryz.f126, valC, q1, p1]
 have q1 : IntKind.i64.wrap (((left : Nat) : Int) - s1.length) = ((left - s1.length : Nat) : Int) := by rw [wrap_i64 (by omega) (by omega)]; omega
 have p1 : ¬ (((left - s1.length : Nat) : Int) < 0) := by omega
 have hT : wt (U.st [(.int n0), (.str s1), (.int n2)]) ≤ left := by first | (simp only [wt_st, wts_cons, wts_nil, wt_str, wt_int, wt_bool]; omega) | (simp only [wt_st, wts_cons, wts_nil, wt_str, wt_int, wt_bool] at *; omega)
 have hE : left - wt (U.st [(.int n0), (.str s1), (.int n2)]) = left - s1.length := by first | (simp only [wt_st, wts_cons, wts_nil, wt_str, wt_int, wt_bool]; omega) | (simp only [wt_st, wts_cons, wts_nil, wt_str, wt_int, wt_bool] at *; omega)
 rw [if_pos hT, hE]
 apply Ret.eq
 rw [atG]
 simp [amD, Tryz.f126, valC, q1, p1]
theorem alo : aiK 55 (.slice shPart) :=
 akj (f := 55) (g := 126) (tS := 49) (tE := 186) (F := Tryz.f55) (op_ren (c := aqi) (by kernel_rfl) aBQ) rfl avq (by rw [al4]; rfl) (by rw [al4]; rfl) (by rw [al4]; decide) asu
theorem asI : aiK 13 shFlow := by
 intro H cs u left h hleft
 replace h := At_st.1 h
 obtain ⟨us, rfl, h⟩ := h
 replace h := Ats_cons.1 h
 obtain ⟨c0, d0, u0, rr0, rfl, rfl, h0, h⟩ := h
 replace h := Ats_cons.1 h
 obtain ⟨c1, d1, u1, rr1, rfl, rfl, h1, h⟩ := h
 replace h := Ats_cons.1 h
 obtain ⟨c2, d2, u2, rr2, rfl, rfl, h2, h⟩ := h
 replace h := Ats_cons.1 h
 obtain ⟨c3, d3, u3, rr3, rfl, rfl, h3, h⟩ := h
 replace h := Ats_cons.1 h
 obtain ⟨c4, d4, u4, rr4, rfl, rfl, h4, h⟩ := h
 replace h := Ats_cons.1 h
 obtain ⟨c5, d5, u5, rr5, rfl, rfl, h5, h⟩ := h
 replace h := Ats_nil.1 h
 obtain ⟨rfl, rfl⟩ := h
 have k0 := h0
 replace h0 := At_slice.1 h0
 obtain ⟨v0, l0, rfl, rfl, w0, hv0⟩ := h0
 have o0 := hv0.one
 have k1 := h1
 replace h1 := At_slice.1 h1
 obtain ⟨v1, l1, rfl, rfl, w1, hv1⟩ := h1
 have o1 := hv1.one
 have k2 := h2
 replace h2 := At_slice.1 h2
 obtain ⟨v2, l2, rfl, rfl, w2, hv2⟩ := h2
 have o2 := hv2.one
 have k3 := h3
 replace h3 := At_slice.1 h3
 obtain ⟨v3, l3, rfl, rfl, w3, hv3⟩ := h3
 have o3 := hv3.one
 have k4 := h4
 replace h4 := At_slice.1 h4
 obtain ⟨v4, l4, rfl, rfl, w4, hv4⟩ := h4
 have o4 := hv4.one
 replace h5 := At_bool.1 h5
 obtain ⟨b5, rfl, rfl⟩ := h5
 have q0 := amC H _ _ (left) k0 (by omega)
 simp only [valC, List.headD_cons, List.append_nil, List.cons_append, List.nil_append] at q0
 by_cases g0 : wt (.lst l0) ≤ left
 rotate_left
 ·rw [if_neg g0] at q0
  have hT : ¬ wt (U.st [(.lst l0), (.lst l1), (.lst l2), (.lst l3), (.lst l4), (.bool b5)]) ≤ left := by first | (simp only [wt_st, wts_cons, wts_nil, wt_str, wt_int, wt_bool]; omega) | (simp only [wt_st, wts_cons, wts_nil, wt_str, wt_int, wt_bool] at *; omega)
  rw [if_neg hT]
  apply Ret.eq
  rw [apO]
  simp [ajZ, Tryz.f13, valC, q0, o0, o1, o2, o3, o4]
 rw [if_pos g0] at q0
 have p0 : ¬ (((left - wt (.lst l0) : Nat) : Int) < 0) := by omega
 have q1 := aqw H _ _ (left - wt (.lst l0)) k1 (by omega)
 simp only [valC, List.headD_cons, List.append_nil, List.cons_append, List.nil_append] at q1
 by_cases g1 : wt (.lst l1) ≤ left - wt (.lst l0)
 rotate_left
 ·rw [if_neg g1] at q1
  have hT : ¬ wt (U.st [(.lst l0), (.lst l1), (.lst l2), (.lst l3), (.lst l4), (.bool b5)]) ≤ left := by first | (simp only [wt_st, wts_cons, wts_nil, wt_str, wt_int, wt_bool]; omega) | (simp only [wt_st, wts_cons, wts_nil, wt_str, wt_int, wt_bool] at *; omega)
  rw [if_neg hT]
  apply Ret.eq
  rw [apO]
  simp [ajZ, Tryz.f13, valC, q0, p0, q1, o0, o1, o2, o3, o4]
 rw [if_pos g1] at q1
 have p1 : ¬ (((left - wt (.lst l0) - wt (.lst l1) : Nat) : Int) < 0) := by omega
 have q2 := alo H _ _ (left - wt (.lst l0) - wt (.lst l1)) k2 (by omega)
 simp only [valC, List.headD_cons, List.append_nil, List.cons_append, List.nil_append] at q2
 by_cases g2 : wt (.lst l2) ≤ left - wt (.lst l0) - wt (.lst l1)
 rotate_left
 ·rw [if_neg g2] at q2
  have hT : ¬ wt (U.st [(.lst l0), (.lst l1), (.lst l2), (.lst l3), (.lst l4), (.bool b5)]) ≤ left := by first | (simp only [wt_st, wts_cons, wts_nil, wt_str, wt_int, wt_bool]; omega) | (simp only [wt_st, wts_cons, wts_nil, wt_str, wt_int, wt_bool] at *; omega)
  rw [if_neg hT]
  apply Ret.eq
  rw [apO]
  simp [ajZ, Tryz.f13, valC, q0, p0, q1, p1, q2, o0, o1, o2, o3, o4]
 rw [if_pos g2] at q2
 have p2 : ¬ (((left - wt (.lst l0) - wt (.lst l1) - wt (.lst l2) : Nat) : Int) < 0) := by omega
 have q3 := alo H _ _ (left - wt (.lst l0) - wt (.lst l1) - wt (.lst l2)) k3 (by omega)
 simp only [valC, List.headD_cons, List.append_nil, List.cons_append, List.nil_append] at q3
 by_cases g3 : wt (.lst l3) ≤ left - wt (.lst l0) - wt (.lst l1) - wt (.lst l2)
 rotate_left
 ·rw [if_neg g3] at q3
  have hT : ¬ wt (U.st [(.lst l0), (.lst l1), (.lst l2), (.lst l3), (.lst l4), (.bool b5)]) ≤ left := by first | (simp only [wt_st, wts_cons, wts_nil, wt_str, wt_int, wt_bool]; omega) | (simp only [wt_st, wts_cons, wts_nil, wt_str, wt_int, wt_bool] at *; omega)
  rw [if_neg hT]
  apply Ret.eq
  rw [apO]
  simp [ajZ, Tryz.f13, valC, q0, p0, q1, p1, q2, p2, q3, o0, o1, o2, o3, o4]
 rw [if_pos g3] at q3
 have p3 : ¬ (((left - wt (.lst l0) - wt (.lst l1) - wt (.lst l2) - wt (.lst l3) : Nat) : Int) < 0) := by omega
 have q4 := alo H _ _ (left - wt (.lst l0) - wt (.lst l1) - wt (.lst l2) - wt (.lst l3)) k4 (by omega)
 simp only [valC, List.headD_cons, List.append_nil, List.cons_append, List.nil_append] at q4
 by_cases g4 : wt (.lst l4) ≤ left - wt (.lst l0) - wt (.lst l1) - wt (.lst l2) - wt (.lst l3)
 rotate_left
 ·rw [if_neg g4] at q4
  have hT : ¬ wt (U.st [(.lst l0), (.lst l1), (.lst l2), (.lst l3), (.lst l4), (.bool b5)]) ≤ left := by first | (simp only [wt_st, wts_cons, wts_nil, wt_str, wt_int, wt_bool]; omega) | (simp only [wt_st, wts_cons, wts_nil, wt_str, wt_int, wt_bool] at *; omega)
  rw [if_neg hT]
  apply Ret.eq
  rw [apO]
  simp [ajZ, Tryz.f13, valC, q0, p0, q1, p1, q2, p2, q3, p3, q4, o0, o1, o2, o3, o4]
 rw [if_pos g4] at q4
 have p4 : ¬ (((left - wt (.lst l0) - wt (.lst l1) - wt (.lst l2) - wt (.lst l3) - wt (.lst l4) : Nat) : Int) < 0) := by omega
 have hT : wt (U.st [(.lst l0), (.lst l1), (.lst l2), (.lst l3), (.lst l4), (.bool b5)]) ≤ left := by first | (simp only [wt_st, wts_cons, wts_nil, wt_str, wt_int, wt_bool]; omega) | (simp only [wt_st, wts_cons, wts_nil, wt_str, wt_int, wt_bool] at *; omega)
 have hE : left - wt (U.st [(.lst l0), (.lst l1), (.lst l2), (.lst l3), (.lst l4), (.bool b5)]) = left - wt (.lst l0) - wt (.lst l1) - wt (.lst l2) - wt (.lst l3) - wt (.lst l4) := by first | (simp only [wt_st, wts_cons, wts_nil, wt_str, wt_int, wt_bool]; omega) | (simp only [wt_st, wts_cons, wts_nil, wt_str, wt_int, wt_bool] at *; omega)
 rw [if_pos hT, hE]
 apply Ret.eq
 rw [apO]
 simp [ajZ, Tryz.f13, valC, q0, p0, q1, p1, q2, p2, q3, p3, q4, p4, o0, o1, o2, o3, o4]
def aiG (f : Nat) (sh : Sh) : Prop := ∀ (H : List Ob) (cs ds : List V) (u w : U), At H sh cs u → At H sh ds w →
 ∃ b : Bool, (b = true ↔ u = w) ∧ callW C f [valC sh cs, valC sh ds] H = some (.bool b, H)
theorem Ret.bool {f : Nat} {a : List V} {H : List Ob} {p : Prop} (h : Ret C f a H fun r H' => ∃ b : Bool, (b = true ↔ p) ∧ r = .bool b ∧ H' = H) : ∃ b : Bool, (b = true ↔ p) ∧ callW C f a H = some (.bool b, H) := by
 obtain ⟨r, H', hc, b, hb, rfl, rfl⟩ := h
 exact ⟨b, hb, hc⟩
theorem take_snoc {α : Type} {l m : List α} {i : Nat} {x : α} (h : l.take i = m.take i) (hx : l[i]? = some x) (hy : m[i]? = some x) : l.take (i + 1) = m.take (i + 1) := by
 rw [List.take_add_one, List.take_add_one, h, hx, hy]
theorem aqn {α : Type} {l m : List α} {i : Nat} {x y : α} (hx : l[i]? = some x) (hy : m[i]? = some y) (h : ¬ x = y) : ¬ l = m := by
 rintro rfl
 rw [hx] at hy
 exact h (Option.some.inj hy)
theorem ai1 : aiG 214 (.slice .str) := by
 intro H cs ds u w h h'
 obtain ⟨v, l, rfl, rfl, hlen, hv⟩ := At_slice.1 h
 obtain ⟨v', l', rfl, rfl, hlen', hv'⟩ := At_slice.1 h'
 apply Ret.bool
 rw [awU]
 have hl64 : l.length ≤ 9223372036854775807 := hlen
 by_cases hl : l.length = l'.length
 ·simp [ami, Tryz.f214, valC, hv.len, hv'.len, hl]
  refine WP_loop (fun k σ => ∃ (i : Nat) (r : Nat → R), i + k = l.length ∧ σ = ⟨r, 0, H⟩ ∧ r 0 = .val v ∧ r 1 = .val v' ∧ r 5 = .val (.int .i64 i) ∧ l.take i = l'.take i) ?_ l.length _ ⟨0, _, by simp, rfl, by simp, by simp, by simp, by simp⟩
  rintro k σ ⟨i, r, hik, rfl, r0, r1, r5, heq⟩
  cases k with
  | zero =>
   have hi : i = l'.length := by omega
   subst hi
   have : l = l' := by rwa [← hl, List.take_length, hl, List.take_length] at heq
   simp [r0, r1, r5, hv.len, hl, this]
  | succ k =>
   have hi : i < l.length := by omega
   have hi' : i < l'.length := by omega
   obtain ⟨x, hx⟩ : ∃ x, l[i]? = some x := ⟨l[i], by simp [hi]⟩
   obtain ⟨y, hy⟩ : ∃ y, l'[i]? = some y := ⟨l'[i], by simp [hi']⟩
   obtain ⟨eid, o, own, cells, e1, e2, e3, s, e4, rfl, e5⟩ := hv.idx hx (by decide)
   obtain ⟨eid', o', own', cells', f1, f2, f3, s', f4, rfl, f5⟩ := hv'.idx hy (by decide)
   simp only [Sh.size_str] at e1 f1
   have c0 : cells[o]? = some (.str s) := by simpa using cells_get e4 (j := 0) rfl
   have d0 : cells'[o']? = some (.str s') := by simpa using cells_get f4 (j := 0) rfl
   have ld := load1 e2 c0
   have ld' := load1 f2 d0
   have hw1 : IntKind.i64.wrap ((i : Int) + 1) = ((i + 1 : Nat) : Int) := by rw [wrap_i64 (by omega) (by omega)]; omega
   by_cases hxy : s = s'
   ·subst hxy
    simp [r0, r1, r5, hi', hv.len, hl, e1, f1, ld, ld', hw1, regionL_none]
    exact ⟨k, by omega, i + 1, by omega, by omega, take_snoc heq hx hy⟩
   ·have hne : ¬ l = l' := aqn hx hy (by intro e; cases e; exact hxy rfl)
    simp [r0, r1, r5, hi', hv.len, hl, e1, f1, ld, ld', hw1, regionL_none, hxy, hne]
 ·have hne : ¬ l = l' := fun e => hl (by rw [e])
  have hl' : ¬ (l.length : Int) = l'.length := by omega
  simp [ami, Tryz.f214, valC, hv.len, hv'.len, hl', hne, hl]
theorem akd {f g tS tE : Nat} {zs : List V} {fs : List Sh} {F : Func} (hop : ∀ {a : List V} {H : List Ob} {R : V → List Ob → Prop}, Ret C f a H R ↔ WP C f (ren [(56, tS), (202, tE)] [(153, g)] aly) ⟨initRegs a, 0, H⟩ (finQ C F H R))
  (hF : F.results = #[.tmp 4]) (hO : C.ord f 6 = none) (hS : C.ty tS = ⟨.slice tE, 1, 24, zs⟩) (hE : (C.ty tE).size = (Sh.st fs).size) (hE2 : (C.ty tE).isAgg = true) (hE0 : (C.ty tE).size ≠ 0) (hg : aiG g (.st fs)) : aiG f (.slice (.st fs)) := by
 intro H cs ds u w h h'
 obtain ⟨v, l, rfl, rfl, hlen, hv⟩ := At_slice.1 h
 obtain ⟨v', l', rfl, rfl, hlen', hv'⟩ := At_slice.1 h'
 apply Ret.bool
 rw [hop]
 have hl64 : l.length ≤ 9223372036854775807 := hlen
 by_cases hl : l.length = l'.length
 ·simp [aly, Tryz.f68, ren, renO, renP, renX, sub, valC, hS, hv.len, hv'.len, hl]
  refine WP_loop (fun k σ => ∃ (i : Nat) (r : Nat → R), i + k = l.length ∧ σ = ⟨r, 0, H⟩ ∧ r 0 = .val v ∧ r 1 = .val v' ∧ r 5 = .val (.int .i64 i) ∧ l.take i = l'.take i) ?_ l.length _ ⟨0, _, by simp, rfl, by simp, by simp, by simp, by simp⟩
  rintro k σ ⟨i, r, hik, rfl, r0, r1, r5, heq⟩
  cases k with
  | zero =>
   have hi : i = l'.length := by omega
   subst hi
   have : l = l' := by rwa [← hl, List.take_length, hl, List.take_length] at heq
   simp [r0, r1, r5, hS, hv.len, hl, this, hF]
  | succ k =>
   have hi : i < l.length := by omega
   have hi' : i < l'.length := by omega
   obtain ⟨x, hx⟩ : ∃ x, l[i]? = some x := ⟨l[i], by simp [hi]⟩
   obtain ⟨y, hy⟩ : ∃ y, l'[i]? = some y := ⟨l'[i], by simp [hi']⟩
   obtain ⟨eid, o, own, cells, e1, e2, e3, e4⟩ := hv.idx hx (by rw [← hE]; exact hE0)
   obtain ⟨eid', o', own', cells', f1, f2, f3, f4⟩ := hv'.idx hy (by rw [← hE]; exact hE0)
   have e1 := fun (k : IntKind) => e1 tE 1 24 zs C.ty k hE
   have f1 := fun (k : IntKind) => f1 tE 1 24 zs C.ty k hE
   have ld := load_agg (T := C.ty tE) e2 (by rw [hE]; exact e3) rfl hE0 hE2
   have ld' := load_agg (T := C.ty tE) f2 (by rw [hE]; exact f3) rfl hE0 hE2
   rw [hE] at ld ld'
   have hw1 : IntKind.i64.wrap ((i : Int) + 1) = ((i + 1 : Nat) : Int) := by rw [wrap_i64 (by omega) (by omega)]; omega
   obtain ⟨b, hb, hc⟩ := hg H _ _ x y e4 f4
   simp only [valC, Sh.size_st] at hc
   by_cases hxy : x = y
   ·have := hb.2 hxy
    subst this hxy
    simp [r0, r1, r5, hi', hS, hv.len, hl, e1, f1, ld, ld', hw1, regionL_none hO, hc]
    exact ⟨k, by omega, i + 1, by omega, by omega, take_snoc heq hx hy⟩
   ·have hne : ¬ l = l' := aqn hx hy hxy
    have : b = false := by cases b with
     | false => rfl
     | true => exact absurd (hb.1 rfl) hxy
    subst this
    simp [r0, r1, r5, hi', hS, hv.len, hl, e1, f1, ld, ld', hw1, regionL_none hO, hc, hne, hF]
 ·have hne : ¬ l = l' := fun e => hl (by rw [e])
  have hl' : ¬ (l.length : Int) = l'.length := by omega
  simp [aly, Tryz.f68, ren, renO, renP, renX, sub, valC, hS, hv.len, hv'.len, hl', hne, hl, hF]
theorem auE : aiG 153 shRdn := by
 intro H cs ds u w h h'
 replace h := At_st.1 h
 obtain ⟨usa, rfl, h⟩ := h
 replace h := Ats_cons.1 h
 obtain ⟨ca0, da0, ua0, rra0, rfl, rfl, ha0, h⟩ := h
 replace h := Ats_cons.1 h
 obtain ⟨ca1, da1, ua1, rra1, rfl, rfl, ha1, h⟩ := h
 replace h := Ats_nil.1 h
 obtain ⟨rfl, rfl⟩ := h
 replace ha0 := At_str.1 ha0
 obtain ⟨sa0, rfl, rfl, wa0⟩ := ha0
 replace ha1 := At_str.1 ha1
 obtain ⟨sa1, rfl, rfl, wa1⟩ := ha1
 replace h' := At_st.1 h'
 obtain ⟨usb, rfl, h'⟩ := h'
 replace h' := Ats_cons.1 h'
 obtain ⟨cb0, db0, ub0, rrb0, rfl, rfl, hb0, h'⟩ := h'
 replace h' := Ats_cons.1 h'
 obtain ⟨cb1, db1, ub1, rrb1, rfl, rfl, hb1, h'⟩ := h'
 replace h' := Ats_nil.1 h'
 obtain ⟨rfl, rfl⟩ := h'
 replace hb0 := At_str.1 hb0
 obtain ⟨sb0, rfl, rfl, wb0⟩ := hb0
 replace hb1 := At_str.1 hb1
 obtain ⟨sb1, rfl, rfl, wb1⟩ := hb1
 by_cases e0 : sa0 = sb0
 rotate_left
 ·refine ⟨false, by simp [e0], ?_⟩
  apply Ret.eq
  rw [aq3]
  simp [akT, Tryz.f153, valC, e0]
 subst e0
 by_cases e1 : sa1 = sb1
 rotate_left
 ·refine ⟨false, by simp [e1], ?_⟩
  apply Ret.eq
  rw [aq3]
  simp [akT, Tryz.f153, valC, e1]
 subst e1
 refine ⟨true, by simp only [], ?_⟩
 apply Ret.eq
 rw [aq3]
 simp [akT, Tryz.f153, valC]
theorem amE : aiG 68 (.slice shRdn) :=
 akd (f := 68) (g := 153) (tS := 56) (tE := 202) (F := Tryz.f68) (op_ren (c := aly) (by kernel_rfl) aBb) rfl arY aub (by rw [amS]; rfl) (by rw [amS]; rfl) (by rw [amS]; decide) auE
theorem asP : aiG 304 shAttr := by
 intro H cs ds u w h h'
 replace h := At_st.1 h
 obtain ⟨usa, rfl, h⟩ := h
 replace h := Ats_cons.1 h
 obtain ⟨ca0, da0, ua0, rra0, rfl, rfl, ha0, h⟩ := h
 replace h := Ats_cons.1 h
 obtain ⟨ca1, da1, ua1, rra1, rfl, rfl, ha1, h⟩ := h
 replace h := Ats_nil.1 h
 obtain ⟨rfl, rfl⟩ := h
 replace ha0 := At_str.1 ha0
 obtain ⟨sa0, rfl, rfl, wa0⟩ := ha0
 have ka1 := ha1
 replace ha1 := At_slice.1 ha1
 obtain ⟨va1, la1, rfl, rfl, wa1, hva1⟩ := ha1
 have oa1 := hva1.one
 replace h' := At_st.1 h'
 obtain ⟨usb, rfl, h'⟩ := h'
 replace h' := Ats_cons.1 h'
 obtain ⟨cb0, db0, ub0, rrb0, rfl, rfl, hb0, h'⟩ := h'
 replace h' := Ats_cons.1 h'
 obtain ⟨cb1, db1, ub1, rrb1, rfl, rfl, hb1, h'⟩ := h'
 replace h' := Ats_nil.1 h'
 obtain ⟨rfl, rfl⟩ := h'
 replace hb0 := At_str.1 hb0
 obtain ⟨sb0, rfl, rfl, wb0⟩ := hb0
 have kb1 := hb1
 replace hb1 := At_slice.1 hb1
 obtain ⟨vb1, lb1, rfl, rfl, wb1, hvb1⟩ := hb1
 have ob1 := hvb1.one
 by_cases e0 : sa0 = sb0
 rotate_left
 ·refine ⟨false, by simp [e0], ?_⟩
  apply Ret.eq
  rw [ap1]
  simp [ak0, Tryz.f304, valC, e0, oa1, ob1]
 subst e0
 obtain ⟨t1, e1, q1⟩ := ai1 H _ _ _ _ ka1 kb1
 simp only [valC, List.headD_cons, List.append_nil, List.cons_append, List.nil_append] at q1
 cases t1 with
 | false =>
  have e1 : ¬ (.lst la1) = (U.lst lb1) := fun h => by simpa using e1.2 h
  refine ⟨false, by simp only [U.st.injEq, List.cons.injEq, e1, and_false, false_and, Bool.false_eq_true], ?_⟩
  apply Ret.eq
  rw [ap1]
  simp [ak0, Tryz.f304, valC, q1, oa1, ob1]
 | true =>
 have e1 := e1.1 rfl
 refine ⟨true, by simp only [e1], ?_⟩
 apply Ret.eq
 rw [ap1]
 simp [ak0, Tryz.f304, valC, q1, oa1, ob1]
theorem aqs : aiG 241 (.slice shAttr) :=
 akd (f := 241) (g := 304) (tS := 153) (tE := 249) (F := Tryz.f241) (op_ren (c := aoq) (by kernel_rfl) axd) rfl aqr atj (by rw [aoM]; rfl) (by rw [aoM]; rfl) (by rw [aoM]; decide) asP
theorem anq : aiG 157 shEntry := by
 intro H cs ds u w h h'
 replace h := At_st.1 h
 obtain ⟨usa, rfl, h⟩ := h
 replace h := Ats_cons.1 h
 obtain ⟨ca0, da0, ua0, rra0, rfl, rfl, ha0, h⟩ := h
 replace h := Ats_cons.1 h
 obtain ⟨ca1, da1, ua1, rra1, rfl, rfl, ha1, h⟩ := h
 replace h := Ats_nil.1 h
 obtain ⟨rfl, rfl⟩ := h
 have ka0 := ha0
 replace ha0 := At_slice.1 ha0
 obtain ⟨va0, la0, rfl, rfl, wa0, hva0⟩ := ha0
 have oa0 := hva0.one
 have ka1 := ha1
 replace ha1 := At_slice.1 ha1
 obtain ⟨va1, la1, rfl, rfl, wa1, hva1⟩ := ha1
 have oa1 := hva1.one
 replace h' := At_st.1 h'
 obtain ⟨usb, rfl, h'⟩ := h'
 replace h' := Ats_cons.1 h'
 obtain ⟨cb0, db0, ub0, rrb0, rfl, rfl, hb0, h'⟩ := h'
 replace h' := Ats_cons.1 h'
 obtain ⟨cb1, db1, ub1, rrb1, rfl, rfl, hb1, h'⟩ := h'
 replace h' := Ats_nil.1 h'
 obtain ⟨rfl, rfl⟩ := h'
 have kb0 := hb0
 replace hb0 := At_slice.1 hb0
 obtain ⟨vb0, lb0, rfl, rfl, wb0, hvb0⟩ := hb0
 have ob0 := hvb0.one
 have kb1 := hb1
 replace hb1 := At_slice.1 hb1
 obtain ⟨vb1, lb1, rfl, rfl, wb1, hvb1⟩ := hb1
 have ob1 := hvb1.one
 obtain ⟨t0, e0, q0⟩ := amE H _ _ _ _ ka0 kb0
 simp only [valC, List.headD_cons, List.append_nil, List.cons_append, List.nil_append] at q0
 cases t0 with
 | false =>
  have e0 : ¬ (.lst la0) = (U.lst lb0) := fun h => by simpa using e0.2 h
  refine ⟨false, by simp only [U.st.injEq, List.cons.injEq, e0, and_false, false_and, Bool.false_eq_true], ?_⟩
  apply Ret.eq
  rw [arj]
  simp [ak2, Tryz.f157, valC, q0, oa0, oa1, ob0, ob1]
 | true =>
 have e0 := e0.1 rfl
 obtain ⟨t1, e1, q1⟩ := aqs H _ _ _ _ ka1 kb1
 simp only [valC, List.headD_cons, List.append_nil, List.cons_append, List.nil_append] at q1
 cases t1 with
 | false =>
  have e1 : ¬ (.lst la1) = (U.lst lb1) := fun h => by simpa using e1.2 h
  refine ⟨false, by simp only [U.st.injEq, List.cons.injEq, e1, and_false, false_and, Bool.false_eq_true], ?_⟩
  apply Ret.eq
  rw [arj]
  simp [ak2, Tryz.f157, valC, q0, q1, oa0, oa1, ob0, ob1]
 | true =>
 have e1 := e1.1 rfl
 refine ⟨true, by simp only [e0, e1], ?_⟩
 apply Ret.eq
 rw [arj]
 simp [ak2, Tryz.f157, valC, q0, q1, oa0, oa1, ob0, ob1]
theorem apJ : aiG 72 (.slice shEntry) :=
 akd (f := 72) (g := 157) (tS := 35) (tE := 155) (F := Tryz.f72) (op_ren (c := ara) (by kernel_rfl) aA5) rfl asO aw0 (by rw [aoh]; rfl) (by rw [aoh]; rfl) (by rw [aoh]; decide) anq
theorem aq2 : aiG 156 shClass := by
 intro H cs ds u w h h'
 replace h := At_st.1 h
 obtain ⟨usa, rfl, h⟩ := h
 replace h := Ats_cons.1 h
 obtain ⟨ca0, da0, ua0, rra0, rfl, rfl, ha0, h⟩ := h
 replace h := Ats_cons.1 h
 obtain ⟨ca1, da1, ua1, rra1, rfl, rfl, ha1, h⟩ := h
 replace h := Ats_cons.1 h
 obtain ⟨ca2, da2, ua2, rra2, rfl, rfl, ha2, h⟩ := h
 replace h := Ats_cons.1 h
 obtain ⟨ca3, da3, ua3, rra3, rfl, rfl, ha3, h⟩ := h
 replace h := Ats_nil.1 h
 obtain ⟨rfl, rfl⟩ := h
 replace ha0 := At_str.1 ha0
 obtain ⟨sa0, rfl, rfl, wa0⟩ := ha0
 have ka1 := ha1
 replace ha1 := At_slice.1 ha1
 obtain ⟨va1, la1, rfl, rfl, wa1, hva1⟩ := ha1
 have oa1 := hva1.one
 have ka2 := ha2
 replace ha2 := At_slice.1 ha2
 obtain ⟨va2, la2, rfl, rfl, wa2, hva2⟩ := ha2
 have oa2 := hva2.one
 have ka3 := ha3
 replace ha3 := At_slice.1 ha3
 obtain ⟨va3, la3, rfl, rfl, wa3, hva3⟩ := ha3
 have oa3 := hva3.one
 replace h' := At_st.1 h'
 obtain ⟨usb, rfl, h'⟩ := h'
 replace h' := Ats_cons.1 h'
 obtain ⟨cb0, db0, ub0, rrb0, rfl, rfl, hb0, h'⟩ := h'
 replace h' := Ats_cons.1 h'
 obtain ⟨cb1, db1, ub1, rrb1, rfl, rfl, hb1, h'⟩ := h'
 replace h' := Ats_cons.1 h'
 obtain ⟨cb2, db2, ub2, rrb2, rfl, rfl, hb2, h'⟩ := h'
 replace h' := Ats_cons.1 h'
 obtain ⟨cb3, db3, ub3, rrb3, rfl, rfl, hb3, h'⟩ := h'
 replace h' := Ats_nil.1 h'
 obtain ⟨rfl, rfl⟩ := h'
 replace hb0 := At_str.1 hb0
 obtain ⟨sb0, rfl, rfl, wb0⟩ := hb0
 have kb1 := hb1
 replace hb1 := At_slice.1 hb1
 obtain ⟨vb1, lb1, rfl, rfl, wb1, hvb1⟩ := hb1
 have ob1 := hvb1.one
 have kb2 := hb2
 replace hb2 := At_slice.1 hb2
 obtain ⟨vb2, lb2, rfl, rfl, wb2, hvb2⟩ := hb2
 have ob2 := hvb2.one
 have kb3 := hb3
 replace hb3 := At_slice.1 hb3
 obtain ⟨vb3, lb3, rfl, rfl, wb3, hvb3⟩ := hb3
 have ob3 := hvb3.one
 by_cases e0 : sa0 = sb0
 rotate_left
 ·refine ⟨false, by simp [e0], ?_⟩
  apply Ret.eq
  rw [am5]
  simp [ajI, Tryz.f156, valC, e0, oa1, oa2, oa3, ob1, ob2, ob3]
 subst e0
 obtain ⟨t1, e1, q1⟩ := ai1 H _ _ _ _ ka1 kb1
 simp only [valC, List.headD_cons, List.append_nil, List.cons_append, List.nil_append] at q1
 cases t1 with
 | false =>
  have e1 : ¬ (.lst la1) = (U.lst lb1) := fun h => by simpa using e1.2 h
  refine ⟨false, by simp only [U.st.injEq, List.cons.injEq, e1, and_false, false_and, Bool.false_eq_true], ?_⟩
  apply Ret.eq
  rw [am5]
  simp [ajI, Tryz.f156, valC, q1, oa1, oa2, oa3, ob1, ob2, ob3]
 | true =>
 have e1 := e1.1 rfl
 obtain ⟨t2, e2, q2⟩ := ai1 H _ _ _ _ ka2 kb2
 simp only [valC, List.headD_cons, List.append_nil, List.cons_append, List.nil_append] at q2
 cases t2 with
 | false =>
  have e2 : ¬ (.lst la2) = (U.lst lb2) := fun h => by simpa using e2.2 h
  refine ⟨false, by simp only [U.st.injEq, List.cons.injEq, e2, and_false, false_and, Bool.false_eq_true], ?_⟩
  apply Ret.eq
  rw [am5]
  simp [ajI, Tryz.f156, valC, q1, q2, oa1, oa2, oa3, ob1, ob2, ob3]
 | true =>
 have e2 := e2.1 rfl
 obtain ⟨t3, e3, q3⟩ := ai1 H _ _ _ _ ka3 kb3
 simp only [valC, List.headD_cons, List.append_nil, List.cons_append, List.nil_append] at q3
 cases t3 with
 | false =>
  have e3 : ¬ (.lst la3) = (U.lst lb3) := fun h => by simpa using e3.2 h
  refine ⟨false, by simp only [U.st.injEq, List.cons.injEq, e3, and_false, false_and, Bool.false_eq_true], ?_⟩
  apply Ret.eq
  rw [am5]
  simp [ajI, Tryz.f156, valC, q1, q2, q3, oa1, oa2, oa3, ob1, ob2, ob3]
 | true =>
 have e3 := e3.1 rfl
 refine ⟨true, by simp only [e1, e2, e3], ?_⟩
 apply Ret.eq
 rw [am5]
 simp [ajI, Tryz.f156, valC, q1, q2, q3, oa1, oa2, oa3, ob1, ob2, ob3]
theorem apA : aiG 71 (.slice shClass) :=
 akd (f := 71) (g := 156) (tS := 34) (tE := 208) (F := Tryz.f71) (op_ren (c := aqt) (by kernel_rfl) aBn) rfl ass avf (by rw [aoc]; rfl) (by rw [aoc]; rfl) (by rw [aoc]; decide) aq2
theorem asY : aiG 21 shTree := by
 intro H cs ds u w h h'
 replace h := At_st.1 h
 obtain ⟨usa, rfl, h⟩ := h
 replace h := Ats_cons.1 h
 obtain ⟨ca0, da0, ua0, rra0, rfl, rfl, ha0, h⟩ := h
 replace h := Ats_cons.1 h
 obtain ⟨ca1, da1, ua1, rra1, rfl, rfl, ha1, h⟩ := h
 replace h := Ats_nil.1 h
 obtain ⟨rfl, rfl⟩ := h
 have ka0 := ha0
 replace ha0 := At_slice.1 ha0
 obtain ⟨va0, la0, rfl, rfl, wa0, hva0⟩ := ha0
 have oa0 := hva0.one
 have ka1 := ha1
 replace ha1 := At_slice.1 ha1
 obtain ⟨va1, la1, rfl, rfl, wa1, hva1⟩ := ha1
 have oa1 := hva1.one
 replace h' := At_st.1 h'
 obtain ⟨usb, rfl, h'⟩ := h'
 replace h' := Ats_cons.1 h'
 obtain ⟨cb0, db0, ub0, rrb0, rfl, rfl, hb0, h'⟩ := h'
 replace h' := Ats_cons.1 h'
 obtain ⟨cb1, db1, ub1, rrb1, rfl, rfl, hb1, h'⟩ := h'
 replace h' := Ats_nil.1 h'
 obtain ⟨rfl, rfl⟩ := h'
 have kb0 := hb0
 replace hb0 := At_slice.1 hb0
 obtain ⟨vb0, lb0, rfl, rfl, wb0, hvb0⟩ := hb0
 have ob0 := hvb0.one
 have kb1 := hb1
 replace hb1 := At_slice.1 hb1
 obtain ⟨vb1, lb1, rfl, rfl, wb1, hvb1⟩ := hb1
 have ob1 := hvb1.one
 obtain ⟨t0, e0, q0⟩ := apA H _ _ _ _ ka0 kb0
 simp only [valC, List.headD_cons, List.append_nil, List.cons_append, List.nil_append] at q0
 cases t0 with
 | false =>
  have e0 : ¬ (.lst la0) = (U.lst lb0) := fun h => by simpa using e0.2 h
  refine ⟨false, by simp only [U.st.injEq, List.cons.injEq, e0, and_false, false_and, Bool.false_eq_true], ?_⟩
  apply Ret.eq
  rw [auC]
  simp [amQ, Tryz.f21, valC, q0, oa0, oa1, ob0, ob1]
 | true =>
 have e0 := e0.1 rfl
 obtain ⟨t1, e1, q1⟩ := apJ H _ _ _ _ ka1 kb1
 simp only [valC, List.headD_cons, List.append_nil, List.cons_append, List.nil_append] at q1
 cases t1 with
 | false =>
  have e1 : ¬ (.lst la1) = (U.lst lb1) := fun h => by simpa using e1.2 h
  refine ⟨false, by simp only [U.st.injEq, List.cons.injEq, e1, and_false, false_and, Bool.false_eq_true], ?_⟩
  apply Ret.eq
  rw [auC]
  simp [amQ, Tryz.f21, valC, q0, q1, oa0, oa1, ob0, ob1]
 | true =>
 have e1 := e1.1 rfl
 refine ⟨true, by simp only [e0, e1], ?_⟩
 apply Ret.eq
 rw [auC]
 simp [amQ, Tryz.f21, valC, q0, q1, oa0, oa1, ob0, ob1]
theorem asR : aiG 154 shNode := by
 intro H cs ds u w h h'
 replace h := At_st.1 h
 obtain ⟨usa, rfl, h⟩ := h
 replace h := Ats_cons.1 h
 obtain ⟨ca0, da0, ua0, rra0, rfl, rfl, ha0, h⟩ := h
 replace h := Ats_cons.1 h
 obtain ⟨ca1, da1, ua1, rra1, rfl, rfl, ha1, h⟩ := h
 replace h := Ats_cons.1 h
 obtain ⟨ca2, da2, ua2, rra2, rfl, rfl, ha2, h⟩ := h
 replace h := Ats_cons.1 h
 obtain ⟨ca3, da3, ua3, rra3, rfl, rfl, ha3, h⟩ := h
 replace h := Ats_nil.1 h
 obtain ⟨rfl, rfl⟩ := h
 replace ha0 := At_int.1 ha0
 obtain ⟨na0, rfl, rfl, wa0⟩ := ha0
 replace ha1 := At_str.1 ha1
 obtain ⟨sa1, rfl, rfl, wa1⟩ := ha1
 replace ha2 := At_str.1 ha2
 obtain ⟨sa2, rfl, rfl, wa2⟩ := ha2
 replace ha3 := At_int.1 ha3
 obtain ⟨na3, rfl, rfl, wa3⟩ := ha3
 replace h' := At_st.1 h'
 obtain ⟨usb, rfl, h'⟩ := h'
 replace h' := Ats_cons.1 h'
 obtain ⟨cb0, db0, ub0, rrb0, rfl, rfl, hb0, h'⟩ := h'
 replace h' := Ats_cons.1 h'
 obtain ⟨cb1, db1, ub1, rrb1, rfl, rfl, hb1, h'⟩ := h'
 replace h' := Ats_cons.1 h'
 obtain ⟨cb2, db2, ub2, rrb2, rfl, rfl, hb2, h'⟩ := h'
 replace h' := Ats_cons.1 h'
 obtain ⟨cb3, db3, ub3, rrb3, rfl, rfl, hb3, h'⟩ := h'
 replace h' := Ats_nil.1 h'
 obtain ⟨rfl, rfl⟩ := h'
 replace hb0 := At_int.1 hb0
 obtain ⟨nb0, rfl, rfl, wb0⟩ := hb0
 replace hb1 := At_str.1 hb1
 obtain ⟨sb1, rfl, rfl, wb1⟩ := hb1
 replace hb2 := At_str.1 hb2
 obtain ⟨sb2, rfl, rfl, wb2⟩ := hb2
 replace hb3 := At_int.1 hb3
 obtain ⟨nb3, rfl, rfl, wb3⟩ := hb3
 by_cases e0 : na0 = nb0
 rotate_left
 ·refine ⟨false, by simp [e0], ?_⟩
  apply Ret.eq
  rw [ann]
  simp [ajH, Tryz.f154, valC, e0]
 subst e0
 by_cases e1 : sa1 = sb1
 rotate_left
 ·refine ⟨false, by simp [e1], ?_⟩
  apply Ret.eq
  rw [ann]
  simp [ajH, Tryz.f154, valC, e1]
 subst e1
 by_cases e2 : sa2 = sb2
 rotate_left
 ·refine ⟨false, by simp [e2], ?_⟩
  apply Ret.eq
  rw [ann]
  simp [ajH, Tryz.f154, valC, e2]
 subst e2
 by_cases e3 : na3 = nb3
 rotate_left
 ·refine ⟨false, by simp [e3], ?_⟩
  apply Ret.eq
  rw [ann]
  simp [ajH, Tryz.f154, valC, e3]
 subst e3
 refine ⟨true, by simp only [], ?_⟩
 apply Ret.eq
 rw [ann]
 simp [ajH, Tryz.f154, valC]
theorem aq4 : aiG 69 (.slice shNode) :=
 akd (f := 69) (g := 154) (tS := 57) (tE := 204) (F := Tryz.f69) (op_ren (c := aqP) (by kernel_rfl) aA8) rfl ase avE (by rw [aoC]; rfl) (by rw [aoC]; rfl) (by rw [aoC]; decide) asR
theorem ar1 : aiG 155 shPart := by
 intro H cs ds u w h h'
 replace h := At_st.1 h
 obtain ⟨usa, rfl, h⟩ := h
 replace h := Ats_cons.1 h
 obtain ⟨ca0, da0, ua0, rra0, rfl, rfl, ha0, h⟩ := h
 replace h := Ats_cons.1 h
 obtain ⟨ca1, da1, ua1, rra1, rfl, rfl, ha1, h⟩ := h
 replace h := Ats_cons.1 h
 obtain ⟨ca2, da2, ua2, rra2, rfl, rfl, ha2, h⟩ := h
 replace h := Ats_nil.1 h
 obtain ⟨rfl, rfl⟩ := h
 replace ha0 := At_int.1 ha0
 obtain ⟨na0, rfl, rfl, wa0⟩ := ha0
 replace ha1 := At_str.1 ha1
 obtain ⟨sa1, rfl, rfl, wa1⟩ := ha1
 replace ha2 := At_int.1 ha2
 obtain ⟨na2, rfl, rfl, wa2⟩ := ha2
 replace h' := At_st.1 h'
 obtain ⟨usb, rfl, h'⟩ := h'
 replace h' := Ats_cons.1 h'
 obtain ⟨cb0, db0, ub0, rrb0, rfl, rfl, hb0, h'⟩ := h'
 replace h' := Ats_cons.1 h'
 obtain ⟨cb1, db1, ub1, rrb1, rfl, rfl, hb1, h'⟩ := h'
 replace h' := Ats_cons.1 h'
 obtain ⟨cb2, db2, ub2, rrb2, rfl, rfl, hb2, h'⟩ := h'
 replace h' := Ats_nil.1 h'
 obtain ⟨rfl, rfl⟩ := h'
 replace hb0 := At_int.1 hb0
 obtain ⟨nb0, rfl, rfl, wb0⟩ := hb0
 replace hb1 := At_str.1 hb1
 obtain ⟨sb1, rfl, rfl, wb1⟩ := hb1
 replace hb2 := At_int.1 hb2
 obtain ⟨nb2, rfl, rfl, wb2⟩ := hb2
 by_cases e0 : na0 = nb0
 rotate_left
 ·refine ⟨false, by simp [e0], ?_⟩
  apply Ret.eq
  rw [aor]
  simp [aka, Tryz.f155, valC, e0]
 subst e0
 by_cases e1 : sa1 = sb1
 rotate_left
 ·refine ⟨false, by simp [e1], ?_⟩
  apply Ret.eq
  rw [aor]
  simp [aka, Tryz.f155, valC, e1]
 subst e1
 by_cases e2 : na2 = nb2
 rotate_left
 ·refine ⟨false, by simp [e2], ?_⟩
  apply Ret.eq
  rw [aor]
  simp [aka, Tryz.f155, valC, e2]
 subst e2
 refine ⟨true, by simp only [], ?_⟩
 apply Ret.eq
 rw [aor]
 simp [aka, Tryz.f155, valC]
theorem alu : aiG 70 (.slice shPart) :=
 akd (f := 70) (g := 155) (tS := 58) (tE := 206) (F := Tryz.f70) (op_ren (c := arF) (by kernel_rfl) aBd) rfl asA axK (by rw [aoz]; rfl) (by rw [aoz]; rfl) (by rw [aoz]; decide) ar1
theorem asE : aiG 20 shFlow := by
 intro H cs ds u w h h'
 replace h := At_st.1 h
 obtain ⟨usa, rfl, h⟩ := h
 replace h := Ats_cons.1 h
 obtain ⟨ca0, da0, ua0, rra0, rfl, rfl, ha0, h⟩ := h
 replace h := Ats_cons.1 h
 obtain ⟨ca1, da1, ua1, rra1, rfl, rfl, ha1, h⟩ := h
 replace h := Ats_cons.1 h
 obtain ⟨ca2, da2, ua2, rra2, rfl, rfl, ha2, h⟩ := h
 replace h := Ats_cons.1 h
 obtain ⟨ca3, da3, ua3, rra3, rfl, rfl, ha3, h⟩ := h
 replace h := Ats_cons.1 h
 obtain ⟨ca4, da4, ua4, rra4, rfl, rfl, ha4, h⟩ := h
 replace h := Ats_cons.1 h
 obtain ⟨ca5, da5, ua5, rra5, rfl, rfl, ha5, h⟩ := h
 replace h := Ats_nil.1 h
 obtain ⟨rfl, rfl⟩ := h
 have ka0 := ha0
 replace ha0 := At_slice.1 ha0
 obtain ⟨va0, la0, rfl, rfl, wa0, hva0⟩ := ha0
 have oa0 := hva0.one
 have ka1 := ha1
 replace ha1 := At_slice.1 ha1
 obtain ⟨va1, la1, rfl, rfl, wa1, hva1⟩ := ha1
 have oa1 := hva1.one
 have ka2 := ha2
 replace ha2 := At_slice.1 ha2
 obtain ⟨va2, la2, rfl, rfl, wa2, hva2⟩ := ha2
 have oa2 := hva2.one
 have ka3 := ha3
 replace ha3 := At_slice.1 ha3
 obtain ⟨va3, la3, rfl, rfl, wa3, hva3⟩ := ha3
 have oa3 := hva3.one
 have ka4 := ha4
 replace ha4 := At_slice.1 ha4
 obtain ⟨va4, la4, rfl, rfl, wa4, hva4⟩ := ha4
 have oa4 := hva4.one
 replace ha5 := At_bool.1 ha5
 obtain ⟨ba5, rfl, rfl⟩ := ha5
 replace h' := At_st.1 h'
 obtain ⟨usb, rfl, h'⟩ := h'
 replace h' := Ats_cons.1 h'
 obtain ⟨cb0, db0, ub0, rrb0, rfl, rfl, hb0, h'⟩ := h'
 replace h' := Ats_cons.1 h'
 obtain ⟨cb1, db1, ub1, rrb1, rfl, rfl, hb1, h'⟩ := h'
 replace h' := Ats_cons.1 h'
 obtain ⟨cb2, db2, ub2, rrb2, rfl, rfl, hb2, h'⟩ := h'
 replace h' := Ats_cons.1 h'
 obtain ⟨cb3, db3, ub3, rrb3, rfl, rfl, hb3, h'⟩ := h'
 replace h' := Ats_cons.1 h'
 obtain ⟨cb4, db4, ub4, rrb4, rfl, rfl, hb4, h'⟩ := h'
 replace h' := Ats_cons.1 h'
 obtain ⟨cb5, db5, ub5, rrb5, rfl, rfl, hb5, h'⟩ := h'
 replace h' := Ats_nil.1 h'
 obtain ⟨rfl, rfl⟩ := h'
 have kb0 := hb0
 replace hb0 := At_slice.1 hb0
 obtain ⟨vb0, lb0, rfl, rfl, wb0, hvb0⟩ := hb0
 have ob0 := hvb0.one
 have kb1 := hb1
 replace hb1 := At_slice.1 hb1
 obtain ⟨vb1, lb1, rfl, rfl, wb1, hvb1⟩ := hb1
 have ob1 := hvb1.one
 have kb2 := hb2
 replace hb2 := At_slice.1 hb2
 obtain ⟨vb2, lb2, rfl, rfl, wb2, hvb2⟩ := hb2
 have ob2 := hvb2.one
 have kb3 := hb3
 replace hb3 := At_slice.1 hb3
 obtain ⟨vb3, lb3, rfl, rfl, wb3, hvb3⟩ := hb3
 have ob3 := hvb3.one
 have kb4 := hb4
 replace hb4 := At_slice.1 hb4
 obtain ⟨vb4, lb4, rfl, rfl, wb4, hvb4⟩ := hb4
 have ob4 := hvb4.one
 replace hb5 := At_bool.1 hb5
 obtain ⟨bb5, rfl, rfl⟩ := hb5
 obtain ⟨t0, e0, q0⟩ := amE H _ _ _ _ ka0 kb0
 simp only [valC, List.headD_cons, List.append_nil, List.cons_append, List.nil_append] at q0
 cases t0 with
 | false =>
  have e0 : ¬ (.lst la0) = (U.lst lb0) := fun h => by simpa using e0.2 h
  refine ⟨false, by simp only [U.st.injEq, List.cons.injEq, e0, and_false, false_and, Bool.false_eq_true], ?_⟩
  apply Ret.eq
  rw [anC]
  simp [ajB, Tryz.f20, valC, q0, oa0, oa1, oa2, oa3, oa4, ob0, ob1, ob2, ob3, ob4]
 | true =>
 have e0 := e0.1 rfl
 obtain ⟨t1, e1, q1⟩ := aq4 H _ _ _ _ ka1 kb1
 simp only [valC, List.headD_cons, List.append_nil, List.cons_append, List.nil_append] at q1
 cases t1 with
 | false =>
  have e1 : ¬ (.lst la1) = (U.lst lb1) := fun h => by simpa using e1.2 h
  refine ⟨false, by simp only [U.st.injEq, List.cons.injEq, e1, and_false, false_and, Bool.false_eq_true], ?_⟩
  apply Ret.eq
  rw [anC]
  simp [ajB, Tryz.f20, valC, q0, q1, oa0, oa1, oa2, oa3, oa4, ob0, ob1, ob2, ob3, ob4]
 | true =>
 have e1 := e1.1 rfl
 obtain ⟨t2, e2, q2⟩ := alu H _ _ _ _ ka2 kb2
 simp only [valC, List.headD_cons, List.append_nil, List.cons_append, List.nil_append] at q2
 cases t2 with
 | false =>
  have e2 : ¬ (.lst la2) = (U.lst lb2) := fun h => by simpa using e2.2 h
  refine ⟨false, by simp only [U.st.injEq, List.cons.injEq, e2, and_false, false_and, Bool.false_eq_true], ?_⟩
  apply Ret.eq
  rw [anC]
  simp [ajB, Tryz.f20, valC, q0, q1, q2, oa0, oa1, oa2, oa3, oa4, ob0, ob1, ob2, ob3, ob4]
 | true =>
 have e2 := e2.1 rfl
 obtain ⟨t3, e3, q3⟩ := alu H _ _ _ _ ka3 kb3
 simp only [valC, List.headD_cons, List.append_nil, List.cons_append, List.nil_append] at q3
 cases t3 with
 | false =>
  have e3 : ¬ (.lst la3) = (U.lst lb3) := fun h => by simpa using e3.2 h
  refine ⟨false, by simp only [U.st.injEq, List.cons.injEq, e3, and_false, false_and, Bool.false_eq_true], ?_⟩
  apply Ret.eq
  rw [anC]
  simp [ajB, Tryz.f20, valC, q0, q1, q2, q3, oa0, oa1, oa2, oa3, oa4, ob0, ob1, ob2, ob3, ob4]
 | true =>
 have e3 := e3.1 rfl
 obtain ⟨t4, e4, q4⟩ := alu H _ _ _ _ ka4 kb4
 simp only [valC, List.headD_cons, List.append_nil, List.cons_append, List.nil_append] at q4
 cases t4 with
 | false =>
  have e4 : ¬ (.lst la4) = (U.lst lb4) := fun h => by simpa using e4.2 h
  refine ⟨false, by simp only [U.st.injEq, List.cons.injEq, e4, and_false, false_and, Bool.false_eq_true], ?_⟩
  apply Ret.eq
  rw [anC]
  simp [ajB, Tryz.f20, valC, q0, q1, q2, q3, q4, oa0, oa1, oa2, oa3, oa4, ob0, ob1, ob2, ob3, ob4]
 | true =>
 have e4 := e4.1 rfl
 by_cases e5 : ba5 = bb5
 rotate_left
 ·refine ⟨false, by simp [e5], ?_⟩
  apply Ret.eq
  rw [anC]
  simp [ajB, Tryz.f20, valC, q0, q1, q2, q3, q4, e5, oa0, oa1, oa2, oa3, oa4, ob0, ob1, ob2, ob3, ob4]
 subst e5
 refine ⟨true, by simp only [e0, e1, e2, e3, e4], ?_⟩
 apply Ret.eq
 rw [anC]
 simp [ajB, Tryz.f20, valC, q0, q1, q2, q3, q4, oa0, oa1, oa2, oa3, oa4, ob0, ob1, ob2, ob3, ob4]
def aiH (f : Nat) (sh : Sh) : Prop := ∀ (H : List Ob) (cs : List V) (u : U), At H sh cs u → wt u ≤ 1048576 →
 ∃ T cs' F, callW C f [valC sh cs] H = some (valC sh cs', H ++ T) ∧ AtF (H ++ T) sh cs' u F ∧ F.Nodup ∧ ∀ id ∈ F, H.length ≤ id
theorem Ret.to {f : Nat} {sh : Sh} {a : List V} {H : List Ob} {u : U} (h : Ret C f a H fun r H' => ∃ T cs' F, H' = H ++ T ∧ r = valC sh cs' ∧ AtF (H ++ T) sh cs' u F ∧ F.Nodup ∧ ∀ id ∈ F, H.length ≤ id) :
  ∃ T cs' F, callW C f a H = some (valC sh cs', H ++ T) ∧ AtF (H ++ T) sh cs' u F ∧ F.Nodup ∧ ∀ id ∈ F, H.length ≤ id := by
 obtain ⟨r, H', hc, T, cs', F, rfl, rfl, h1, h2, h3⟩ := h
 exact ⟨T, cs', F, hc, h1, h2, h3⟩
theorem ai2 : aiH 192 (.slice .str) := by
 intro H cs u h hwt
 obtain ⟨v, l, rfl, rfl, hlen, hv⟩ := At_slice.1 h
 apply Ret.to
 rw [auV]
 simp only [wt] at hwt
 have b1 : (l.length : Int) * 16 ≤ 1099511627776 := by omega
 have b2 : (l.length : Int) ≤ 1099511627776 := by omega
 simp [anV, Tryz.f192, valC, elemT, St.new, maxMade, b1, b2, hv.len]
 refine WP_loop (fun k σ => ∃ (i : Nat) (r : Nat → R) (G : List Ob), i + k = l.length ∧ σ = ⟨r, 0, G⟩ ∧ ToI H .str l i G ∧ r 0 = .val v ∧ r 3 = .val (.slc (some (H.length, 0)) l.length) ∧ r 4 = .val (.int .i64 i)) ?_ l.length _ ⟨0, _, _, by simp, rfl, ToI.init (by simp [zerosL]), by simp, by simp, by simp⟩
 rintro k σ ⟨i, r, G, hik, rfl, hI, r0, r3, r4⟩
 cases k with
 | zero =>
  have hi : i = l.length := by omega
  subst hi
  obtain ⟨T, F, rfl, h1, h2, h3, h4⟩ := hI.done hlen
  simp [r0, r3, r4, hv.len]
  exact ⟨[_], rfl, F, h1, h2, h3⟩
 | succ k =>
  have hi : i < l.length := by omega
  obtain ⟨x, hx⟩ : ∃ x, l[i]? = some x := ⟨l[i], by simp [hi]⟩
  have hI' := hI
  obtain ⟨T0, _, _, hG, _⟩ := hI'
  have hvG : Sl G Sh.str.size (At G .str) v l := by rw [hG]; exact hv.map up_append fun _ _ h => h.ext
  clear hG
  obtain ⟨eid, o, own, cells, e1, e2, e3, e0⟩ := hvG.idx hx (by decide)
  obtain ⟨s, e4, rfl, e5⟩ := At_str.1 e0
  simp only [Sh.size_str] at e1
  have c0 : cells[o]? = some (.str s) := by simpa using cells_get e4 (j := 0) rfl
  have ld := load1 e2 c0
  obtain ⟨cells2, g1, g2, g3, g4⟩ := hI.step (T := []) hx (c := [.str s]) (F := []) (AtF_str.2 ⟨⟨s, rfl, rfl, e5⟩, rfl⟩) (by simp) (by simp)
  simp only [List.append_nil, Sh.size_str, Nat.mul_one, List.length_singleton] at g1 g2 g4
  rw [setRange_one (by omega)] at g4
  have st := store1 (v := .str s) (o := i) g1 (by omega) rfl rfl
  have hw : IntKind.i64.wrap ((i : Int) + 1) = ((i + 1 : Nat) : Int) := by rw [wrap_i64 (by omega) (by omega)]; omega
  simp [r0, r3, r4, hi, hv.len, e1, ld, st, hw]
  exact ⟨k, by omega, i + 1, by omega, _, _, ⟨rfl, rfl⟩, g4, by simp [r0], by simp [r3], by simp⟩
theorem aj9 {f g tS tE tS2 tE2 b : Nat} {zs zs2 zs3 : List V} {d' : List (Nat × Nat)} {fs : List Sh} {F : Func} (hop : ∀ {a : List V} {H : List Ob} {R : V → List Ob → Prop}, Ret C f a H R ↔ WP C f (ren [(47, tS), (180, tE), (56, tS2), (202, tE2)] [(138, g)] amn) ⟨initRegs a, 0, H⟩ (finQ C F H R))
  (hF : F.results = #[.tmp 2]) (hS : C.ty tS = ⟨.slice tE, 1, 24, zs⟩) (hE : (C.ty tE).size = (Sh.st fs).size) (hE2 : (C.ty tE).isAgg = true) (hE0 : (C.ty tE).size ≠ 0) (hb : b ≤ 1048576)
  (hS2 : C.ty tS2 = ⟨.slice tE2, 1, 24, zs2⟩) (hT2 : C.ty tE2 = ⟨.struct d', (Sh.st fs).size, b, zs3⟩) (hz : zs3.length = (Sh.st fs).size) (hg : aiH g (.st fs)) : aiH f (.slice (.st fs)) := by
 intro H cs u h hwt
 obtain ⟨v, l, rfl, rfl, hlen, hv⟩ := At_slice.1 h
 apply Ret.to
 rw [hop]
 simp only [wt] at hwt
 have b1 : (l.length : Int) * b ≤ 1099511627776 := by
  have : l.length * b ≤ 1048576 * 1048576 := Nat.mul_le_mul (by omega) hb
  omega
 have b2 : (l.length : Int) ≤ 1099511627776 := by omega
 have hs0 : 0 < Sh.sizes fs := by have := hE ▸ hE0; simp at this; omega
 have hs1 : ¬ Sh.sizes fs = 0 := by omega
 simp only [Sh.size_st] at hE hT2 hz
 simp [amn, Tryz.f60, ren, renO, renP, renX, sub, valC, elemT, St.new, maxMade, hS, hS2, hT2, hz, b1, b2, hs0, hv.len]
 refine WP_loop (fun k σ => ∃ (i : Nat) (r : Nat → R) (G : List Ob), i + k = l.length ∧ σ = ⟨r, 0, G⟩ ∧ ToI H (.st fs) l i G ∧ r 0 = .val v ∧ r 3 = .val (.slc (some (H.length, 0)) l.length) ∧ r 4 = .val (.int .i64 i)) ?_ l.length _ ⟨0, _, _, by simp, rfl, ToI.init (by rw [zerosL_len, hz]; rfl), by simp, by simp, by simp⟩
 rintro k σ ⟨i, r, G, hik, rfl, hI, r0, r3, r4⟩
 cases k with
 | zero =>
  have hi : i = l.length := by omega
  subst hi
  obtain ⟨T, F, rfl, h1, h2, h3, h4⟩ := hI.done hlen
  simp [r0, r3, r4, hS, hv.len, hF]
  exact ⟨[_], rfl, F, h1, h2, h3⟩
 | succ k =>
  have hi : i < l.length := by omega
  obtain ⟨x, hx⟩ : ∃ x, l[i]? = some x := ⟨l[i], by simp [hi]⟩
  have hI' := hI
  obtain ⟨T0, _, _, hG, _⟩ := hI'
  have hvG : Sl G (Sh.st fs).size (At G (.st fs)) v l := by rw [hG]; exact hv.map up_append fun _ _ h => h.ext
  clear hG
  obtain ⟨eid, o, own, cells, e1, e2, e3, e4⟩ := hvG.idx hx (by simp; omega)
  have e1 := fun (k : IntKind) => e1 tE 1 24 zs C.ty k hE
  have ld := load_agg (T := C.ty tE) e2 (by rw [hE]; exact e3) rfl hE0 hE2
  rw [hE] at ld
  have hwx : wt x ≤ 1048576 := by have := wts_get hx; omega
  obtain ⟨T1, c, F1, hc, g5, g6, g7⟩ := hg G _ x e4 hwx
  obtain ⟨cells2, g1, g2, g3, g4⟩ := hI.step hx g5 g6 g7
  simp only [valC, Sh.size_st] at hc g1 g2 g3 g4
  have st := storeN g1 g2 (by intro h0; subst h0; simp at g3; omega) (At.ones _ (AtF.at _ g5)) (C.ty tE2) (by rw [hT2, g3]; exact ⟨rfl, rfl⟩)
  rw [hT2] at st
  have hw : IntKind.i64.wrap ((i : Int) + 1) = ((i + 1 : Nat) : Int) := by rw [wrap_i64 (by omega) (by omega)]; omega
  simp [r0, r3, r4, hi, hS, hS2, hT2, hs0, hs1, hv.len, e1, ld, hc, st, hw, -setRange]
  exact ⟨k, by omega, i + 1, by omega, _, _, ⟨rfl, rfl⟩, g4, by simp [r0], by simp [r3], by simp⟩
theorem auk : aiH 138 shRdn := by
 intro H cs u h hwt
 replace h := At_st.1 h
 obtain ⟨us, rfl, h⟩ := h
 replace h := Ats_cons.1 h
 obtain ⟨c0, d0, u0, rr0, rfl, rfl, h0, h⟩ := h
 replace h := Ats_cons.1 h
 obtain ⟨c1, d1, u1, rr1, rfl, rfl, h1, h⟩ := h
 replace h := Ats_nil.1 h
 obtain ⟨rfl, rfl⟩ := h
 replace h0 := At_str.1 h0
 obtain ⟨s0, rfl, rfl, w0⟩ := h0
 replace h1 := At_str.1 h1
 obtain ⟨s1, rfl, rfl, w1⟩ := h1
 simp only [wt_st, wts_cons, wts_nil, wt_str, wt_int, wt_bool] at hwt
 have hA : AtF H shRdn _ _ _ := AtF_st.2 ⟨_, rfl, AtsF_cons.2 ⟨[_], _, _, _, [], [], rfl, rfl, rfl, AtF_str.2 ⟨⟨_, rfl, rfl, w0⟩, rfl⟩, AtsF_cons.2 ⟨[_], _, _, _, [], [], rfl, rfl, rfl, AtF_str.2 ⟨⟨_, rfl, rfl, w1⟩, rfl⟩, AtsF_nil.2 ⟨rfl, rfl, rfl⟩⟩⟩⟩
 apply Ret.to
 rw [au3]
 simp [aon, Tryz.f138, valC]
 exact ⟨[], by simpa using hA, by simp, by simp⟩
theorem amv : aiH 60 (.slice shRdn) :=
 aj9 (f := 60) (g := 138) (tS := 47) (tE := 180) (tS2 := 56) (tE2 := 202) (F := Tryz.f60) (op_ren (c := amn) (by kernel_rfl) aBA) rfl axH (by rw [amb]; rfl) (by rw [amb]; rfl) (by rw [amb]; decide) (by decide) aub amS rfl auk
theorem asa : aiH 291 shAttr := by
 intro H cs u h hwt
 replace h := At_st.1 h
 obtain ⟨us, rfl, h⟩ := h
 replace h := Ats_cons.1 h
 obtain ⟨c0, d0, u0, rr0, rfl, rfl, h0, h⟩ := h
 replace h := Ats_cons.1 h
 obtain ⟨c1, d1, u1, rr1, rfl, rfl, h1, h⟩ := h
 replace h := Ats_nil.1 h
 obtain ⟨rfl, rfl⟩ := h
 replace h0 := At_str.1 h0
 obtain ⟨s0, rfl, rfl, w0⟩ := h0
 have k1 := h1
 replace h1 := At_slice.1 h1
 obtain ⟨v1, l1, rfl, rfl, w1, hv1⟩ := h1
 have o1 := hv1.one
 simp only [wt_st, wts_cons, wts_nil, wt_str, wt_int, wt_bool] at hwt
 obtain ⟨T1, x1, G1, q1, a1, m1, g1⟩ := ai2 (H) _ _ (k1) (by first | omega | (simp only [wt_st, wts_cons, wts_nil, wt_str, wt_int, wt_bool]; omega))
 have y1 := a1
 obtain ⟨z1, _, rfl, zz1, _, _⟩ := AtF_slice.1 y1
 cases zz1
 have oz1 := (At_slice.1 (AtF.at _ a1))
 obtain ⟨_, _, x1, x2, _, oz1⟩ := oz1
 cases x1
 cases x2
 have oz1 := oz1.one
 simp only [valC, List.headD_cons, List.append_nil, List.cons_append, List.nil_append, List.append_assoc] at q1
 have hA : AtF (H ++ T1) shAttr _ _ _ := AtF_st.2 ⟨_, rfl, AtsF_cons.2 ⟨[_], _, _, _, [], _, rfl, rfl, rfl, AtF_str.2 ⟨⟨_, rfl, rfl, w0⟩, rfl⟩, AtsF_cons.2 ⟨[_], _, _, _, G1, _, rfl, rfl, rfl, (a1), AtsF_nil.2 ⟨rfl, rfl, rfl⟩⟩⟩⟩
 simp only [List.append_assoc, List.nil_append, List.append_nil] at hA
 skip
 have hge : ∀ q ∈ G1, H.length ≤ q := by
  intro q hq
  try simp only [List.mem_append] at hq
  ·have := g1 q hq; omega
 have hnd : (G1).Nodup := by
  have b1 := AtF.mem _ a1
  exact m1
 obtain ⟨T, hT, hA⟩ := gcH_to hA hge
 simp only [List.cons_append, List.nil_append, List.append_nil] at hT
 apply Ret.to
 rw [awY]
 simp [anS, Tryz.f291, valC, hT, q1, o1, oz1]
 exact ⟨_, hA, hnd, hge⟩
theorem ari : aiH 227 (.slice shAttr) :=
 aj9 (f := 227) (g := 291) (tS := 191) (tE := 323) (tS2 := 153) (tE2 := 249) (F := Tryz.f227) (op_ren (c := apf) (by kernel_rfl) avF) rfl atM (by rw [al5]; rfl) (by rw [al5]; rfl) (by rw [al5]; decide) (by decide) atj aoM rfl asa
theorem am2 : aiH 142 shEntry := by
 intro H cs u h hwt
 replace h := At_st.1 h
 obtain ⟨us, rfl, h⟩ := h
 replace h := Ats_cons.1 h
 obtain ⟨c0, d0, u0, rr0, rfl, rfl, h0, h⟩ := h
 replace h := Ats_cons.1 h
 obtain ⟨c1, d1, u1, rr1, rfl, rfl, h1, h⟩ := h
 replace h := Ats_nil.1 h
 obtain ⟨rfl, rfl⟩ := h
 have k0 := h0
 replace h0 := At_slice.1 h0
 obtain ⟨v0, l0, rfl, rfl, w0, hv0⟩ := h0
 have o0 := hv0.one
 have k1 := h1
 replace h1 := At_slice.1 h1
 obtain ⟨v1, l1, rfl, rfl, w1, hv1⟩ := h1
 have o1 := hv1.one
 simp only [wt_st, wts_cons, wts_nil, wt_str, wt_int, wt_bool] at hwt
 obtain ⟨T0, x0, G0, q0, a0, m0, g0⟩ := amv (H) _ _ (k0) (by first | omega | (simp only [wt_st, wts_cons, wts_nil, wt_str, wt_int, wt_bool]; omega))
 have y0 := a0
 obtain ⟨z0, _, rfl, zz0, _, _⟩ := AtF_slice.1 y0
 cases zz0
 have oz0 := (At_slice.1 (AtF.at _ a0))
 obtain ⟨_, _, x1, x2, _, oz0⟩ := oz0
 cases x1
 cases x2
 have oz0 := oz0.one
 simp only [valC, List.headD_cons, List.append_nil, List.cons_append, List.nil_append, List.append_assoc] at q0
 obtain ⟨T1, x1, G1, q1, a1, m1, g1⟩ := ari (H ++ T0) _ _ (k1.ext) (by first | omega | (simp only [wt_st, wts_cons, wts_nil, wt_str, wt_int, wt_bool]; omega))
 have y1 := a1
 obtain ⟨z1, _, rfl, zz1, _, _⟩ := AtF_slice.1 y1
 cases zz1
 have oz1 := (At_slice.1 (AtF.at _ a1))
 obtain ⟨_, _, x1, x2, _, oz1⟩ := oz1
 cases x1
 cases x2
 have oz1 := oz1.one
 simp only [valC, List.headD_cons, List.append_nil, List.cons_append, List.nil_append, List.append_assoc] at q1
 have hA : AtF (H ++ T0 ++ T1) shEntry _ _ _ := AtF_st.2 ⟨_, rfl, AtsF_cons.2 ⟨[_], _, _, _, G0, _, rfl, rfl, rfl, (a0.app), AtsF_cons.2 ⟨[_], _, _, _, G1, _, rfl, rfl, rfl, (a1), AtsF_nil.2 ⟨rfl, rfl, rfl⟩⟩⟩⟩
 simp only [List.append_assoc, List.nil_append, List.append_nil] at hA
 simp only [List.length_append] at g0 g1
 have hge : ∀ q ∈ G0 ++ (G1), H.length ≤ q := by
  intro q hq
  try simp only [List.mem_append] at hq
  rcases hq with hq | hq
  ·have := g0 q hq; omega
  ·have := g1 q hq; omega
 have hnd : (G0 ++ (G1)).Nodup := by
  have b0 := AtF.mem _ a0
  have b1 := AtF.mem _ a1
  simp only [List.length_append] at b0 b1
  refine List.nodup_append.2 ⟨m0, ?_, fun x hx y hy e => ?_⟩
  rotate_left
  ·subst e
   have := b0 x hx
   try simp only [List.mem_append] at hy
   ·have := g1 x hy; omega
  exact m1
 obtain ⟨T, hT, hA⟩ := gcH_to hA hge
 simp only [List.cons_append, List.nil_append, List.append_nil] at hT
 apply Ret.to
 rw [auS]
 simp [an9, Tryz.f142, valC, hT, q0, q1, o0, o1, oz0, oz1]
 exact ⟨_, hA, hnd, hge⟩
theorem apz : aiH 64 (.slice shEntry) :=
 aj9 (f := 64) (g := 142) (tS := 23) (tE := 193) (tS2 := 35) (tE2 := 155) (F := Tryz.f64) (op_ren (c := aqu) (by kernel_rfl) aBk) rfl awk (by rw [al3]; rfl) (by rw [al3]; rfl) (by rw [al3]; decide) (by decide) aw0 aoh rfl am2
theorem aqy : aiH 141 shClass := by
 intro H cs u h hwt
 replace h := At_st.1 h
 obtain ⟨us, rfl, h⟩ := h
 replace h := Ats_cons.1 h
 obtain ⟨c0, d0, u0, rr0, rfl, rfl, h0, h⟩ := h
 replace h := Ats_cons.1 h
 obtain ⟨c1, d1, u1, rr1, rfl, rfl, h1, h⟩ := h
 replace h := Ats_cons.1 h
 obtain ⟨c2, d2, u2, rr2, rfl, rfl, h2, h⟩ := h
 replace h := Ats_cons.1 h
 obtain ⟨c3, d3, u3, rr3, rfl, rfl, h3, h⟩ := h
 replace h := Ats_nil.1 h
 obtain ⟨rfl, rfl⟩ := h
 replace h0 := At_str.1 h0
 obtain ⟨s0, rfl, rfl, w0⟩ := h0
 have k1 := h1
 replace h1 := At_slice.1 h1
 obtain ⟨v1, l1, rfl, rfl, w1, hv1⟩ := h1
 have o1 := hv1.one
 have k2 := h2
 replace h2 := At_slice.1 h2
 obtain ⟨v2, l2, rfl, rfl, w2, hv2⟩ := h2
 have o2 := hv2.one
 have k3 := h3
 replace h3 := At_slice.1 h3
 obtain ⟨v3, l3, rfl, rfl, w3, hv3⟩ := h3
 have o3 := hv3.one
 simp only [wt_st, wts_cons, wts_nil, wt_str, wt_int, wt_bool] at hwt
 obtain ⟨T1, x1, G1, q1, a1, m1, g1⟩ := ai2 (H) _ _ (k1) (by first | omega | (simp only [wt_st, wts_cons, wts_nil, wt_str, wt_int, wt_bool]; omega))
 have y1 := a1
 obtain ⟨z1, _, rfl, zz1, _, _⟩ := AtF_slice.1 y1
 cases zz1
 have oz1 := (At_slice.1 (AtF.at _ a1))
 obtain ⟨_, _, x1, x2, _, oz1⟩ := oz1
 cases x1
 cases x2
 have oz1 := oz1.one
 simp only [valC, List.headD_cons, List.append_nil, List.cons_append, List.nil_append, List.append_assoc] at q1
 obtain ⟨T2, x2, G2, q2, a2, m2, g2⟩ := ai2 (H ++ T1) _ _ (k2.ext) (by first | omega | (simp only [wt_st, wts_cons, wts_nil, wt_str, wt_int, wt_bool]; omega))
 have y2 := a2
 obtain ⟨z2, _, rfl, zz2, _, _⟩ := AtF_slice.1 y2
 cases zz2
 have oz2 := (At_slice.1 (AtF.at _ a2))
 obtain ⟨_, _, x1, x2, _, oz2⟩ := oz2
 cases x1
 cases x2
 have oz2 := oz2.one
 simp only [valC, List.headD_cons, List.append_nil, List.cons_append, List.nil_append, List.append_assoc] at q2
 obtain ⟨T3, x3, G3, q3, a3, m3, g3⟩ := ai2 (H ++ T1 ++ T2) _ _ (k3.ext.ext) (by first | omega | (simp only [wt_st, wts_cons, wts_nil, wt_str, wt_int, wt_bool]; omega))
 have y3 := a3
 obtain ⟨z3, _, rfl, zz3, _, _⟩ := AtF_slice.1 y3
 cases zz3
 have oz3 := (At_slice.1 (AtF.at _ a3))
 obtain ⟨_, _, x1, x2, _, oz3⟩ := oz3
 cases x1
 cases x2
 have oz3 := oz3.one
 simp only [valC, List.headD_cons, List.append_nil, List.cons_append, List.nil_append, List.append_assoc] at q3
 have hA : AtF (H ++ T1 ++ T2 ++ T3) shClass _ _ _ := AtF_st.2 ⟨_, rfl, AtsF_cons.2 ⟨[_], _, _, _, [], _, rfl, rfl, rfl, AtF_str.2 ⟨⟨_, rfl, rfl, w0⟩, rfl⟩, AtsF_cons.2 ⟨[_], _, _, _, G1, _, rfl, rfl, rfl, (a1.app.app), AtsF_cons.2 ⟨[_], _, _, _, G2, _, rfl, rfl, rfl, (a2.app), AtsF_cons.2 ⟨[_], _, _, _, G3, _, rfl, rfl, rfl, (a3), AtsF_nil.2 ⟨rfl, rfl, rfl⟩⟩⟩⟩⟩⟩
 simp only [List.append_assoc, List.nil_append, List.append_nil] at hA
 simp only [List.length_append] at g1 g2 g3
 have hge : ∀ q ∈ G1 ++ (G2 ++ (G3)), H.length ≤ q := by
  intro q hq
  try simp only [List.mem_append] at hq
  rcases hq with hq | hq | hq
  ·have := g1 q hq; omega
  ·have := g2 q hq; omega
  ·have := g3 q hq; omega
 have hnd : (G1 ++ (G2 ++ (G3))).Nodup := by
  have b1 := AtF.mem _ a1
  have b2 := AtF.mem _ a2
  have b3 := AtF.mem _ a3
  simp only [List.length_append] at b1 b2 b3
  refine List.nodup_append.2 ⟨m1, ?_, fun x hx y hy e => ?_⟩
  rotate_left
  ·subst e
   have := b1 x hx
   try simp only [List.mem_append] at hy
   rcases hy with hy | hy
   ·have := g2 x hy; omega
   ·have := g3 x hy; omega
  refine List.nodup_append.2 ⟨m2, ?_, fun x hx y hy e => ?_⟩
  rotate_left
  ·subst e
   have := b2 x hx
   try simp only [List.mem_append] at hy
   ·have := g3 x hy; omega
  exact m3
 obtain ⟨T, hT, hA⟩ := gcH_to hA hge
 simp only [List.cons_append, List.nil_append, List.append_nil] at hT
 apply Ret.to
 rw [awt]
 simp [aoK, Tryz.f141, valC, hT, q1, q2, q3, o1, o2, o3, oz1, oz2, oz3]
 exact ⟨_, hA, hnd, hge⟩
theorem apW : aiH 63 (.slice shClass) :=
 aj9 (f := 63) (g := 141) (tS := 22) (tE := 189) (tS2 := 34) (tE2 := 208) (F := Tryz.f63) (op_ren (c := arB) (by kernel_rfl) aCk) rfl au7 (by rw [alZ]; rfl) (by rw [alZ]; rfl) (by rw [alZ]; decide) (by decide) avf aoc rfl aqy
theorem asc : aiH 17 shTree := by
 intro H cs u h hwt
 replace h := At_st.1 h
 obtain ⟨us, rfl, h⟩ := h
 replace h := Ats_cons.1 h
 obtain ⟨c0, d0, u0, rr0, rfl, rfl, h0, h⟩ := h
 replace h := Ats_cons.1 h
 obtain ⟨c1, d1, u1, rr1, rfl, rfl, h1, h⟩ := h
 replace h := Ats_nil.1 h
 obtain ⟨rfl, rfl⟩ := h
 have k0 := h0
 replace h0 := At_slice.1 h0
 obtain ⟨v0, l0, rfl, rfl, w0, hv0⟩ := h0
 have o0 := hv0.one
 have k1 := h1
 replace h1 := At_slice.1 h1
 obtain ⟨v1, l1, rfl, rfl, w1, hv1⟩ := h1
 have o1 := hv1.one
 simp only [wt_st, wts_cons, wts_nil, wt_str, wt_int, wt_bool] at hwt
 obtain ⟨T0, x0, G0, q0, a0, m0, g0⟩ := apW (H) _ _ (k0) (by first | omega | (simp only [wt_st, wts_cons, wts_nil, wt_str, wt_int, wt_bool]; omega))
 have y0 := a0
 obtain ⟨z0, _, rfl, zz0, _, _⟩ := AtF_slice.1 y0
 cases zz0
 have oz0 := (At_slice.1 (AtF.at _ a0))
 obtain ⟨_, _, x1, x2, _, oz0⟩ := oz0
 cases x1
 cases x2
 have oz0 := oz0.one
 simp only [valC, List.headD_cons, List.append_nil, List.cons_append, List.nil_append, List.append_assoc] at q0
 obtain ⟨T1, x1, G1, q1, a1, m1, g1⟩ := apz (H ++ T0) _ _ (k1.ext) (by first | omega | (simp only [wt_st, wts_cons, wts_nil, wt_str, wt_int, wt_bool]; omega))
 have y1 := a1
 obtain ⟨z1, _, rfl, zz1, _, _⟩ := AtF_slice.1 y1
 cases zz1
 have oz1 := (At_slice.1 (AtF.at _ a1))
 obtain ⟨_, _, x1, x2, _, oz1⟩ := oz1
 cases x1
 cases x2
 have oz1 := oz1.one
 simp only [valC, List.headD_cons, List.append_nil, List.cons_append, List.nil_append, List.append_assoc] at q1
 have hA : AtF (H ++ T0 ++ T1) shTree _ _ _ := AtF_st.2 ⟨_, rfl, AtsF_cons.2 ⟨[_], _, _, _, G0, _, rfl, rfl, rfl, (a0.app), AtsF_cons.2 ⟨[_], _, _, _, G1, _, rfl, rfl, rfl, (a1), AtsF_nil.2 ⟨rfl, rfl, rfl⟩⟩⟩⟩
 simp only [List.append_assoc, List.nil_append, List.append_nil] at hA
 simp only [List.length_append] at g0 g1
 have hge : ∀ q ∈ G0 ++ (G1), H.length ≤ q := by
  intro q hq
  try simp only [List.mem_append] at hq
  rcases hq with hq | hq
  ·have := g0 q hq; omega
  ·have := g1 q hq; omega
 have hnd : (G0 ++ (G1)).Nodup := by
  have b0 := AtF.mem _ a0
  have b1 := AtF.mem _ a1
  simp only [List.length_append] at b0 b1
  refine List.nodup_append.2 ⟨m0, ?_, fun x hx y hy e => ?_⟩
  rotate_left
  ·subst e
   have := b0 x hx
   try simp only [List.mem_append] at hy
   ·have := g1 x hy; omega
  exact m1
 obtain ⟨T, hT, hA⟩ := gcH_to hA hge
 simp only [List.cons_append, List.nil_append, List.append_nil] at hT
 apply Ret.to
 rw [aCg]
 simp [aqN, Tryz.f17, valC, hT, q0, q1, o0, o1, oz0, oz1]
 exact ⟨_, hA, hnd, hge⟩
theorem asv : aiH 139 shNode := by
 intro H cs u h hwt
 replace h := At_st.1 h
 obtain ⟨us, rfl, h⟩ := h
 replace h := Ats_cons.1 h
 obtain ⟨c0, d0, u0, rr0, rfl, rfl, h0, h⟩ := h
 replace h := Ats_cons.1 h
 obtain ⟨c1, d1, u1, rr1, rfl, rfl, h1, h⟩ := h
 replace h := Ats_cons.1 h
 obtain ⟨c2, d2, u2, rr2, rfl, rfl, h2, h⟩ := h
 replace h := Ats_cons.1 h
 obtain ⟨c3, d3, u3, rr3, rfl, rfl, h3, h⟩ := h
 replace h := Ats_nil.1 h
 obtain ⟨rfl, rfl⟩ := h
 replace h0 := At_int.1 h0
 obtain ⟨n0, rfl, rfl, w0⟩ := h0
 replace h1 := At_str.1 h1
 obtain ⟨s1, rfl, rfl, w1⟩ := h1
 replace h2 := At_str.1 h2
 obtain ⟨s2, rfl, rfl, w2⟩ := h2
 replace h3 := At_int.1 h3
 obtain ⟨n3, rfl, rfl, w3⟩ := h3
 simp only [wt_st, wts_cons, wts_nil, wt_str, wt_int, wt_bool] at hwt
 have hA : AtF H shNode _ _ _ := AtF_st.2 ⟨_, rfl, AtsF_cons.2 ⟨[_], _, _, _, [], [], rfl, rfl, rfl, AtF_int.2 ⟨⟨_, rfl, rfl, w0⟩, rfl⟩, AtsF_cons.2 ⟨[_], _, _, _, [], [], rfl, rfl, rfl, AtF_str.2 ⟨⟨_, rfl, rfl, w1⟩, rfl⟩, AtsF_cons.2 ⟨[_], _, _, _, [], [], rfl, rfl, rfl, AtF_str.2 ⟨⟨_, rfl, rfl, w2⟩, rfl⟩, AtsF_cons.2 ⟨[_], _, _, _, [], [], rfl, rfl, rfl, AtF_int.2 ⟨⟨_, rfl, rfl, w3⟩, rfl⟩, AtsF_nil.2 ⟨rfl, rfl, rfl⟩⟩⟩⟩⟩⟩
 apply Ret.to
 rw [axk]
 simp [an5, Tryz.f139, valC]
 exact ⟨[], by simpa using hA, by simp, by simp⟩
theorem ap2 : aiH 61 (.slice shNode) :=
 aj9 (f := 61) (g := 139) (tS := 48) (tE := 183) (tS2 := 57) (tE2 := 204) (F := Tryz.f61) (op_ren (c := arQ) (by kernel_rfl) aCu) rfl avJ (by rw [ama]; rfl) (by rw [ama]; rfl) (by rw [ama]; decide) (by decide) avE aoC rfl asv
theorem aso : aiH 140 shPart := by
 intro H cs u h hwt
 replace h := At_st.1 h
 obtain ⟨us, rfl, h⟩ := h
 replace h := Ats_cons.1 h
 obtain ⟨c0, d0, u0, rr0, rfl, rfl, h0, h⟩ := h
 replace h := Ats_cons.1 h
 obtain ⟨c1, d1, u1, rr1, rfl, rfl, h1, h⟩ := h
 replace h := Ats_cons.1 h
 obtain ⟨c2, d2, u2, rr2, rfl, rfl, h2, h⟩ := h
 replace h := Ats_nil.1 h
 obtain ⟨rfl, rfl⟩ := h
 replace h0 := At_int.1 h0
 obtain ⟨n0, rfl, rfl, w0⟩ := h0
 replace h1 := At_str.1 h1
 obtain ⟨s1, rfl, rfl, w1⟩ := h1
 replace h2 := At_int.1 h2
 obtain ⟨n2, rfl, rfl, w2⟩ := h2
 simp only [wt_st, wts_cons, wts_nil, wt_str, wt_int, wt_bool] at hwt
 have hA : AtF H shPart _ _ _ := AtF_st.2 ⟨_, rfl, AtsF_cons.2 ⟨[_], _, _, _, [], [], rfl, rfl, rfl, AtF_int.2 ⟨⟨_, rfl, rfl, w0⟩, rfl⟩, AtsF_cons.2 ⟨[_], _, _, _, [], [], rfl, rfl, rfl, AtF_str.2 ⟨⟨_, rfl, rfl, w1⟩, rfl⟩, AtsF_cons.2 ⟨[_], _, _, _, [], [], rfl, rfl, rfl, AtF_int.2 ⟨⟨_, rfl, rfl, w2⟩, rfl⟩, AtsF_nil.2 ⟨rfl, rfl, rfl⟩⟩⟩⟩⟩
 apply Ret.to
 rw [axh]
 simp [aoT, Tryz.f140, valC]
 exact ⟨[], by simpa using hA, by simp, by simp⟩
theorem alj : aiH 62 (.slice shPart) :=
 aj9 (f := 62) (g := 140) (tS := 49) (tE := 186) (tS2 := 58) (tE2 := 206) (F := Tryz.f62) (op_ren (c := aq0) (by kernel_rfl) aBR) rfl avq (by rw [al4]; rfl) (by rw [al4]; rfl) (by rw [al4]; decide) (by decide) axK aoz rfl aso
theorem asU : aiH 16 shFlow := by
 intro H cs u h hwt
 replace h := At_st.1 h
 obtain ⟨us, rfl, h⟩ := h
 replace h := Ats_cons.1 h
 obtain ⟨c0, d0, u0, rr0, rfl, rfl, h0, h⟩ := h
 replace h := Ats_cons.1 h
 obtain ⟨c1, d1, u1, rr1, rfl, rfl, h1, h⟩ := h
 replace h := Ats_cons.1 h
 obtain ⟨c2, d2, u2, rr2, rfl, rfl, h2, h⟩ := h
 replace h := Ats_cons.1 h
 obtain ⟨c3, d3, u3, rr3, rfl, rfl, h3, h⟩ := h
 replace h := Ats_cons.1 h
 obtain ⟨c4, d4, u4, rr4, rfl, rfl, h4, h⟩ := h
 replace h := Ats_cons.1 h
 obtain ⟨c5, d5, u5, rr5, rfl, rfl, h5, h⟩ := h
 replace h := Ats_nil.1 h
 obtain ⟨rfl, rfl⟩ := h
 have k0 := h0
 replace h0 := At_slice.1 h0
 obtain ⟨v0, l0, rfl, rfl, w0, hv0⟩ := h0
 have o0 := hv0.one
 have k1 := h1
 replace h1 := At_slice.1 h1
 obtain ⟨v1, l1, rfl, rfl, w1, hv1⟩ := h1
 have o1 := hv1.one
 have k2 := h2
 replace h2 := At_slice.1 h2
 obtain ⟨v2, l2, rfl, rfl, w2, hv2⟩ := h2
 have o2 := hv2.one
 have k3 := h3
 replace h3 := At_slice.1 h3
 obtain ⟨v3, l3, rfl, rfl, w3, hv3⟩ := h3
 have o3 := hv3.one
 have k4 := h4
 replace h4 := At_slice.1 h4
 obtain ⟨v4, l4, rfl, rfl, w4, hv4⟩ := h4
 have o4 := hv4.one
 replace h5 := At_bool.1 h5
 obtain ⟨b5, rfl, rfl⟩ := h5
 simp only [wt_st, wts_cons, wts_nil, wt_str, wt_int, wt_bool] at hwt
 obtain ⟨T0, x0, G0, q0, a0, m0, g0⟩ := amv (H) _ _ (k0) (by first | omega | (simp only [wt_st, wts_cons, wts_nil, wt_str, wt_int, wt_bool]; omega))
 have y0 := a0
 obtain ⟨z0, _, rfl, zz0, _, _⟩ := AtF_slice.1 y0
 cases zz0
 have oz0 := (At_slice.1 (AtF.at _ a0))
 obtain ⟨_, _, x1, x2, _, oz0⟩ := oz0
 cases x1
 cases x2
 have oz0 := oz0.one
 simp only [valC, List.headD_cons, List.append_nil, List.cons_append, List.nil_append, List.append_assoc] at q0
 obtain ⟨T1, x1, G1, q1, a1, m1, g1⟩ := ap2 (H ++ T0) _ _ (k1.ext) (by first | omega | (simp only [wt_st, wts_cons, wts_nil, wt_str, wt_int, wt_bool]; omega))
 have y1 := a1
 obtain ⟨z1, _, rfl, zz1, _, _⟩ := AtF_slice.1 y1
 cases zz1
 have oz1 := (At_slice.1 (AtF.at _ a1))
 obtain ⟨_, _, x1, x2, _, oz1⟩ := oz1
 cases x1
 cases x2
 have oz1 := oz1.one
 simp only [valC, List.headD_cons, List.append_nil, List.cons_append, List.nil_append, List.append_assoc] at q1
 obtain ⟨T2, x2, G2, q2, a2, m2, g2⟩ := alj (H ++ T0 ++ T1) _ _ (k2.ext.ext) (by first | omega | (simp only [wt_st, wts_cons, wts_nil, wt_str, wt_int, wt_bool]; omega))
 have y2 := a2
 obtain ⟨z2, _, rfl, zz2, _, _⟩ := AtF_slice.1 y2
 cases zz2
 have oz2 := (At_slice.1 (AtF.at _ a2))
 obtain ⟨_, _, x1, x2, _, oz2⟩ := oz2
 cases x1
 cases x2
 have oz2 := oz2.one
 simp only [valC, List.headD_cons, List.append_nil, List.cons_append, List.nil_append, List.append_assoc] at q2
 obtain ⟨T3, x3, G3, q3, a3, m3, g3⟩ := alj (H ++ T0 ++ T1 ++ T2) _ _ (k3.ext.ext.ext) (by first | omega | (simp only [wt_st, wts_cons, wts_nil, wt_str, wt_int, wt_bool]; omega))
 have y3 := a3
 obtain ⟨z3, _, rfl, zz3, _, _⟩ := AtF_slice.1 y3
 cases zz3
 have oz3 := (At_slice.1 (AtF.at _ a3))
 obtain ⟨_, _, x1, x2, _, oz3⟩ := oz3
 cases x1
 cases x2
 have oz3 := oz3.one
 simp only [valC, List.headD_cons, List.append_nil, List.cons_append, List.nil_append, List.append_assoc] at q3
 obtain ⟨T4, x4, G4, q4, a4, m4, g4⟩ := alj (H ++ T0 ++ T1 ++ T2 ++ T3) _ _ (k4.ext.ext.ext.ext) (by first | omega | (simp only [wt_st, wts_cons, wts_nil, wt_str, wt_int, wt_bool]; omega))
 have y4 := a4
 obtain ⟨z4, _, rfl, zz4, _, _⟩ := AtF_slice.1 y4
 cases zz4
 have oz4 := (At_slice.1 (AtF.at _ a4))
 obtain ⟨_, _, x1, x2, _, oz4⟩ := oz4
 cases x1
 cases x2
 have oz4 := oz4.one
 simp only [valC, List.headD_cons, List.append_nil, List.cons_append, List.nil_append, List.append_assoc] at q4
 have hA : AtF (H ++ T0 ++ T1 ++ T2 ++ T3 ++ T4) shFlow _ _ _ := AtF_st.2 ⟨_, rfl, AtsF_cons.2 ⟨[_], _, _, _, G0, _, rfl, rfl, rfl, (a0.app.app.app.app), AtsF_cons.2 ⟨[_], _, _, _, G1, _, rfl, rfl, rfl, (a1.app.app.app), AtsF_cons.2 ⟨[_], _, _, _, G2, _, rfl, rfl, rfl, (a2.app.app), AtsF_cons.2 ⟨[_], _, _, _, G3, _, rfl, rfl, rfl, (a3.app), AtsF_cons.2 ⟨[_], _, _, _, G4, _, rfl, rfl, rfl, (a4), AtsF_cons.2 ⟨[_], _, _, _, [], _, rfl, rfl, rfl, AtF_bool.2 ⟨⟨b5, rfl, rfl⟩, rfl⟩, AtsF_nil.2 ⟨rfl, rfl, rfl⟩⟩⟩⟩⟩⟩⟩⟩
 simp only [List.append_assoc, List.nil_append, List.append_nil] at hA
 simp only [List.length_append] at g0 g1 g2 g3 g4
 have hge : ∀ q ∈ G0 ++ (G1 ++ (G2 ++ (G3 ++ (G4)))), H.length ≤ q := by
  intro q hq
  try simp only [List.mem_append] at hq
  rcases hq with hq | hq | hq | hq | hq
  ·have := g0 q hq; omega
  ·have := g1 q hq; omega
  ·have := g2 q hq; omega
  ·have := g3 q hq; omega
  ·have := g4 q hq; omega
 have hnd : (G0 ++ (G1 ++ (G2 ++ (G3 ++ (G4))))).Nodup := by
  have b0 := AtF.mem _ a0
  have b1 := AtF.mem _ a1
  have b2 := AtF.mem _ a2
  have b3 := AtF.mem _ a3
  have b4 := AtF.mem _ a4
  simp only [List.length_append] at b0 b1 b2 b3 b4
  refine List.nodup_append.2 ⟨m0, ?_, fun x hx y hy e => ?_⟩
  rotate_left
  ·subst e
   have := b0 x hx
   try simp only [List.mem_append] at hy
   rcases hy with hy | hy | hy | hy
   ·have := g1 x hy; omega
   ·have := g2 x hy; omega
   ·have := g3 x hy; omega
   ·have := g4 x hy; omega
  refine List.nodup_append.2 ⟨m1, ?_, fun x hx y hy e => ?_⟩
  rotate_left
  ·subst e
   have := b1 x hx
   try simp only [List.mem_append] at hy
   rcases hy with hy | hy | hy
   ·have := g2 x hy; omega
   ·have := g3 x hy; omega
   ·have := g4 x hy; omega
  refine List.nodup_append.2 ⟨m2, ?_, fun x hx y hy e => ?_⟩
  rotate_left
  ·subst e
   have := b2 x hx
   try simp only [List.mem_append] at hy
   rcases hy with hy | hy
   ·have := g3 x hy; omega
   ·have := g4 x hy; omega
  refine List.nodup_append.2 ⟨m3, ?_, fun x hx y hy e => ?_⟩
  rotate_left
  ·subst e
   have := b3 x hx
   try simp only [List.mem_append] at hy
   ·have := g4 x hy; omega
  exact m4
 obtain ⟨T, hT, hA⟩ := gcH_to hA hge
 simp only [List.cons_append, List.nil_append, List.append_nil] at hT
 apply Ret.to
 rw [aBX]
 simp [arp, Tryz.f16, valC, hT, q0, q1, q2, q3, q4, o0, o1, o2, o3, o4, oz0, oz1, oz2, oz3, oz4]
 exact ⟨_, hA, hnd, hge⟩
theorem Ret.mark {f : Nat} {a : List V} {H : List Ob} {n : Int} {P : List Ob → Prop} (h : Ret C f a H fun r H' => r = .int .i64 n ∧ P H') : ∃ H', callW C f a H = some (.int .i64 n, H') ∧ P H' := by
 obtain ⟨r, H', hc, rfl, h⟩ := h
 exact ⟨H', hc, h⟩
end Go.Proofs.Try1
end
section
namespace Go.Lite
open Go
theorem ASl.ofSl {H : List Ob} {α : Type} {sh : Sh} {f : α → U} {v : V} {l : List α} (h : Sl H sh.size (At H sh) v (l.map f)) (hb : l.length ≤ maxLen) : ASl H sh f v l := At_slice.2 ⟨v, _, rfl, rfl, by simpa using hb, h⟩
theorem ASl.cut {H : List Ob} {α : Type} {sh : Sh} {f : α → U} {v : V} {l : List α} (h : ASl H sh f v l) {i : Nat} (hi : i ≤ l.length) :
  ∃ s1 s2 : V, ASl H sh f s1 (l.take i) ∧ ASl H sh f s2 (l.drop i) ∧
   ((v = .slc none 0 ∧ s1 = .slc none 0 ∧ s2 = .slc none 0 ∧ i = 0 ∧ l = []) ∨ ∃ id off, v = .slc (some (id, off)) l.length ∧ s1 = .slc (some (id, off)) i ∧ s2 = .slc (some (id, off + i * sh.size)) (l.length - i) ∧ ∀ G, (∃ S, G = H ++ S) → strideIs G id sh.size = true) := by
 have hb := h.bound
 rcases h.sl with ⟨rfl, h1⟩ | ⟨id, off, own, cells, hv, h2, h3, h4⟩
 ·have h0 : l = [] := by simpa using h1
  subst h0
  have hi0 : i = 0 := by simpa using hi
  subst hi0
  exact ⟨.slc none 0, .slc none 0, h, h, .inl ⟨rfl, rfl, rfl, rfl, rfl⟩⟩
 ·rw [List.length_map] at hv h3
  have hget : ∀ j, (l.map f)[j]? = (l[j]?).map f := fun j => List.getElem?_map
  refine ⟨.slc (some (id, off)) i, .slc (some (id, off + i * sh.size)) (l.length - i), ASl.ofSl (.inr ⟨id, off, own, cells, ?_, h2, ?_, fun j x hx => ?_⟩) ?_, ASl.ofSl (.inr ⟨id, off + i * sh.size, own, cells, ?_, h2, ?_, fun j x hx => ?_⟩) ?_, .inr ⟨id, off, hv, rfl, rfl, ?_⟩⟩
  ·simp; omega
  ·rw [List.length_map, List.length_take, Nat.min_eq_left hi]
   exact Nat.le_trans (Nat.add_le_add_left (Nat.mul_le_mul_right _ hi) _) h3
  ·rw [List.getElem?_map] at hx
   obtain ⟨y, hy, rfl⟩ := Option.map_eq_some_iff.1 hx
   have hj : j < i := by have := (List.getElem?_eq_some_iff.1 hy).1; simp at this; omega
   rw [List.getElem?_take_of_lt hj] at hy
   exact h4 j _ (by rw [hget, hy]; rfl)
  ·simp; omega
  ·simp
  ·rw [List.length_map, List.length_drop, Nat.add_assoc, ← Nat.add_mul, show i + (l.length - i) = l.length by omega]
   exact h3
  ·rw [List.getElem?_map, List.getElem?_drop] at hx
   obtain ⟨y, hy, rfl⟩ := Option.map_eq_some_iff.1 hx
   rw [Nat.add_assoc, ← Nat.add_mul]
   exact h4 (i + j) _ (by rw [hget, hy]; rfl)
  ·simp; omega
  ·rintro G ⟨S, rfl⟩
   unfold strideIs
   rw [up_append _ _ h2]
   simp
theorem AStrs.low {H T : List Ob} {w : V} {l : List Str} (h : AStrs (H ++ T) w l) (hl : lowV H w) : AStrs H w l := by
 rcases h.sl with ⟨hw, h1⟩ | ⟨id, off, own, cells, hv, h2, h3, h4⟩
 ·exact ASl.ofSl (.inl ⟨hw, h1⟩) h.bound
 ·rw [hv] at hl
  simp only [lowV] at hl
  obtain ⟨_, _, _, h0⟩ := hl
  have hid := (List.getElem?_eq_some_iff.1 h0).1
  rw [List.getElem?_append_left hid] at h2
  refine ASl.ofSl (.inr ⟨id, off, own, cells, hv, h2, h3, fun i x hx => ?_⟩) h.bound
  obtain ⟨s, e1, e2, e3⟩ := At_str.1 (h4 i x hx)
  exact At_str.2 ⟨s, e1, e2, e3⟩
theorem AStrs.gc {H X : List Ob} {w : V} {l : List Str} (h : AStrs (H ++ X) w l) : ∃ T, gcH H (H ++ X) w = H ++ T ∧ AStrs (H ++ T) w l := by
 unfold gcH
 split
 ·rename_i hc
  exact ⟨[], by simp, by simpa using h.low hc.2⟩
 ·exact ⟨X, rfl, h⟩
theorem AStrs.frame {G G' : List Ob} {w : V} {l : List Str} (h : AStrs G w l) (hf : ∀ q o n, w = .slc (some (q, o)) n → G'[q]? = G[q]?) : AStrs G' w l := by
 rcases h.sl with ⟨hw, h1⟩ | ⟨id, off, own, cells, hv, h2, h3, h4⟩
 ·exact ASl.ofSl (.inl ⟨hw, h1⟩) h.bound
 ·rw [← hf _ _ _ hv] at h2
  refine ASl.ofSl (.inr ⟨id, off, own, cells, hv, h2, h3, fun i x hx => ?_⟩) h.bound
  obtain ⟨s, e1, e2, e3⟩ := At_str.1 (h4 i x hx)
  exact At_str.2 ⟨s, e1, e2, e3⟩
theorem AStrs.lt {G : List Ob} {w : V} {l : List Str} (h : AStrs G w l) : ∀ q o n, w = .slc (some (q, o)) n → q < G.length := by
 rintro q o n rfl
 rcases h.sl with ⟨hw, h1⟩ | ⟨id, off, own, cells, hv, h2, h3, h4⟩
 ·cases hw
 ·cases hv
  exact (List.getElem?_eq_some_iff.1 h2).1
theorem appendV_frame {E : LT} {H H' : List Ob} {s x s' : V} (h : appendV E H s x = some (s', H')) :
  (∀ q, q < H.length → (∀ off n, s ≠ .slc (some (q, off)) n) → H'[q]? = H[q]?) ∧ (∀ q o n, s' = .slc (some (q, o)) n → (∃ o n, s = .slc (some (q, o)) n) ∨ H.length ≤ q) ∧ H.length ≤ H'.length := by
 unfold appendV at h
 split at h
 case isFalse => cases h
 split at h
 case h_1 => cases h
 rename_i xs m _
 split at h
 ·split at h
  ·cases h; exact ⟨fun _ _ _ => rfl, fun q o n he => (by cases he), Nat.le_refl _⟩
  ·cases h; exact ⟨fun _ _ _ => rfl, fun q o n he => .inl ⟨o, n, he⟩, Nat.le_refl _⟩
  ·cases h
 split at h
 case isFalse => cases h
 split at h
 ·split at h
  ·cases h
   refine ⟨fun q hq _ => List.getElem?_append_left hq, fun q o n he => ?_, by simp⟩
   cases he; exact .inr (Nat.le_refl _)
  ·cases h
 ·rename_i id off n
  split at h
  case h_2 => cases h
  split at h
  case isFalse => cases h
  split at h
  ·cases h
   refine ⟨fun q hq hne => List.getElem?_set_ne (fun e => hne off n (by rw [e])), fun q o n' he => .inl ?_, by simp⟩
   cases he; exact ⟨_, _, rfl⟩
  ·split at h
   case isFalse => cases h
   cases h
   refine ⟨fun q hq hne => ?_, fun q o n' he => .inr ?_, by simp⟩
   ·rw [List.getElem?_append_left (by rw [List.length_set]; exact hq), List.getElem?_set_ne (fun e => hne off n (by rw [e]))]
   ·cases he; exact Nat.le_refl _
 ·cases h
structure PWant where
 dn : Str
 login : Str
 mail : Str
 phone : Str
 code : Int
abbrev PWant.cs (w : PWant) : List V := [.str w.dn, .str w.login, .str w.mail, .str w.phone, .int .i64 w.code]
abbrev shWant : Sh := .st [.str, .str, .str, .str, .int .i64]
def PWant.u (w : PWant) : U := .st [.str w.dn, .str w.login, .str w.mail, .str w.phone, .int w.code]
def PWant.Small (w : PWant) : Prop := w.dn.length ≤ 1000 ∧ w.login.length ≤ 1000 ∧ w.mail.length ≤ 1000 ∧ w.phone.length ≤ 1000 ∧ 0 ≤ w.code ∧ w.code ≤ 100
theorem PWant.Small.new {w : PWant} (h : w.Small) {b e : Nat} {G : List Ob} : New b e G shWant w.cs w.u := by
 obtain ⟨h1, h2, h3, h4, h5, h6⟩ := h
 have hm : ∀ n, n ≤ 1000 → n ≤ maxLen := fun n h => by unfold maxLen; omega
 have hc : (Lit.int .i64 w.code).wf = true := by
  have := wf_nat (n := w.code.toNat) (by omega)
  rwa [show ((w.code.toNat : Nat) : Int) = w.code by omega] at this
 exact New.st (News.str (hm _ h1) (News.str (hm _ h2) (News.str (hm _ h3) (News.str (hm _ h4) (News.int hc News.nil)))))
theorem AStrs.apart {α : Type} {B G G' : List Ob} {sh : Sh} {f : α → U} {w wk : V} {l : List α} {kl : List Str} (h : LstF B G sh f w l) (hs : sh.size ≠ 1) (hk : AStrs G wk kl) (hf : ∀ q, q < G.length → (∀ off n, w ≠ .slc (some (q, off)) n) → G'[q]? = G[q]?) : AStrs G' wk kl := by
 refine hk.frame fun q o n hq => ?_
 rcases hk.sl with ⟨hw, _⟩ | ⟨id, off, own, cells, hv, h2, _⟩
 ·rw [hw] at hq; cases hq
 rw [hv] at hq
 simp only [V.slc.injEq, Option.some.injEq, Prod.mk.injEq] at hq
 obtain ⟨⟨rfl, rfl⟩, rfl⟩ := hq
 refine hf _ (List.getElem?_eq_some_iff.1 h2).1 fun off' n' hw => ?_
 obtain ⟨_, ⟨rfl, _⟩ | ⟨idw, cs, Fs, _, h4, rfl, _⟩⟩ := h
 ·cases hw
 ·simp only [V.slc.injEq, Option.some.injEq, Prod.mk.injEq] at hw
  obtain ⟨⟨rfl, _⟩, _⟩ := hw
  rw [h2] at h4
  simp at h4
  exact hs h4.2.1.symm
end Go.Lite
end
section
namespace Go.Proofs.Try1
open Go Go.Lite


end Go.Proofs.Try1
end
