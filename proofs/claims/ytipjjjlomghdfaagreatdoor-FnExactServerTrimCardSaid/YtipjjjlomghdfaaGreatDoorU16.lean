/- Part 16 of the proof of a law: the interpreter, its soundness, and what functions of the program compute over it. Conditions: none but those that each theorem names. -/
import Derived.Test.YtipjjjlomghdfaaGreatDoorU08
import Derived.Test.YtipjjjlomghdfaaGreatDoorU10
import Derived.Test.YtipjjjlomghdfaaGreatDoorU09
import Derived.Test.YtipjjjlomghdfaaGreatDoorU15
import Derived.Test.YtipjjjlomghdfaaGreatDoorU14
import Derived.Test.YtipjjjlomghdfaaGreatDoorU12
import Derived.Test.YtipjjjlomghdfaaGreatDoorU13
import Derived.Test.YtipjjjlomghdfaaGreatDoorU11
import Derived.Sort.AssemblyPlain
import Derived.Test.YtipjjjlomghdfaaGreatDoorU07
import Derived.Test.YtipjjjlomghdfaaGreatDoorU06

set_option linter.all false
set_option maxRecDepth 20000
set_option maxHeartbeats 40000000
section
namespace Go.Proofs.Try1
open Go Go.Lite
theorem zW : dB 98 shRule := by
 intro H cs u left h hleft
 replace h := At_st.1 h
 obtain ⟨us, rfl, h⟩ := h
 replace h := Ats_cons.1 h
 obtain ⟨c0, d0, u0, rr0, rfl, rfl, h0, h⟩ := h
 replace h := Ats_cons.1 h
 obtain ⟨c1, d1, u1, rr1, rfl, rfl, h1, h⟩ := h
 replace h := Ats_cons.1 h
 obtain ⟨c2, d2, u2, rr2, rfl, rfl, h2, h⟩ := h
 replace h := Ats_cons.1 h
 obtain ⟨c3, d3, u3, rr3, rfl, rfl, h3, h⟩ := h
 replace h := Ats_cons.1 h
 obtain ⟨c4, d4, u4, rr4, rfl, rfl, h4, h⟩ := h
 replace h := Ats_nil.1 h
 obtain ⟨rfl, rfl⟩ := h
 replace h0 := At_str.1 h0
 obtain ⟨s0, rfl, rfl, w0⟩ := h0
 have k1 := h1
 replace h1 := At_slice.1 h1
 obtain ⟨v1, l1, rfl, rfl, w1, hv1⟩ := h1
 have o1 := hv1.one
 have k2 := h2
 replace h2 := At_slice.1 h2
 obtain ⟨v2, l2, rfl, rfl, w2, hv2⟩ := h2
 have o2 := hv2.one
 replace h3 := At_int.1 h3
 obtain ⟨n3, rfl, rfl, w3⟩ := h3
 replace h4 := At_bool.1 h4
 obtain ⟨b4, rfl, rfl⟩ := h4
 by_cases g0 : s0.length ≤ left
 rotate_left
 ·have q0 : IntKind.i64.wrap (((left : Nat) : Int) - s0.length) = ((left : Nat) : Int) - s0.length := wrap_i64 (by have : s0.length ≤ 9223372036854775807 := w0; omega) (by omega)
  have p0 : ((left : Nat) : Int) - s0.length < 0 := by omega
  have hT : ¬ wt (U.st [(.str s0), (.lst l1), (.lst l2), (.int n3), (.bool b4)]) ≤ left := by first | (simp only [wt_st, wts_cons, wts_nil, wt_str, wt_int, wt_bool]; omega) | (simp only [wt_st, wts_cons, wts_nil, wt_str, wt_int, wt_bool] at *; omega)
  rw [if_neg hT]
  apply Ret.eq
  rw [zK]
  simp [jf, Tryz.f98, valC, q0, p0, o1, o2]
 have q0 : IntKind.i64.wrap (((left : Nat) : Int) - s0.length) = ((left - s0.length : Nat) : Int) := by rw [wrap_i64 (by omega) (by omega)]; omega
 have p0 : ¬ (((left - s0.length : Nat) : Int) < 0) := by omega
 have q1 := rD H _ _ (left - s0.length) k1 (by omega)
 simp only [valC, List.headD_cons, List.append_nil, List.cons_append, List.nil_append] at q1
 by_cases g1 : wt (.lst l1) ≤ left - s0.length
 rotate_left
 ·rw [if_neg g1] at q1
  have hT : ¬ wt (U.st [(.str s0), (.lst l1), (.lst l2), (.int n3), (.bool b4)]) ≤ left := by first | (simp only [wt_st, wts_cons, wts_nil, wt_str, wt_int, wt_bool]; omega) | (simp only [wt_st, wts_cons, wts_nil, wt_str, wt_int, wt_bool] at *; omega)
  rw [if_neg hT]
  apply Ret.eq
  rw [zK]
  simp [jf, Tryz.f98, valC, q0, p0, q1, o1, o2]
 rw [if_pos g1] at q1
 have p1 : ¬ (((left - s0.length - wt (.lst l1) : Nat) : Int) < 0) := by omega
 have q2 := bF H _ _ (left - s0.length - wt (.lst l1)) k2 (by omega)
 simp only [valC, List.headD_cons, List.append_nil, List.cons_append, List.nil_append] at q2
 by_cases g2 : wt (.lst l2) ≤ left - s0.length - wt (.lst l1)
 rotate_left
 ·rw [if_neg g2] at q2
  have hT : ¬ wt (U.st [(.str s0), (.lst l1), (.lst l2), (.int n3), (.bool b4)]) ≤ left := by first | (simp only [wt_st, wts_cons, wts_nil, wt_str, wt_int, wt_bool]; omega) | (simp only [wt_st, wts_cons, wts_nil, wt_str, wt_int, wt_bool] at *; omega)
  rw [if_neg hT]
  apply Ret.eq
  rw [zK]
  simp [jf, Tryz.f98, valC, q0, p0, q1, p1, q2, o1, o2]
 rw [if_pos g2] at q2
 have p2 : ¬ (((left - s0.length - wt (.lst l1) - wt (.lst l2) : Nat) : Int) < 0) := by omega
 have hT : wt (U.st [(.str s0), (.lst l1), (.lst l2), (.int n3), (.bool b4)]) ≤ left := by first | (simp only [wt_st, wts_cons, wts_nil, wt_str, wt_int, wt_bool]; omega) | (simp only [wt_st, wts_cons, wts_nil, wt_str, wt_int, wt_bool] at *; omega)
 have hE : left - wt (U.st [(.str s0), (.lst l1), (.lst l2), (.int n3), (.bool b4)]) = left - s0.length - wt (.lst l1) - wt (.lst l2) := by first | (simp only [wt_st, wts_cons, wts_nil, wt_str, wt_int, wt_bool]; omega) | (simp only [wt_st, wts_cons, wts_nil, wt_str, wt_int, wt_bool] at *; omega)
 rw [if_pos hT, hE]
 apply Ret.eq
 rw [zK]
 simp [jf, Tryz.f98, valC, q0, p0, q1, p1, q2, p2, o1, o2]
theorem yz : dB 39 (.slice shRule) :=
 jU (f := 39) (g := 98) (tS := 26) (tE := 150) (F := Tryz.f39) (op_ren (c := yE) (by kernel_rfl) QC) rfl Ep (by rw [jJ]; rfl) (by rw [jJ]; rfl) (by rw [jJ]; decide) zW
theorem vS : dB 180 shChange := by
 intro H cs u left h hleft
 replace h := At_st.1 h
 obtain ⟨us, rfl, h⟩ := h
 replace h := Ats_cons.1 h
 obtain ⟨c0, d0, u0, rr0, rfl, rfl, h0, h⟩ := h
 replace h := Ats_cons.1 h
 obtain ⟨c1, d1, u1, rr1, rfl, rfl, h1, h⟩ := h
 replace h := Ats_cons.1 h
 obtain ⟨c2, d2, u2, rr2, rfl, rfl, h2, h⟩ := h
 replace h := Ats_cons.1 h
 obtain ⟨c3, d3, u3, rr3, rfl, rfl, h3, h⟩ := h
 replace h := Ats_nil.1 h
 obtain ⟨rfl, rfl⟩ := h
 replace h0 := At_int.1 h0
 obtain ⟨n0, rfl, rfl, w0⟩ := h0
 replace h1 := At_int.1 h1
 obtain ⟨n1, rfl, rfl, w1⟩ := h1
 replace h2 := At_str.1 h2
 obtain ⟨s2, rfl, rfl, w2⟩ := h2
 have k3 := h3
 replace h3 := At_st.1 h3
 obtain ⟨us3_, rfl, h3⟩ := h3
 replace h3 := Ats_cons.1 h3
 obtain ⟨c3_0, d3_0, u3_0, rr3_0, rfl, rfl, h3_0, h3⟩ := h3
 replace h3 := Ats_cons.1 h3
 obtain ⟨c3_1, d3_1, u3_1, rr3_1, rfl, rfl, h3_1, h3⟩ := h3
 replace h3 := Ats_nil.1 h3
 obtain ⟨rfl, rfl⟩ := h3
 have k3_0 := h3_0
 replace h3_0 := At_slice.1 h3_0
 obtain ⟨v3_0, l3_0, rfl, rfl, w3_0, hv3_0⟩ := h3_0
 have o3_0 := hv3_0.one
 have k3_1 := h3_1
 replace h3_1 := At_slice.1 h3_1
 obtain ⟨v3_1, l3_1, rfl, rfl, w3_1, hv3_1⟩ := h3_1
 have o3_1 := hv3_1.one
 by_cases g2 : s2.length ≤ left
 rotate_left
 ·have q2 : IntKind.i64.wrap (((left : Nat) : Int) - s2.length) = ((left : Nat) : Int) - s2.length := wrap_i64 (by have : s2.length ≤ 9223372036854775807 := w2; omega) (by omega)
  have p2 : ((left : Nat) : Int) - s2.length < 0 := by omega
  have hT : ¬ wt (U.st [(.int n0), (.int n1), (.str s2), (.st [(.lst l3_0), (.lst l3_1)])]) ≤ left := by first | (simp only [wt_st, wts_cons, wts_nil, wt_str, wt_int, wt_bool]; omega) | (simp only [wt_st, wts_cons, wts_nil, wt_str, wt_int, wt_bool] at *; omega)
  rw [if_neg hT]
  apply Ret.eq
  rw [wZ]
  simp [iw, Tryz.f180, valC, q2, p2, o3_0, o3_1]
 have q2 : IntKind.i64.wrap (((left : Nat) : Int) - s2.length) = ((left - s2.length : Nat) : Int) := by rw [wrap_i64 (by omega) (by omega)]; omega
 have p2 : ¬ (((left - s2.length : Nat) : Int) < 0) := by omega
 have q3 := mi H _ _ (left - s2.length) k3 (by omega)
 simp only [valC, List.headD_cons, List.append_nil, List.cons_append, List.nil_append] at q3
 by_cases g3 : wt (.st [(.lst l3_0), (.lst l3_1)]) ≤ left - s2.length
 rotate_left
 ·rw [if_neg g3] at q3
  have hT : ¬ wt (U.st [(.int n0), (.int n1), (.str s2), (.st [(.lst l3_0), (.lst l3_1)])]) ≤ left := by first | (simp only [wt_st, wts_cons, wts_nil, wt_str, wt_int, wt_bool]; omega) | (simp only [wt_st, wts_cons, wts_nil, wt_str, wt_int, wt_bool] at *; omega)
  rw [if_neg hT]
  apply Ret.eq
  rw [wZ]
  simp [iw, Tryz.f180, valC, q2, p2, q3, o3_0, o3_1]
 rw [if_pos g3] at q3
 have p3 : ¬ (((left - s2.length - wt (.st [(.lst l3_0), (.lst l3_1)]) : Nat) : Int) < 0) := by omega
 have hT : wt (U.st [(.int n0), (.int n1), (.str s2), (.st [(.lst l3_0), (.lst l3_1)])]) ≤ left := by first | (simp only [wt_st, wts_cons, wts_nil, wt_str, wt_int, wt_bool]; omega) | (simp only [wt_st, wts_cons, wts_nil, wt_str, wt_int, wt_bool] at *; omega)
 have hE : left - wt (U.st [(.int n0), (.int n1), (.str s2), (.st [(.lst l3_0), (.lst l3_1)])]) = left - s2.length - wt (.st [(.lst l3_0), (.lst l3_1)]) := by first | (simp only [wt_st, wts_cons, wts_nil, wt_str, wt_int, wt_bool]; omega) | (simp only [wt_st, wts_cons, wts_nil, wt_str, wt_int, wt_bool] at *; omega)
 rw [if_pos hT, hE]
 apply Ret.eq
 rw [wZ]
 simp [iw, Tryz.f180, valC, q2, p2, q3, p3, o3_0, o3_1]
theorem oL : dB 99 (.slice shChange) :=
 jU (f := 99) (g := 180) (tS := 27) (tE := 241) (F := Tryz.f99) (op_ren (c := xG) (by kernel_rfl) P5) rfl Jp (by rw [jW]; rfl) (by rw [jW]; rfl) (by rw [jW]; decide) vS
theorem pz : dB 40 shChanges := by
 intro H cs u left h hleft
 replace h := At_st.1 h
 obtain ⟨us, rfl, h⟩ := h
 replace h := Ats_cons.1 h
 obtain ⟨c0, d0, u0, rr0, rfl, rfl, h0, h⟩ := h
 replace h := Ats_cons.1 h
 obtain ⟨c1, d1, u1, rr1, rfl, rfl, h1, h⟩ := h
 replace h := Ats_nil.1 h
 obtain ⟨rfl, rfl⟩ := h
 replace h0 := At_int.1 h0
 obtain ⟨n0, rfl, rfl, w0⟩ := h0
 have k1 := h1
 replace h1 := At_slice.1 h1
 obtain ⟨v1, l1, rfl, rfl, w1, hv1⟩ := h1
 have o1 := hv1.one
 have q1 := oL H _ _ (left) k1 (by omega)
 simp only [valC, List.headD_cons, List.append_nil, List.cons_append, List.nil_append] at q1
 by_cases g1 : wt (.lst l1) ≤ left
 rotate_left
 ·rw [if_neg g1] at q1
  have hT : ¬ wt (U.st [(.int n0), (.lst l1)]) ≤ left := by first | (simp only [wt_st, wts_cons, wts_nil, wt_str, wt_int, wt_bool]; omega) | (simp only [wt_st, wts_cons, wts_nil, wt_str, wt_int, wt_bool] at *; omega)
  rw [if_neg hT]
  apply Ret.eq
  rw [GG]
  simp [pM, Tryz.f40, valC, q1, o1]
 rw [if_pos g1] at q1
 have p1 : ¬ (((left - wt (.lst l1) : Nat) : Int) < 0) := by omega
 have hT : wt (U.st [(.int n0), (.lst l1)]) ≤ left := by first | (simp only [wt_st, wts_cons, wts_nil, wt_str, wt_int, wt_bool]; omega) | (simp only [wt_st, wts_cons, wts_nil, wt_str, wt_int, wt_bool] at *; omega)
 have hE : left - wt (U.st [(.int n0), (.lst l1)]) = left - wt (.lst l1) := by first | (simp only [wt_st, wts_cons, wts_nil, wt_str, wt_int, wt_bool]; omega) | (simp only [wt_st, wts_cons, wts_nil, wt_str, wt_int, wt_bool] at *; omega)
 rw [if_pos hT, hE]
 apply Ret.eq
 rw [GG]
 simp [pM, Tryz.f40, valC, q1, p1, o1]
theorem wC : dB 8 shServer := by
 intro H cs u left h hleft
 replace h := At_st.1 h
 obtain ⟨us, rfl, h⟩ := h
 replace h := Ats_cons.1 h
 obtain ⟨c0, d0, u0, rr0, rfl, rfl, h0, h⟩ := h
 replace h := Ats_cons.1 h
 obtain ⟨c1, d1, u1, rr1, rfl, rfl, h1, h⟩ := h
 replace h := Ats_cons.1 h
 obtain ⟨c2, d2, u2, rr2, rfl, rfl, h2, h⟩ := h
 replace h := Ats_cons.1 h
 obtain ⟨c3, d3, u3, rr3, rfl, rfl, h3, h⟩ := h
 replace h := Ats_nil.1 h
 obtain ⟨rfl, rfl⟩ := h
 have k0 := h0
 replace h0 := At_st.1 h0
 obtain ⟨us0_, rfl, h0⟩ := h0
 replace h0 := Ats_cons.1 h0
 obtain ⟨c0_0, d0_0, u0_0, rr0_0, rfl, rfl, h0_0, h0⟩ := h0
 replace h0 := Ats_cons.1 h0
 obtain ⟨c0_1, d0_1, u0_1, rr0_1, rfl, rfl, h0_1, h0⟩ := h0
 replace h0 := Ats_nil.1 h0
 obtain ⟨rfl, rfl⟩ := h0
 have k0_0 := h0_0
 replace h0_0 := At_slice.1 h0_0
 obtain ⟨v0_0, l0_0, rfl, rfl, w0_0, hv0_0⟩ := h0_0
 have o0_0 := hv0_0.one
 have k0_1 := h0_1
 replace h0_1 := At_slice.1 h0_1
 obtain ⟨v0_1, l0_1, rfl, rfl, w0_1, hv0_1⟩ := h0_1
 have o0_1 := hv0_1.one
 have k1 := h1
 replace h1 := At_slice.1 h1
 obtain ⟨v1, l1, rfl, rfl, w1, hv1⟩ := h1
 have o1 := hv1.one
 have k2 := h2
 replace h2 := At_st.1 h2
 obtain ⟨us2_, rfl, h2⟩ := h2
 replace h2 := Ats_cons.1 h2
 obtain ⟨c2_0, d2_0, u2_0, rr2_0, rfl, rfl, h2_0, h2⟩ := h2
 replace h2 := Ats_cons.1 h2
 obtain ⟨c2_1, d2_1, u2_1, rr2_1, rfl, rfl, h2_1, h2⟩ := h2
 replace h2 := Ats_nil.1 h2
 obtain ⟨rfl, rfl⟩ := h2
 replace h2_0 := At_int.1 h2_0
 obtain ⟨n2_0, rfl, rfl, w2_0⟩ := h2_0
 have k2_1 := h2_1
 replace h2_1 := At_slice.1 h2_1
 obtain ⟨v2_1, l2_1, rfl, rfl, w2_1, hv2_1⟩ := h2_1
 have o2_1 := hv2_1.one
 replace h3 := At_str.1 h3
 obtain ⟨s3, rfl, rfl, w3⟩ := h3
 have q0 := zU H _ _ (left) k0 (by omega)
 simp only [valC, List.headD_cons, List.append_nil, List.cons_append, List.nil_append] at q0
 by_cases g0 : wt (.st [(.lst l0_0), (.lst l0_1)]) ≤ left
 rotate_left
 ·rw [if_neg g0] at q0
  have hT : ¬ wt (U.st [(.st [(.lst l0_0), (.lst l0_1)]), (.lst l1), (.st [(.int n2_0), (.lst l2_1)]), (.str s3)]) ≤ left := by first | (simp only [wt_st, wts_cons, wts_nil, wt_str, wt_int, wt_bool]; omega) | (simp only [wt_st, wts_cons, wts_nil, wt_str, wt_int, wt_bool] at *; omega)
  rw [if_neg hT]
  apply Ret.eq
  rw [op8]
  simp [kw, Tryz.f8, valC, q0, o0_0, o0_1, o1, o2_1]
 rw [if_pos g0] at q0
 have p0 : ¬ (((left - wt (.st [(.lst l0_0), (.lst l0_1)]) : Nat) : Int) < 0) := by omega
 have q1 := yz H _ _ (left - wt (.st [(.lst l0_0), (.lst l0_1)])) k1 (by omega)
 simp only [valC, List.headD_cons, List.append_nil, List.cons_append, List.nil_append] at q1
 by_cases g1 : wt (.lst l1) ≤ left - wt (.st [(.lst l0_0), (.lst l0_1)])
 rotate_left
 ·rw [if_neg g1] at q1
  have hT : ¬ wt (U.st [(.st [(.lst l0_0), (.lst l0_1)]), (.lst l1), (.st [(.int n2_0), (.lst l2_1)]), (.str s3)]) ≤ left := by first | (simp only [wt_st, wts_cons, wts_nil, wt_str, wt_int, wt_bool]; omega) | (simp only [wt_st, wts_cons, wts_nil, wt_str, wt_int, wt_bool] at *; omega)
  rw [if_neg hT]
  apply Ret.eq
  rw [op8]
  simp [kw, Tryz.f8, valC, q0, p0, q1, o0_0, o0_1, o1, o2_1]
 rw [if_pos g1] at q1
 have p1 : ¬ (((left - wt (.st [(.lst l0_0), (.lst l0_1)]) - wt (.lst l1) : Nat) : Int) < 0) := by omega
 have q2 := pz H _ _ (left - wt (.st [(.lst l0_0), (.lst l0_1)]) - wt (.lst l1)) k2 (by omega)
 simp only [valC, List.headD_cons, List.append_nil, List.cons_append, List.nil_append] at q2
 by_cases g2 : wt (.st [(.int n2_0), (.lst l2_1)]) ≤ left - wt (.st [(.lst l0_0), (.lst l0_1)]) - wt (.lst l1)
 rotate_left
 ·rw [if_neg g2] at q2
  have hT : ¬ wt (U.st [(.st [(.lst l0_0), (.lst l0_1)]), (.lst l1), (.st [(.int n2_0), (.lst l2_1)]), (.str s3)]) ≤ left := by first | (simp only [wt_st, wts_cons, wts_nil, wt_str, wt_int, wt_bool]; omega) | (simp only [wt_st, wts_cons, wts_nil, wt_str, wt_int, wt_bool] at *; omega)
  rw [if_neg hT]
  apply Ret.eq
  rw [op8]
  simp [kw, Tryz.f8, valC, q0, p0, q1, p1, q2, o0_0, o0_1, o1, o2_1]
 rw [if_pos g2] at q2
 have p2 : ¬ (((left - wt (.st [(.lst l0_0), (.lst l0_1)]) - wt (.lst l1) - wt (.st [(.int n2_0), (.lst l2_1)]) : Nat) : Int) < 0) := by omega
 by_cases g3 : s3.length ≤ left - wt (.st [(.lst l0_0), (.lst l0_1)]) - wt (.lst l1) - wt (.st [(.int n2_0), (.lst l2_1)])
 rotate_left
 ·have q3 : IntKind.i64.wrap (((left - wt (.st [(.lst l0_0), (.lst l0_1)]) - wt (.lst l1) - wt (.st [(.int n2_0), (.lst l2_1)]) : Nat) : Int) - s3.length) = ((left - wt (.st [(.lst l0_0), (.lst l0_1)]) - wt (.lst l1) - wt (.st [(.int n2_0), (.lst l2_1)]) : Nat) : Int) - s3.length := wrap_i64 (by have : s3.length ≤ 9223372036854775807 := w3; omega) (by omega)
  have p3 : ((left - wt (.st [(.lst l0_0), (.lst l0_1)]) - wt (.lst l1) - wt (.st [(.int n2_0), (.lst l2_1)]) : Nat) : Int) - s3.length < 0 := by omega
  have hT : ¬ wt (U.st [(.st [(.lst l0_0), (.lst l0_1)]), (.lst l1), (.st [(.int n2_0), (.lst l2_1)]), (.str s3)]) ≤ left := by first | (simp only [wt_st, wts_cons, wts_nil, wt_str, wt_int, wt_bool]; omega) | (simp only [wt_st, wts_cons, wts_nil, wt_str, wt_int, wt_bool] at *; omega)
  rw [if_neg hT]
  apply Ret.eq
  rw [op8]
  simp [kw, Tryz.f8, valC, q0, p0, q1, p1, q2, p2, q3, p3, o0_0, o0_1, o1, o2_1]
 have q3 : IntKind.i64.wrap (((left - wt (.st [(.lst l0_0), (.lst l0_1)]) - wt (.lst l1) - wt (.st [(.int n2_0), (.lst l2_1)]) : Nat) : Int) - s3.length) = ((left - wt (.st [(.lst l0_0), (.lst l0_1)]) - wt (.lst l1) - wt (.st [(.int n2_0), (.lst l2_1)]) - s3.length : Nat) : Int) := by rw [wrap_i64 (by omega) (by omega)]; omega
 have p3 : ¬ (((left - wt (.st [(.lst l0_0), (.lst l0_1)]) - wt (.lst l1) - wt (.st [(.int n2_0), (.lst l2_1)]) - s3.length : Nat) : Int) < 0) := by omega
 have hT : wt (U.st [(.st [(.lst l0_0), (.lst l0_1)]), (.lst l1), (.st [(.int n2_0), (.lst l2_1)]), (.str s3)]) ≤ left := by first | (simp only [wt_st, wts_cons, wts_nil, wt_str, wt_int, wt_bool]; omega) | (simp only [wt_st, wts_cons, wts_nil, wt_str, wt_int, wt_bool] at *; omega)
 have hE : left - wt (U.st [(.st [(.lst l0_0), (.lst l0_1)]), (.lst l1), (.st [(.int n2_0), (.lst l2_1)]), (.str s3)]) = left - wt (.st [(.lst l0_0), (.lst l0_1)]) - wt (.lst l1) - wt (.st [(.int n2_0), (.lst l2_1)]) - s3.length := by first | (simp only [wt_st, wts_cons, wts_nil, wt_str, wt_int, wt_bool]; omega) | (simp only [wt_st, wts_cons, wts_nil, wt_str, wt_int, wt_bool] at *; omega)
 rw [if_pos hT, hE]
 apply Ret.eq
 rw [op8]
 simp [kw, Tryz.f8, valC, q0, p0, q1, p1, q2, p2, q3, p3, o0_0, o0_1, o1, o2_1]
theorem zX : dh 108 shRule := by
 intro H cs u h hwt
 replace h := At_st.1 h
 obtain ⟨us, rfl, h⟩ := h
 replace h := Ats_cons.1 h
 obtain ⟨c0, d0, u0, rr0, rfl, rfl, h0, h⟩ := h
 replace h := Ats_cons.1 h
 obtain ⟨c1, d1, u1, rr1, rfl, rfl, h1, h⟩ := h
 replace h := Ats_cons.1 h
 obtain ⟨c2, d2, u2, rr2, rfl, rfl, h2, h⟩ := h
 replace h := Ats_cons.1 h
 obtain ⟨c3, d3, u3, rr3, rfl, rfl, h3, h⟩ := h
 replace h := Ats_cons.1 h
 obtain ⟨c4, d4, u4, rr4, rfl, rfl, h4, h⟩ := h
 replace h := Ats_nil.1 h
 obtain ⟨rfl, rfl⟩ := h
 replace h0 := At_str.1 h0
 obtain ⟨s0, rfl, rfl, w0⟩ := h0
 have k1 := h1
 replace h1 := At_slice.1 h1
 obtain ⟨v1, l1, rfl, rfl, w1, hv1⟩ := h1
 have o1 := hv1.one
 have k2 := h2
 replace h2 := At_slice.1 h2
 obtain ⟨v2, l2, rfl, rfl, w2, hv2⟩ := h2
 have o2 := hv2.one
 replace h3 := At_int.1 h3
 obtain ⟨n3, rfl, rfl, w3⟩ := h3
 replace h4 := At_bool.1 h4
 obtain ⟨b4, rfl, rfl⟩ := h4
 simp only [wt_st, wts_cons, wts_nil, wt_str, wt_int, wt_bool] at hwt
 obtain ⟨T1, x1, G1, q1, a1, m1, g1⟩ := qw (H) _ _ (k1) (by first | omega | (simp only [wt_st, wts_cons, wts_nil, wt_str, wt_int, wt_bool]; omega))
 have y1 := a1
 obtain ⟨z1, _, rfl, zz1, _, _⟩ := AtF_slice.1 y1
 cases zz1
 have oz1 := (At_slice.1 (AtF.at _ a1))
 obtain ⟨_, _, x1, x2, _, oz1⟩ := oz1
 cases x1
 cases x2
 have oz1 := oz1.one
 simp only [valC, List.headD_cons, List.append_nil, List.cons_append, List.nil_append, List.append_assoc] at q1
 obtain ⟨T2, x2, G2, q2, a2, m2, g2⟩ := bu (H ++ T1) _ _ (k2.ext) (by first | omega | (simp only [wt_st, wts_cons, wts_nil, wt_str, wt_int, wt_bool]; omega))
 have y2 := a2
 obtain ⟨z2, _, rfl, zz2, _, _⟩ := AtF_slice.1 y2
 cases zz2
 have oz2 := (At_slice.1 (AtF.at _ a2))
 obtain ⟨_, _, x1, x2, _, oz2⟩ := oz2
 cases x1
 cases x2
 have oz2 := oz2.one
 simp only [valC, List.headD_cons, List.append_nil, List.cons_append, List.nil_append, List.append_assoc] at q2
 have hA : AtF (H ++ T1 ++ T2) shRule _ _ _ := AtF_st.2 ⟨_, rfl, AtsF_cons.2 ⟨[_], _, _, _, [], _, rfl, rfl, rfl, AtF_str.2 ⟨⟨_, rfl, rfl, w0⟩, rfl⟩, AtsF_cons.2 ⟨[_], _, _, _, G1, _, rfl, rfl, rfl, (a1.app), AtsF_cons.2 ⟨[_], _, _, _, G2, _, rfl, rfl, rfl, (a2), AtsF_cons.2 ⟨[_], _, _, _, [], _, rfl, rfl, rfl, AtF_int.2 ⟨⟨_, rfl, rfl, w3⟩, rfl⟩, AtsF_cons.2 ⟨[_], _, _, _, [], _, rfl, rfl, rfl, AtF_bool.2 ⟨⟨b4, rfl, rfl⟩, rfl⟩, AtsF_nil.2 ⟨rfl, rfl, rfl⟩⟩⟩⟩⟩⟩⟩
 simp only [List.append_assoc, List.nil_append, List.append_nil] at hA
 simp only [List.length_append] at g1 g2
 have hge : ∀ q ∈ G1 ++ (G2), H.length ≤ q := by
  intro q hq
  try simp only [List.mem_append] at hq
  rcases hq with hq | hq
  ·have := g1 q hq; omega
  ·have := g2 q hq; omega
 have hnd : (G1 ++ (G2)).Nodup := by
  have b1 := AtF.mem _ a1
  have b2 := AtF.mem _ a2
  simp only [List.length_append] at b1 b2
  refine List.nodup_append.2 ⟨m1, ?_, fun x hx y hy e => ?_⟩
  rotate_left
  ·subst e
   have := b1 x hx
   try simp only [List.mem_append] at hy
   ·have := g2 x hy; omega
  exact m2
 obtain ⟨T, hT, hA⟩ := gcH_to hA hge
 simp only [List.cons_append, List.nil_append, List.append_nil] at hT
 apply Ret.to
 rw [Fh]
 simp [rP, Tryz.f108, valC, hT, q1, q2, o1, o2, oz1, oz2]
 exact ⟨_, hA, hnd, hge⟩
theorem xY : dh 45 (.slice shRule) :=
 jQ (f := 45) (g := 108) (tS := 26) (tE := 150) (tS2 := 38) (tE2 := 162) (F := Tryz.f45) (op_ren (c := yM) (by kernel_rfl) PP) rfl Ep (by rw [jJ]; rfl) (by rw [jJ]; rfl) (by rw [jJ]; decide) (by decide) Es sO rfl zX
theorem vJ : dh 193 shChange := by
 intro H cs u h hwt
 replace h := At_st.1 h
 obtain ⟨us, rfl, h⟩ := h
 replace h := Ats_cons.1 h
 obtain ⟨c0, d0, u0, rr0, rfl, rfl, h0, h⟩ := h
 replace h := Ats_cons.1 h
 obtain ⟨c1, d1, u1, rr1, rfl, rfl, h1, h⟩ := h
 replace h := Ats_cons.1 h
 obtain ⟨c2, d2, u2, rr2, rfl, rfl, h2, h⟩ := h
 replace h := Ats_cons.1 h
 obtain ⟨c3, d3, u3, rr3, rfl, rfl, h3, h⟩ := h
 replace h := Ats_nil.1 h
 obtain ⟨rfl, rfl⟩ := h
 replace h0 := At_int.1 h0
 obtain ⟨n0, rfl, rfl, w0⟩ := h0
 replace h1 := At_int.1 h1
 obtain ⟨n1, rfl, rfl, w1⟩ := h1
 replace h2 := At_str.1 h2
 obtain ⟨s2, rfl, rfl, w2⟩ := h2
 have k3 := h3
 replace h3 := At_st.1 h3
 obtain ⟨us3_, rfl, h3⟩ := h3
 replace h3 := Ats_cons.1 h3
 obtain ⟨c3_0, d3_0, u3_0, rr3_0, rfl, rfl, h3_0, h3⟩ := h3
 replace h3 := Ats_cons.1 h3
 obtain ⟨c3_1, d3_1, u3_1, rr3_1, rfl, rfl, h3_1, h3⟩ := h3
 replace h3 := Ats_nil.1 h3
 obtain ⟨rfl, rfl⟩ := h3
 have k3_0 := h3_0
 replace h3_0 := At_slice.1 h3_0
 obtain ⟨v3_0, l3_0, rfl, rfl, w3_0, hv3_0⟩ := h3_0
 have o3_0 := hv3_0.one
 have k3_1 := h3_1
 replace h3_1 := At_slice.1 h3_1
 obtain ⟨v3_1, l3_1, rfl, rfl, w3_1, hv3_1⟩ := h3_1
 have o3_1 := hv3_1.one
 simp only [wt_st, wts_cons, wts_nil, wt_str, wt_int, wt_bool] at hwt
 obtain ⟨T3, x3, G3, q3, a3, m3, g3⟩ := nK (H) _ _ (k3) (by first | omega | (simp only [wt_st, wts_cons, wts_nil, wt_str, wt_int, wt_bool]; omega))
 obtain ⟨FY3, hFY3⟩ : ∃ F, F = G3 := ⟨_, rfl⟩
 have y3 := a3
 rw [← hFY3] at y3
 replace y3 := AtF_st.1 y3
 obtain ⟨usz3_, hu_, y3⟩ := y3
 cases hu_
 replace y3 := AtsF_cons.1 y3
 obtain ⟨cz3_0, dz3_0, uz3_0, rrz3_0, Fz3_0, Ez3_0, rfl, hu_, rfl, hz3_0, y3⟩ := y3
 cases hu_
 replace y3 := AtsF_cons.1 y3
 obtain ⟨cz3_1, dz3_1, uz3_1, rrz3_1, Fz3_1, Ez3_1, rfl, hu_, rfl, hz3_1, y3⟩ := y3
 cases hu_
 replace y3 := AtsF_nil.1 y3
 obtain ⟨rfl, hu_, rfl⟩ := y3
 cases hu_
 have kz3_0 := hz3_0
 replace hz3_0 := AtF_slice.1 hz3_0
 obtain ⟨vz3_0, lz3_0, rfl, hu_, wz3_0, hvz3_0⟩ := hz3_0
 cases hu_
 have oz3_0 := (At_slice.1 (AtF.at _ kz3_0))
 obtain ⟨_, _, x1, x2, _, oz3_0⟩ := oz3_0
 cases x1
 cases x2
 have oz3_0 := oz3_0.one
 have kz3_1 := hz3_1
 replace hz3_1 := AtF_slice.1 hz3_1
 obtain ⟨vz3_1, lz3_1, rfl, hu_, wz3_1, hvz3_1⟩ := hz3_1
 cases hu_
 have oz3_1 := (At_slice.1 (AtF.at _ kz3_1))
 obtain ⟨_, _, x1, x2, _, oz3_1⟩ := oz3_1
 cases x1
 cases x2
 have oz3_1 := oz3_1.one
 simp only [valC, List.headD_cons, List.append_nil, List.cons_append, List.nil_append, List.append_assoc] at q3
 have hA : AtF (H ++ T3) shChange _ _ _ := AtF_st.2 ⟨_, rfl, AtsF_cons.2 ⟨[_], _, _, _, [], _, rfl, rfl, rfl, AtF_int.2 ⟨⟨_, rfl, rfl, w0⟩, rfl⟩, AtsF_cons.2 ⟨[_], _, _, _, [], _, rfl, rfl, rfl, AtF_int.2 ⟨⟨_, rfl, rfl, w1⟩, rfl⟩, AtsF_cons.2 ⟨[_], _, _, _, [], _, rfl, rfl, rfl, AtF_str.2 ⟨⟨_, rfl, rfl, w2⟩, rfl⟩, AtsF_cons.2 ⟨_, _, _, _, G3, _, rfl, rfl, rfl, (a3), AtsF_nil.2 ⟨rfl, rfl, rfl⟩⟩⟩⟩⟩⟩
 simp only [List.append_assoc, List.nil_append, List.append_nil] at hA
 skip
 have hge : ∀ q ∈ G3, H.length ≤ q := by
  intro q hq
  try simp only [List.mem_append] at hq
  ·have := g3 q hq; omega
 have hnd : (G3).Nodup := by
  have b3 := AtF.mem _ a3
  exact m3
 obtain ⟨T, hT, hA⟩ := gcH_to hA hge
 simp only [List.cons_append, List.nil_append, List.append_nil] at hT
 apply Ret.to
 rw [Ha]
 simp [ug, Tryz.f193, valC, hT, q3, o3_0, o3_1, oz3_0, oz3_1]
 exact ⟨_, hA, hnd, hge⟩
theorem oI : dh 109 (.slice shChange) :=
 jQ (f := 109) (g := 193) (tS := 27) (tE := 241) (tS2 := 39) (tE2 := 164) (F := Tryz.f109) (op_ren (c := pO) (by kernel_rfl) Jr) rfl Jp (by rw [jW]; rfl) (by rw [jW]; rfl) (by rw [jW]; decide) (by decide) DZ l9 rfl vJ
theorem oK : dh 46 shChanges := by
 intro H cs u h hwt
 replace h := At_st.1 h
 obtain ⟨us, rfl, h⟩ := h
 replace h := Ats_cons.1 h
 obtain ⟨c0, d0, u0, rr0, rfl, rfl, h0, h⟩ := h
 replace h := Ats_cons.1 h
 obtain ⟨c1, d1, u1, rr1, rfl, rfl, h1, h⟩ := h
 replace h := Ats_nil.1 h
 obtain ⟨rfl, rfl⟩ := h
 replace h0 := At_int.1 h0
 obtain ⟨n0, rfl, rfl, w0⟩ := h0
 have k1 := h1
 replace h1 := At_slice.1 h1
 obtain ⟨v1, l1, rfl, rfl, w1, hv1⟩ := h1
 have o1 := hv1.one
 simp only [wt_st, wts_cons, wts_nil, wt_str, wt_int, wt_bool] at hwt
 obtain ⟨T1, x1, G1, q1, a1, m1, g1⟩ := oI (H) _ _ (k1) (by first | omega | (simp only [wt_st, wts_cons, wts_nil, wt_str, wt_int, wt_bool]; omega))
 have y1 := a1
 obtain ⟨z1, _, rfl, zz1, _, _⟩ := AtF_slice.1 y1
 cases zz1
 have oz1 := (At_slice.1 (AtF.at _ a1))
 obtain ⟨_, _, x1, x2, _, oz1⟩ := oz1
 cases x1
 cases x2
 have oz1 := oz1.one
 simp only [valC, List.headD_cons, List.append_nil, List.cons_append, List.nil_append, List.append_assoc] at q1
 have hA : AtF (H ++ T1) shChanges _ _ _ := AtF_st.2 ⟨_, rfl, AtsF_cons.2 ⟨[_], _, _, _, [], _, rfl, rfl, rfl, AtF_int.2 ⟨⟨_, rfl, rfl, w0⟩, rfl⟩, AtsF_cons.2 ⟨[_], _, _, _, G1, _, rfl, rfl, rfl, (a1), AtsF_nil.2 ⟨rfl, rfl, rfl⟩⟩⟩⟩
 simp only [List.append_assoc, List.nil_append, List.append_nil] at hA
 skip
 have hge : ∀ q ∈ G1, H.length ≤ q := by
  intro q hq
  try simp only [List.mem_append] at hq
  ·have := g1 q hq; omega
 have hnd : (G1).Nodup := by
  have b1 := AtF.mem _ a1
  exact m1
 obtain ⟨T, hT, hA⟩ := gcH_to hA hge
 simp only [List.cons_append, List.nil_append, List.append_nil] at hT
 apply Ret.to
 rw [PG]
 simp [wP, Tryz.f46, valC, hT, q1, o1, oz1]
 exact ⟨_, hA, hnd, hge⟩
theorem dR : dh 10 shServer := by
 intro H cs u h hwt
 replace h := At_st.1 h
 obtain ⟨us, rfl, h⟩ := h
 replace h := Ats_cons.1 h
 obtain ⟨c0, d0, u0, rr0, rfl, rfl, h0, h⟩ := h
 replace h := Ats_cons.1 h
 obtain ⟨c1, d1, u1, rr1, rfl, rfl, h1, h⟩ := h
 replace h := Ats_cons.1 h
 obtain ⟨c2, d2, u2, rr2, rfl, rfl, h2, h⟩ := h
 replace h := Ats_cons.1 h
 obtain ⟨c3, d3, u3, rr3, rfl, rfl, h3, h⟩ := h
 replace h := Ats_nil.1 h
 obtain ⟨rfl, rfl⟩ := h
 have k0 := h0
 replace h0 := At_st.1 h0
 obtain ⟨us0_, rfl, h0⟩ := h0
 replace h0 := Ats_cons.1 h0
 obtain ⟨c0_0, d0_0, u0_0, rr0_0, rfl, rfl, h0_0, h0⟩ := h0
 replace h0 := Ats_cons.1 h0
 obtain ⟨c0_1, d0_1, u0_1, rr0_1, rfl, rfl, h0_1, h0⟩ := h0
 replace h0 := Ats_nil.1 h0
 obtain ⟨rfl, rfl⟩ := h0
 have k0_0 := h0_0
 replace h0_0 := At_slice.1 h0_0
 obtain ⟨v0_0, l0_0, rfl, rfl, w0_0, hv0_0⟩ := h0_0
 have o0_0 := hv0_0.one
 have k0_1 := h0_1
 replace h0_1 := At_slice.1 h0_1
 obtain ⟨v0_1, l0_1, rfl, rfl, w0_1, hv0_1⟩ := h0_1
 have o0_1 := hv0_1.one
 have k1 := h1
 replace h1 := At_slice.1 h1
 obtain ⟨v1, l1, rfl, rfl, w1, hv1⟩ := h1
 have o1 := hv1.one
 have k2 := h2
 replace h2 := At_st.1 h2
 obtain ⟨us2_, rfl, h2⟩ := h2
 replace h2 := Ats_cons.1 h2
 obtain ⟨c2_0, d2_0, u2_0, rr2_0, rfl, rfl, h2_0, h2⟩ := h2
 replace h2 := Ats_cons.1 h2
 obtain ⟨c2_1, d2_1, u2_1, rr2_1, rfl, rfl, h2_1, h2⟩ := h2
 replace h2 := Ats_nil.1 h2
 obtain ⟨rfl, rfl⟩ := h2
 replace h2_0 := At_int.1 h2_0
 obtain ⟨n2_0, rfl, rfl, w2_0⟩ := h2_0
 have k2_1 := h2_1
 replace h2_1 := At_slice.1 h2_1
 obtain ⟨v2_1, l2_1, rfl, rfl, w2_1, hv2_1⟩ := h2_1
 have o2_1 := hv2_1.one
 replace h3 := At_str.1 h3
 obtain ⟨s3, rfl, rfl, w3⟩ := h3
 simp only [wt_st, wts_cons, wts_nil, wt_str, wt_int, wt_bool] at hwt
 obtain ⟨T0, x0, G0, q0, a0, m0, g0⟩ := zL (H) _ _ (k0) (by first | omega | (simp only [wt_st, wts_cons, wts_nil, wt_str, wt_int, wt_bool]; omega))
 obtain ⟨FY0, hFY0⟩ : ∃ F, F = G0 := ⟨_, rfl⟩
 have y0 := a0
 rw [← hFY0] at y0
 replace y0 := AtF_st.1 y0
 obtain ⟨usz0_, hu_, y0⟩ := y0
 cases hu_
 replace y0 := AtsF_cons.1 y0
 obtain ⟨cz0_0, dz0_0, uz0_0, rrz0_0, Fz0_0, Ez0_0, rfl, hu_, rfl, hz0_0, y0⟩ := y0
 cases hu_
 replace y0 := AtsF_cons.1 y0
 obtain ⟨cz0_1, dz0_1, uz0_1, rrz0_1, Fz0_1, Ez0_1, rfl, hu_, rfl, hz0_1, y0⟩ := y0
 cases hu_
 replace y0 := AtsF_nil.1 y0
 obtain ⟨rfl, hu_, rfl⟩ := y0
 cases hu_
 have kz0_0 := hz0_0
 replace hz0_0 := AtF_slice.1 hz0_0
 obtain ⟨vz0_0, lz0_0, rfl, hu_, wz0_0, hvz0_0⟩ := hz0_0
 cases hu_
 have oz0_0 := (At_slice.1 (AtF.at _ kz0_0))
 obtain ⟨_, _, x1, x2, _, oz0_0⟩ := oz0_0
 cases x1
 cases x2
 have oz0_0 := oz0_0.one
 have kz0_1 := hz0_1
 replace hz0_1 := AtF_slice.1 hz0_1
 obtain ⟨vz0_1, lz0_1, rfl, hu_, wz0_1, hvz0_1⟩ := hz0_1
 cases hu_
 have oz0_1 := (At_slice.1 (AtF.at _ kz0_1))
 obtain ⟨_, _, x1, x2, _, oz0_1⟩ := oz0_1
 cases x1
 cases x2
 have oz0_1 := oz0_1.one
 simp only [valC, List.headD_cons, List.append_nil, List.cons_append, List.nil_append, List.append_assoc] at q0
 obtain ⟨T1, x1, G1, q1, a1, m1, g1⟩ := xY (H ++ T0) _ _ (k1.ext) (by first | omega | (simp only [wt_st, wts_cons, wts_nil, wt_str, wt_int, wt_bool]; omega))
 have y1 := a1
 obtain ⟨z1, _, rfl, zz1, _, _⟩ := AtF_slice.1 y1
 cases zz1
 have oz1 := (At_slice.1 (AtF.at _ a1))
 obtain ⟨_, _, x1, x2, _, oz1⟩ := oz1
 cases x1
 cases x2
 have oz1 := oz1.one
 simp only [valC, List.headD_cons, List.append_nil, List.cons_append, List.nil_append, List.append_assoc] at q1
 obtain ⟨T2, x2, G2, q2, a2, m2, g2⟩ := oK (H ++ T0 ++ T1) _ _ (k2.ext.ext) (by first | omega | (simp only [wt_st, wts_cons, wts_nil, wt_str, wt_int, wt_bool]; omega))
 obtain ⟨FY2, hFY2⟩ : ∃ F, F = G2 := ⟨_, rfl⟩
 have y2 := a2
 rw [← hFY2] at y2
 replace y2 := AtF_st.1 y2
 obtain ⟨usz2_, hu_, y2⟩ := y2
 cases hu_
 replace y2 := AtsF_cons.1 y2
 obtain ⟨cz2_0, dz2_0, uz2_0, rrz2_0, Fz2_0, Ez2_0, rfl, hu_, rfl, hz2_0, y2⟩ := y2
 cases hu_
 replace y2 := AtsF_cons.1 y2
 obtain ⟨cz2_1, dz2_1, uz2_1, rrz2_1, Fz2_1, Ez2_1, rfl, hu_, rfl, hz2_1, y2⟩ := y2
 cases hu_
 replace y2 := AtsF_nil.1 y2
 obtain ⟨rfl, hu_, rfl⟩ := y2
 cases hu_
 replace hz2_0 := AtF_int.1 hz2_0
 obtain ⟨⟨nz2_0, rfl, hu_, wz2_0⟩, rfl⟩ := hz2_0
 cases hu_
 have kz2_1 := hz2_1
 replace hz2_1 := AtF_slice.1 hz2_1
 obtain ⟨vz2_1, lz2_1, rfl, hu_, wz2_1, hvz2_1⟩ := hz2_1
 cases hu_
 have oz2_1 := (At_slice.1 (AtF.at _ kz2_1))
 obtain ⟨_, _, x1, x2, _, oz2_1⟩ := oz2_1
 cases x1
 cases x2
 have oz2_1 := oz2_1.one
 simp only [valC, List.headD_cons, List.append_nil, List.cons_append, List.nil_append, List.append_assoc] at q2
 have hA : AtF (H ++ T0 ++ T1 ++ T2) shServer _ _ _ := AtF_st.2 ⟨_, rfl, AtsF_cons.2 ⟨_, _, _, _, G0, _, rfl, rfl, rfl, (a0.app.app), AtsF_cons.2 ⟨[_], _, _, _, G1, _, rfl, rfl, rfl, (a1.app), AtsF_cons.2 ⟨_, _, _, _, G2, _, rfl, rfl, rfl, (a2), AtsF_cons.2 ⟨[_], _, _, _, [], _, rfl, rfl, rfl, AtF_str.2 ⟨⟨_, rfl, rfl, w3⟩, rfl⟩, AtsF_nil.2 ⟨rfl, rfl, rfl⟩⟩⟩⟩⟩⟩
 simp only [List.append_assoc, List.nil_append, List.append_nil] at hA
 simp only [List.length_append] at g0 g1 g2
 have hge : ∀ q ∈ G0 ++ (G1 ++ (G2)), H.length ≤ q := by
  intro q hq
  try simp only [List.mem_append] at hq
  rcases hq with hq | hq | hq
  ·have := g0 q hq; omega
  ·have := g1 q hq; omega
  ·have := g2 q hq; omega
 have hnd : (G0 ++ (G1 ++ (G2))).Nodup := by
  have b0 := AtF.mem _ a0
  have b1 := AtF.mem _ a1
  have b2 := AtF.mem _ a2
  simp only [List.length_append] at b0 b1 b2
  refine List.nodup_append.2 ⟨m0, ?_, fun x hx y hy e => ?_⟩
  rotate_left
  ·subst e
   have := b0 x hx
   try simp only [List.mem_append] at hy
   rcases hy with hy | hy
   ·have := g1 x hy; omega
   ·have := g2 x hy; omega
  refine List.nodup_append.2 ⟨m1, ?_, fun x hx y hy e => ?_⟩
  rotate_left
  ·subst e
   have := b1 x hx
   try simp only [List.mem_append] at hy
   ·have := g2 x hy; omega
  exact m2
 obtain ⟨T, hT, hA⟩ := gcH_to hA hge
 simp only [List.cons_append, List.nil_append, List.append_nil] at hT
 apply Ret.to
 rw [Qz]
 simp [zh, Tryz.f10, valC, hT, q0, q1, q2, o0_0, o0_1, o1, o2_1, oz0_0, oz0_1, oz1, oz2_1]
 exact ⟨_, hA, hnd, hge⟩
end Go.Proofs.Try1
end
section
namespace Go.Proofs.Try1
open Go Go.Lite
attribute [-simp] WP_region WP_cond
attribute [local simp] WP_regionF WP_condF ThenW_some ThenW_none CondW_true CondW_false
attribute [local simp low] CondW_bool
theorem dC {H : List Ob} {c0 : List V} {u0 : U} {s1 : Int} {uR : U} (h0 : At H shServer c0 u0)
  (hS : wt u0 ≤ 1048576 → ∀ (G : List Ob) (x0 : List V), At G shServer x0 u0 → ∃ G' y, callW C 26 [valC shServer x0, .int .i64 s1] G = some (valC ai y, G') ∧ Le G G' ∧ At G' ai y uR)
  (hI : wt u0 ≤ 1048576 → ∀ (G : List Ob) (x0 : List V), At G shServer x0 u0 → ∃ G' y, callW C 27 [valC shServer x0, .int .i64 s1] G = some (valC ai y, G') ∧ Le G G' ∧ New G.length G'.length G' ai y uR)
  (hR : wt u0 ≤ 1048576 → 1 + cntV uR ≤ 50000000) : Ret C 5 [valC shServer c0, .int .i64 s1] H fun r _ => r = .bool true := by
 rw [Rq]
 obtain ⟨c0_0, c0_1, c0_2, c0_3, c0_4, c0_5, rfl⟩ := list6 (At.len _ h0 : _ = 6)
 have on0 := ones_all h0
 simp only [List.mem_cons, List.not_mem_nil, or_false, forall_eq_or_imp, forall_eq] at on0
 simp only [valC, List.headD_cons]
 have b0 := wC H [c0_0, c0_1, c0_2, c0_3, c0_4, c0_5] _ (1048576) h0 (by omega)
 simp only [valC, List.headD_cons] at b0
 by_cases g0 : wt u0 ≤ 1048576
 rotate_left
 ·rw [if_neg g0] at b0
  simp at b0
  simp [yH, Tryz.f5, on0, b0]
 rw [if_pos g0] at b0
 have hw0 : wt u0 ≤ 1048576 := by omega
 have p0 : ¬ (((1048576 - wt u0 : Nat) : Int) < 0) := by omega
 obtain ⟨LL0, hLL0⟩ : ∃ n, n = 1048576 - wt u0 := ⟨_, rfl⟩
 rw [← hLL0] at b0 p0
 have q0 : LL0 + wt u0 = 1048576 := by omega
 have hR := hR hw0
 have L0 : Le H H := Le.refl
 obtain ⟨G1, y0, k1, s1, n1⟩ := toN dR (h0.Le L0) hw0
 have l1 := s1.len
 have L1 := L0.trans s1
 obtain ⟨y0_0, y0_1, y0_2, y0_3, y0_4, y0_5, rfl⟩ := list6 (At.len _ n1.at : _ = 6)
 have o1 := ones_all n1.at
 simp only [List.mem_cons, List.not_mem_nil, or_false, forall_eq_or_imp, forall_eq] at o1
 simp only [valC, List.headD_cons] at k1
 obtain ⟨G2, w, k2, s2, n2⟩ := hS hw0 _ [y0_0, y0_1, y0_2, y0_3, y0_4, y0_5] (n1.at.Le Le.refl)
 have l2 := s2.len
 have L2 := L1.trans s2
 obtain ⟨w_0, w_1, w_2, w_3, w_4, w_5, w_6, w_7, w_8, w_9, rfl⟩ := oQ (At.len _ n2 : _ = 10)
 have o2 := ones_all n2
 simp only [List.mem_cons, List.not_mem_nil, or_false, forall_eq_or_imp, forall_eq] at o2
 simp only [valC, List.headD_cons] at k2
 obtain ⟨G3, z0, k3, s3, n3⟩ := toN dR (h0.Le L2) hw0
 have l3 := s3.len
 have L3 := L2.trans s3
 obtain ⟨z0_0, z0_1, z0_2, z0_3, z0_4, z0_5, rfl⟩ := list6 (At.len _ n3.at : _ = 6)
 have o3 := ones_all n3.at
 simp only [List.mem_cons, List.not_mem_nil, or_false, forall_eq_or_imp, forall_eq] at o3
 simp only [valC, List.headD_cons] at k3
 obtain ⟨G4, g, k4, s4, n4⟩ := hI hw0 _ [z0_0, z0_1, z0_2, z0_3, z0_4, z0_5] (n3.at.Le Le.refl)
 have l4 := s4.len
 have L4 := L3.trans s4
 obtain ⟨g_0, g_1, g_2, g_3, g_4, g_5, g_6, g_7, g_8, g_9, rfl⟩ := oQ (At.len _ n4.at : _ = 10)
 have o4 := ones_all n4.at
 simp only [List.mem_cons, List.not_mem_nil, or_false, forall_eq_or_imp, forall_eq] at o4
 simp only [valC, List.headD_cons] at k4
 have k5 := eqN dA n4.at (n2.Le (Le.trans s3 s4))
 simp only [valC, List.headD_cons] at k5
 obtain ⟨G5, v0, k6, s5, n5⟩ := toN dR (h0.Le L4) hw0
 have l5 := s5.len
 have L5 := L4.trans s5
 obtain ⟨v0_0, v0_1, v0_2, v0_3, v0_4, v0_5, rfl⟩ := list6 (At.len _ n5.at : _ = 6)
 have o5 := ones_all n5.at
 simp only [List.mem_cons, List.not_mem_nil, or_false, forall_eq_or_imp, forall_eq] at o5
 simp only [valC, List.headD_cons] at k6
 have k7 := eqN jK (n3.at.Le (Le.trans s4 s5)) n5.at
 simp only [valC, List.headD_cons] at k7
 have hsum : wt u0 ≤ 1048576 := by omega
 have cb0 := cntV_bound h0 40 (by decide)
 have m3 := n3.Le (Le.trans s4 s5)
 have mR := n4.Le s5
 obtain ⟨M0, k8, ml0, mf0, mn0⟩ := QV (k := 1) kz m3 (by omega)
 simp only [valC, List.headD_cons] at k8
 have mR := New.frame (G' := M0) mR (fun q h1 h2 => mf0 q (by omega))
 obtain ⟨K0, hK0⟩ : ∃ n, n = 1 + cntV u0 := ⟨_, rfl⟩
 rw [← hK0] at k8
 have hKb : K0 ≤ 50000000 := by omega
 have pK : ¬ ((K0 : Int) < 0) := by omega
 have upS : Up G2 M0 := fun q o hq => by
  have hql := (List.getElem?_eq_some_iff.1 hq).1
  rw [mf0 q (.inl (by omega))]
  exact ((Le.trans (Le.trans s3 s4) s5) : Le _ _).up q o hq
 have k9 := eqN dA mR.at (n2.Up upS)
 simp only [valC, List.headD_cons] at k9
 obtain ⟨Q, k10, ql, qf, qn⟩ := QV (k := 1) lg mR hR
 simp only [valC, List.headD_cons] at k10
 have upQ : Up G2 Q := fun q o hq => by
  have hql := (List.getElem?_eq_some_iff.1 hq).1
  rw [qf q (.inl (by omega))]
  exact upS q o hq
 have upH : Up H Q := L2.up.trans upQ
 have k11 := dK Q [g_0, g_1, g_2, g_3, g_4, g_5, g_6, g_7, g_8, g_9] _ 1 qn.at hR
 simp only [valC, List.headD_cons] at k11
 have R0 : Le Q Q := Le.refl
 have L6 := R0
 obtain ⟨G7, zz0, k12, s7, n7⟩ := toN dR ((h0.Up upH).Le L6) hw0
 have l7 := s7.len
 have L7 := L6.trans s7
 obtain ⟨zz0_0, zz0_1, zz0_2, zz0_3, zz0_4, zz0_5, rfl⟩ := list6 (At.len _ n7.at : _ = 6)
 have o7 := ones_all n7.at
 simp only [List.mem_cons, List.not_mem_nil, or_false, forall_eq_or_imp, forall_eq] at o7
 simp only [valC, List.headD_cons] at k12
 obtain ⟨G8, gg, k13, s8, n8⟩ := hI hw0 _ [zz0_0, zz0_1, zz0_2, zz0_3, zz0_4, zz0_5] (n7.at.Le Le.refl)
 have l8 := s8.len
 have L8 := L7.trans s8
 obtain ⟨gg_0, gg_1, gg_2, gg_3, gg_4, gg_5, gg_6, gg_7, gg_8, gg_9, rfl⟩ := oQ (At.len _ n8.at : _ = 10)
 have o8 := ones_all n8.at
 simp only [List.mem_cons, List.not_mem_nil, or_false, forall_eq_or_imp, forall_eq] at o8
 simp only [valC, List.headD_cons] at k13
 have k14 := eqN dA n8.at ((n2.Up upQ).Le L8)
 simp only [valC, List.headD_cons] at k14
 have k15 := dK G8 [g_0, g_1, g_2, g_3, g_4, g_5, g_6, g_7, g_8, g_9] _ 1 (qn.at.Le L8) hR
 simp only [valC, List.headD_cons] at k15
 obtain ⟨KR, hKR⟩ : ∃ n, n = 1 + cntV uR := ⟨_, rfl⟩
 rw [← hKR] at k10
 rw [← hKR] at k11
 rw [← hKR] at k15
 have pR : ¬ ((KR : Int) < 0) := by omega
 clear upS upQ upH
 simp at b0 k8 k10 k11 k15
 simp (maxSteps := 2000000) [yH, Tryz.f5, on0, b0, p0, k1, o1, k2, o2, k3, o3, k4, o4, k5, k6, o5, k7, k8, pK, k9, k10, k11, k12, o7, k13, o8, k14, k15, pR, regionL_none, regionL_some, List.lookup]
end Go.Proofs.Try1
end
section
namespace Go.Proofs.Try1
open Go Go.Lite
theorem zS {H : List Ob} {vl : V} {l : List PChange} (h : AChanges H vl l) (hb : dX l) :
  ∃ T w, callW C 249 [vl] H = some (w, H ++ T) ∧ LstF H (H ++ T) shChange PChange.u w l ∧ ¬ lowV H w := by
 suffices hs : Ret C 249 [vl] H fun q H' => ∃ T, H' = H ++ T ∧ LstF H (H ++ T) shChange PChange.u q l ∧ ¬ lowV H q by
  obtain ⟨q, H', hc, T, rfl, hr⟩ := hs
  exact ⟨T, q, hc, hr⟩
 rw [Ey]
 have hbl := hb.1
 simp [qj, Tryz.f249, elemT, fillL, zerosL, St.new, h.len]
 refine WP_loop (fun k σ => ∃ (i n : Nat) (r : Nat → R) (G : List Ob) (w : V), i + k = l.length ∧ σ = ⟨r, n, G⟩ ∧ r 3 = .val w ∧ r 7 = .val vl ∧ r 8 = .val (.int .i64 l.length) ∧ r 9 = .val (.int .i64 i) ∧ LstF H G shChange PChange.u w (l.take i) ∧ ¬ lowV H w) ?_ l.length _ ⟨0, _, _, H ++ [.mk true 5 []], .slc (some (H.length, 0)) 0, by simp, rfl, by simp, by simp, by simp, by simp, by rw [List.take_zero]; exact LstF.init (sh := shChange), fun ⟨own, es, cells, h⟩ => by simp at h⟩
 rintro k σ ⟨i, n, r, G, w, hik, rfl, r3, r7, r8, r9, hG, hnl⟩
 obtain ⟨S, hS⟩ := hG.pre
 have hlG : AChanges G vl l := by rw [hS]; exact h.ext
 have hwo := hG.one
 cases k with
 | zero =>
  have hi : i = l.length := by omega
  subst hi
  rw [List.take_length] at hG
  have hg : gcH H G w = G := gcH_not hnl
  simp [r3, r7, r8, r9, hg, hwo]
  exact ⟨S, hS, by rw [← hS]; exact hG, hnl⟩
 | succ k =>
  have hi : i < l.length := by omega
  obtain ⟨x, hx⟩ : ∃ c, l[i]? = some c := ⟨l[i], by simp [hi]⟩
  have hw : IntKind.i64.wrap ((i : Int) + 1) = ((i : Int) + 1) := wrap_i64 (by omega) (by omega)
  obtain ⟨id, o, own, cells, e1, e2, e3, e4⟩ := ASl.idx hlG hx (by decide)
  rw [show shChange.size = 5 from rfl] at e1 e2 e3 e4
  obtain ⟨v1, v2, e4, q1, q2, q3, a1, a2⟩ := change_at.1 e4
  have lm := loadN e2 e3 (by decide) e4
  have hid := (List.getElem?_eq_some_iff.1 e2).1
  obtain ⟨T2, y1, y2, c2, n2⟩ := mV a1 a2 (hb.2 x (List.mem_of_getElem? hx))
  obtain ⟨_, _, hcy, b1, b2⟩ := entry_at.1 n2.at
  cases hcy
  obtain ⟨w', G', a3, hG', _, _⟩ := hG.push (T := T2) (d := .struct [(0, 2), (1, 2), (2, 9), (3, 155)]) (by_ := 80) (z := [.int .i64 0, .int .i64 0, .str [], .slc none 0, .slc none 0]) (sz := 5) (jr q1 q2 q3 n2 (by simp)) rfl rfl (by decide) (by decide) (by decide) (by simp; unfold maxMade; omega)
  rw [← take_get hx] at hG'
  have hw' := hG'.one
  have o1 := a1.one
  have o2 := a2.one
  have p1 := b1.one
  have p2 := b2.one
  have hnl' : ¬ lowV H w' := by
   rcases hG'.2 with ⟨_, h0⟩ | ⟨id', cs, Fs, g1, g2, rfl, _⟩
   ·have := congrArg List.length h0; rw [List.length_take, List.length_nil] at this; omega
   ·rintro ⟨own, es, cells, hh⟩
    have := (List.getElem?_eq_some_iff.1 hh).1
    omega
  simp only [List.append_assoc, List.length_append] at a3
  simp [r3, r7, r8, r9, hi, e1, lm, hid, c2, a3, elemT, fillL, zerosL, St.new, buildV, structPlace, o1, o2, p1, p2, hwo, hw', hw, setRange]
  exact ⟨k, by omega, i + 1, by omega, _, _, _, ⟨rfl, rfl, rfl⟩, w', by simp, by simp [r7], by simp [r8], by simp, hG', hnl'⟩
theorem uU {H : List Ob} {vl : V} {l : List PRule} (h : ARules H vl l) (hb : lD l) :
  ∃ T w, callW C 165 [vl] H = some (w, H ++ T) ∧ New H.length (H ++ T).length (H ++ T) (.slice shRule) [w] (.lst (l.map PRule.u)) ∧ ¬ lowV H w := by
 suffices hs : Ret C 165 [vl] H fun q H' => ∃ T, H' = H ++ T ∧ New H.length (H ++ T).length (H ++ T) (.slice shRule) [q] (.lst (l.map PRule.u)) ∧ ¬ lowV H q by
  obtain ⟨q, H', hc, T, rfl, hr⟩ := hs
  exact ⟨T, q, hc, hr⟩
 rw [Jt]
 have hbl := hb.1
 simp [qQ, Tryz.f165, elemT, fillL, zerosL, St.new, h.len]
 refine WP_loop (fun k σ => ∃ (i n : Nat) (r : Nat → R) (G : List Ob) (w : V), i + k = l.length ∧ σ = ⟨r, n, G⟩ ∧ r 3 = .val w ∧ r 7 = .val vl ∧ r 8 = .val (.int .i64 l.length) ∧ r 9 = .val (.int .i64 i) ∧ LstF H G shRule PRule.u w (l.take i) ∧ ¬ lowV H w) ?_ l.length _ ⟨0, _, _, H ++ [.mk true 5 []], .slc (some (H.length, 0)) 0, by simp, rfl, by simp, by simp, by simp, by simp, by rw [List.take_zero]; exact LstF.init (sh := shRule), fun ⟨own, es, cells, h⟩ => by simp at h⟩
 rintro k σ ⟨i, n, r, G, w, hik, rfl, r3, r7, r8, r9, hG, hnl⟩
 obtain ⟨S, hS⟩ := hG.pre
 have hlG : ARules G vl l := by rw [hS]; exact h.ext
 have hwo := hG.one
 cases k with
 | zero =>
  have hi : i = l.length := by omega
  subst hi
  rw [List.take_length] at hG
  have n2 := hG.new h.bound
  have hg : gcH H G w = G := gcH_not hnl
  simp [r3, r7, r8, r9, hg, hwo]
  exact ⟨S, hS, by rw [← List.length_append, ← hS]; exact n2, hnl⟩
 | succ k =>
  have hi : i < l.length := by omega
  obtain ⟨x, hx⟩ : ∃ c, l[i]? = some c := ⟨l[i], by simp [hi]⟩
  have hw : IntKind.i64.wrap ((i : Int) + 1) = ((i : Int) + 1) := wrap_i64 (by omega) (by omega)
  obtain ⟨id, o, own, cells, e1, e2, e3, e4⟩ := ASl.idx hlG hx (by decide)
  rw [show shRule.size = 5 from rfl] at e1 e2 e3 e4
  obtain ⟨v1, v2, e4, q1, a1, a2, q2⟩ := rule_at.1 e4
  have lm := loadN e2 e3 (by decide) e4
  have hid := (List.getElem?_eq_some_iff.1 e2).1
  have hbx := hb.2 x (List.mem_of_getElem? hx)
  obtain ⟨T1, y1, c1, n1⟩ := mG (H := G) a1 hbx.1
  obtain ⟨K, hK⟩ : ∃ K, K = G ++ T1 := ⟨_, rfl⟩
  rw [← hK] at c1 n1
  obtain ⟨T2, y2, c2, n2⟩ := dD (H := K) (by rw [hK]; exact a2.ext) hbx.2
  have hn : New G.length (K ++ T2).length (G ++ (T1 ++ T2)) shRule [.str x.who, y1, y2, .int .i64 x.right, .bool x.allow] x.u := by
   rw [← List.append_assoc, ← hK]
   exact mf (m := K.length) q1 q2 n1.ext n2 (by rw [hK]; simp) (by simp)
  obtain ⟨w', G', a3, hG', _, _⟩ := hG.push (T := T1 ++ T2) (d := .struct [(0, 9), (1, 56), (2, 148), (3, 2), (4, 4)]) (by_ := 80) (z := [.str [], .slc none 0, .slc none 0, .int .i64 0, .bool false]) (sz := 5) hn rfl rfl (by decide) (by decide) (by decide) (by simp; unfold maxMade; omega)
  rw [← take_get hx] at hG'
  rw [← List.append_assoc, ← hK] at a3
  have hw' := hG'.one
  have o1 := a1.one
  have o2 := a2.one
  have p1 := New.one1 n1
  have p2 := New.one1 n2
  have hnl' : ¬ lowV H w' := by
   rcases hG'.2 with ⟨_, h0⟩ | ⟨id', cs, Fs, g1, g2, rfl, _⟩
   ·have := congrArg List.length h0; rw [List.length_take, List.length_nil] at this; omega
   ·rintro ⟨own, es, cells, hh⟩
    have := (List.getElem?_eq_some_iff.1 hh).1
    omega
  simp only [List.append_assoc, List.length_append] at a3
  simp [r3, r7, r8, r9, hi, e1, lm, hid, c1, c2, a3, elemT, fillL, zerosL, St.new, buildV, structPlace, o1, o2, p1, p2, hwo, hw', hw, setRange, regionL_none, regionL_some, List.lookup]
  exact ⟨k, by omega, i + 1, by omega, _, _, _, ⟨rfl, rfl, rfl⟩, w', by simp, by simp [r7], by simp [r8], by simp, hG', hnl'⟩
end Go.Proofs.Try1
end
section
namespace Go.Proofs.Try1
open Go Go.Lite
attribute [-simp] WP_region WP_cond
attribute [local simp] WP_regionF WP_condF ThenW_some ThenW_none CondW_true CondW_false
attribute [local simp low] CondW_bool
theorem vI {n : Int} {H : List Ob} : callW C 204 [.int .i64 n] H = some (.bool (dec (1 ≤ n ∧ n ≤ 4)), H) := by
 apply Ret.eq
 rw [Ik]
 have c1 := fU (n := n) (a := 1) (b := 4) (H := H)
 simp [rJ, Tryz.f204, c1]
theorem DL {H : List Ob} {w1 w2 : V} {x : PRule} (h1 : ARdns H w1 x.base) (h2 : AStrs H w2 x.attrs) : callW C 118 [.agg [.str x.who, w1, w2, .int .i64 x.right, .bool x.allow]] H = some (.bool (dec (RuleOk x)), H) := by
 apply Ret.dec
 rw [Gi]
 have o1 := h1.one
 have o2 := h2.one
 have c1 := fK (t := x.who) (H := H)
 have c2 := Dw h1
 have c3 := sV h2
 have c4 := vI (n := x.right) (H := H)
 have key : ∀ b : Bool, (b = true ↔ (x.who = [42] ∨ NameOk x.who)) → ((x.who = [42] ∧ b = true) ∨ (¬ x.who = [42] ∧ b = dec (NameOk x.who))) := fun b hb => by
  by_cases h : x.who = [42]
  ·exact .inl ⟨h, hb.2 (.inl h)⟩
  ·refine .inr ⟨h, ?_⟩
   cases b with
   | true => rw [dec_pos ((hb.1 rfl).resolve_left h)]
   | false => rw [dec_neg fun g => by have := hb.2 (.inr g); cases this]
 by_cases g1 : x.who = [42] ∨ NameOk x.who
 rotate_left
 ·have g0 : ¬ x.who = [42] := fun h => g1 (.inl h)
  rw [dec_neg fun h => g1 (.inr h)] at c1
  simp [aI, Tryz.f118, o1, o2, c1, g0]
  exact fun h => g1 h.1
 by_cases g2 : DnOk x.base
 rotate_left
 ·rw [dec_neg g2] at c2
  have hn : ¬ RuleOk x := fun h => g2 h.2.1
  rcases key true (by simp [g1]) with ⟨k1, _⟩ | ⟨k1, k2⟩
  ·simp [aI, Tryz.f118, o1, o2, k1, c2, hn]
  ·rw [← k2] at c1
   simp [aI, Tryz.f118, o1, o2, k1, c1, c2, hn]
 rw [dec_pos g2] at c2
 by_cases g3 : x.attrs.length ≤ 8
 rotate_left
 ·have g3' : ¬ (x.attrs.length : Int) ≤ 8 := by omega
  have hn : ¬ RuleOk x := fun h => g3 h.2.2.1
  rcases key true (by simp [g1]) with ⟨k1, _⟩ | ⟨k1, k2⟩
  ·simp [aI, Tryz.f118, o1, o2, k1, c2, h2.len, g3', hn]
  ·rw [← k2] at c1
   simp [aI, Tryz.f118, o1, o2, k1, c1, c2, h2.len, g3', hn]
 have g3' : (x.attrs.length : Int) ≤ 8 := by omega
 by_cases g4 : NamesOk x.attrs
 rotate_left
 ·rw [dec_neg g4] at c3
  have hn : ¬ RuleOk x := fun h => g4 h.2.2.2.1
  rcases key true (by simp [g1]) with ⟨k1, _⟩ | ⟨k1, k2⟩
  ·simp [aI, Tryz.f118, o1, o2, k1, c2, c3, h2.len, g3', hn]
  ·rw [← k2] at c1
   simp [aI, Tryz.f118, o1, o2, k1, c1, c2, c3, h2.len, g3', hn]
 rw [dec_pos g4] at c3
 by_cases g5 : 1 ≤ x.right ∧ x.right ≤ 4
 rotate_left
 ·rw [dec_neg g5] at c4
  have hn : ¬ RuleOk x := fun h => g5 h.2.2.2.2
  rcases key true (by simp [g1]) with ⟨k1, _⟩ | ⟨k1, k2⟩
  ·simp [aI, Tryz.f118, o1, o2, k1, c2, c3, c4, h2.len, g3', hn]
  ·rw [← k2] at c1
   simp [aI, Tryz.f118, o1, o2, k1, c1, c2, c3, c4, h2.len, g3', hn]
 rw [dec_pos g5] at c4
 have hy : RuleOk x := ⟨g1, g2, g3, g4, g5⟩
 rcases key true (by simp [g1]) with ⟨k1, _⟩ | ⟨k1, k2⟩
 ·simp [aI, Tryz.f118, o1, o2, k1, c2, c3, c4, h2.len, g3', hy]
 ·rw [← k2] at c1
  simp [aI, Tryz.f118, o1, o2, k1, c1, c2, c3, c4, h2.len, g3', hy]
theorem lG {H : List Ob} {v : V} {l : List PRule} {g : Nat} {a b : List V} (h : ARules H v l) (p : PRule → Bool) (hg : ∀ x ∈ l, ∀ w1 w2, ARdns H w1 x.base → AStrs H w2 x.attrs → callW C g (a ++ ([.agg [.str x.who, w1, w2, .int .i64 x.right, .bool x.allow]] ++ b)) H = some (.bool (p x), H)) :
  ∃ r : Int, callW C 202 [v, .fn g a b] H = some (.int .i64 r, H) ∧ (0 ≤ r ↔ ∃ x ∈ l, p x = true) := by
 suffices hs : Ret C 202 [v, .fn g a b] H fun q H' => (∃ r : Int, q = .int .i64 r ∧ (0 ≤ r ↔ ∃ x ∈ l, p x = true)) ∧ H' = H by
  obtain ⟨q, H', hc, ⟨r, rfl, hr⟩, rfl⟩ := hs
  exact ⟨r, hc, hr⟩
 rw [Gv]
 have hb : l.length ≤ 9223372036854775807 := h.bound
 simp [qo, Tryz.f202, h.len]
 refine WP_loop (fun k σ => ∃ (i : Nat) (r : Nat → R), i + k = l.length ∧ σ = ⟨r, 0, H⟩ ∧ r 0 = .val v ∧ r 1 = .val (.fn g a b) ∧ r 7 = .val (.int .i64 l.length) ∧ r 8 = .val (.int .i64 i) ∧ ∀ j x, j < i → l[j]? = some x → p x = false) ?_ l.length _ ⟨0, _, by simp, rfl, by simp, by simp, by simp, by simp, by simp⟩
 rintro k σ ⟨i, r, hik, rfl, r0, r1, r7, r8, hall⟩
 cases k with
 | zero =>
  have hi : i = l.length := by omega
  subst hi
  have hx := at_all (P := fun j (x : PRule) => p x = false) hall
  simp [r0, r1, r7, r8]
  intro x hm
  obtain ⟨j, hj, rfl⟩ := List.getElem_of_mem hm
  exact hx j _ (List.getElem?_eq_getElem hj)
 | succ k =>
  have hi : i < l.length := by omega
  obtain ⟨x, hx⟩ : ∃ c, l[i]? = some c := ⟨l[i], by simp [hi]⟩
  have hw : IntKind.i64.wrap ((i : Int) + 1) = ((i : Int) + 1) := wrap_i64 (by omega) (by omega)
  obtain ⟨id, o, w1, w2, _, e1, lm, a1, a2⟩ := rules_idx h hx
  have c1 := hg x (List.mem_of_getElem? hx) w1 w2 a1 a2
  simp only [List.singleton_append] at c1
  have ho1 := a1.one
  have ho2 := a2.one
  cases hp : p x with
  | false =>
   rw [hp] at c1
   simp [r0, r1, r7, r8, hi, e1, lm, c1, hw, ho1, ho2]
   exact ⟨k, by omega, i + 1, by omega, by omega, at_step (P := fun j (x : PRule) => p x = false) hall hx hp⟩
  | true =>
   rw [hp] at c1
   simp [r0, r1, r7, r8, hi, e1, lm, c1, hw, ho1, ho2]
   exact ⟨x, List.mem_of_getElem? hx, hp⟩
theorem gK {H : List Ob} {v : V} {l : List PRule} {g : Nat} {a b : List V} (h : ARules H v l) (p : PRule → Bool) (hg : ∀ x ∈ l, ∀ w1 w2, ARdns H w1 x.base → AStrs H w2 x.attrs → callW C g (a ++ ([.agg [.str x.who, w1, w2, .int .i64 x.right, .bool x.allow]] ++ b)) H = some (.bool (p x), H)) :
  callW C 116 [v, .fn g a b] H = some (.bool (dec (∃ x ∈ l, p x = true)), H) := by
 obtain ⟨r, c1, hr⟩ := lG h p hg
 apply Ret.dec
 rw [Jl]
 by_cases g1 : 0 ≤ r
 ·have := hr.1 g1
  simp [lZ, Tryz.f116, c1, g1]
  exact this
 ·have : ¬ ∃ x ∈ l, p x = true := fun h => g1 (hr.2 h)
  simp [lZ, Tryz.f116, c1, g1]
  intro x hx
  cases hp : p x with
  | false => rfl
  | true => exact absurd ⟨x, hx, hp⟩ this
theorem xQ {H : List Ob} {w1 w2 : V} {x : PRule} (h1 : ARdns H w1 x.base) (h2 : AStrs H w2 x.attrs) : callW C 117 [.agg [.str x.who, w1, w2, .int .i64 x.right, .bool x.allow]] H = some (.bool (!dec (RuleOk x)), H) := by
 have c1 := DL h1 h2
 have o1 := h1.one
 have o2 := h2.one
 apply Ret.eq
 rw [IU]
 simp [uo, Tryz.f117, c1, o1, o2]
theorem pI {H : List Ob} {v : V} {l : List PRule} (h : ARules H v l) : callW C 48 [v] H = some (.bool (dec (AclOk l)), H) := by
 have c1 := gK (g := 117) (a := []) (b := []) h (fun x => !dec (RuleOk x)) (fun x _ w1 w2 h1 h2 => xQ h1 h2)
 apply Ret.dec
 rw [Po]
 by_cases g1 : l.length ≤ 10
 rotate_left
 ·have g1' : ¬ (l.length : Int) ≤ 10 := by omega
  simp [lM, Tryz.f48, h.len, g1']
  exact fun h => g1 h.2
 have g1' : (l.length : Int) ≤ 10 := by omega
 by_cases g2 : ∃ x ∈ l, (!dec (RuleOk x)) = true
 ·rw [dec_pos g2] at c1
  have hn : ¬ AclOk l := fun h => by
   obtain ⟨x, hx, hp⟩ := g2
   rw [dec_pos (h.1 x hx)] at hp
   cases hp
  simp [lM, Tryz.f48, h.len, g1', c1, hn]
 ·rw [dec_neg g2] at c1
  have hy : AclOk l := ⟨fun x hx => by
   by_cases hr : RuleOk x
   ·exact hr
   ·exact absurd ⟨x, hx, by rw [dec_neg hr]; rfl⟩ g2, g1⟩
  simp [lM, Tryz.f48, h.len, g1', c1, hy]
theorem jB {H : List Ob} {v : V} {n : Int} {l : List PChange} (h : AChanges H v l) (hs : ∀ x ∈ l, x.dn.length ≤ 2000000) : callW C 49 [.agg [.int .i64 n, v]] H = some (.bool (dec (ChangesOk n l)), H) := by
 apply Ret.dec
 rw [O4]
 have ov := h.one
 have c0 : callW C 119 [v] H = some (.int .i64 l.length, H) := by
  apply Ret.eq
  rw [Gn]
  have hb : l.length ≤ 9223372036854775807 := h.bound
  have hw : IntKind.i64.wrap (l.length : Int) = l.length := wrap_i64 (by omega) (by omega)
  simp [qP, Tryz.f119, h.len, hw]
 have c1 := fU (n := n) (a := 1) (b := 1000000) (H := H)
 by_cases g1 : 1 ≤ n ∧ n ≤ 1000000
 rotate_left
 ·rw [dec_neg g1] at c1
  simp [jA, Tryz.f49, ov, c0, c1]
  exact fun h => g1 h.1
 rw [dec_pos g1] at c1
 by_cases g2 : l.length ≤ 40
 rotate_left
 ·have g2' : (40 : Int) < l.length := by omega
  simp [jA, Tryz.f49, ov, c0, c1, g2']
  exact fun h => g2 h.2.1
 have g2' : ¬ (40 : Int) < l.length := by omega
 by_cases g3 : (l.length : Int) < n
 rotate_left
 ·have g3' : n ≤ (l.length : Int) := by omega
  simp [jA, Tryz.f49, ov, c0, c1, g2', g3']
  exact fun h => g3 h.2.2.1
 have g3' : ¬ n ≤ (l.length : Int) := by omega
 have hw1 : IntKind.i64.wrap (n - (l.length : Int)) = n - (l.length : Int) := wrap_i64 (by omega) (by omega)
 simp [jA, Tryz.f49, ov, c0, c1, h.len, g2', g3']
 refine WP_loop (fun k σ => ∃ (i : Nat) (r : Nat → R), i + k = l.length ∧ σ = ⟨r, 1 + i, H⟩ ∧ r 1 = .box 0 [.int .i64 n, v] ∧ r 3 = .val (.int .i64 l.length) ∧ r 24 = .val v ∧ r 25 = .val (.int .i64 l.length) ∧ r 26 = .val (.int .i64 i) ∧ ∀ (j : Nat) x, j < i → l[j]? = some x → ChangeOk x ∧ x.number = n - l.length + j) ?_ l.length _ ⟨0, _, by simp, by simp; rfl, by simp, by simp, by simp, by simp, by simp, by simp⟩
 rintro k σ ⟨i, r, hik, rfl, r1, r3, r24, r25, r26, hall⟩
 cases k with
 | zero =>
  have hi : i = l.length := by omega
  subst hi
  have hx := at_all (P := fun j (x : PChange) => ChangeOk x ∧ x.number = n - l.length + j) hall
  have hA : ChangesOk n l := ⟨g1, g2, g3, hx⟩
  simp [r1, r3, r24, r25, r26, ov, hA]
 | succ k =>
  have hi : i < l.length := by omega
  obtain ⟨x, hx⟩ : ∃ c, l[i]? = some c := ⟨l[i], by simp [hi]⟩
  have hw : IntKind.i64.wrap ((i : Int) + 1) = ((i : Int) + 1) := wrap_i64 (by omega) (by omega)
  have hw2 : IntKind.i64.wrap (n - (l.length : Int) + i) = n - (l.length : Int) + i := wrap_i64 (by omega) (by omega)
  have hwi : IntKind.i64.wrap (i : Int) = (i : Int) := wrap_i64 (by omega) (by omega)
  obtain ⟨id, o, w1, w2, hid, e1, lm, a1, a2, _⟩ := changes_idx h hx
  have o1 := a1.one
  have o2 := a2.one
  have c3 := zf (x := x) a1 a2 (hs x (List.mem_of_getElem? hx))
  by_cases g5 : x.number = n - (l.length : Int) + i
  rotate_left
  ·simp [r1, r3, r24, r25, r26, hi, hid, e1, lm, o1, o2, ov, g5, hw, hw1, hw2, hwi, strideOf, fillL, zerosL, St.new]
   exact fun h => g5 (h.2.2.2 i x hx).2
  by_cases g6 : ChangeOk x
  ·rw [dec_pos g6] at c3
   rw [g5] at c3 lm
   simp [r1, r3, r24, r25, r26, hi, hid, e1, lm, o1, o2, ov, c3, hw, hw1, hw2, hwi, strideOf, fillL, zerosL, St.new]
   exact ⟨k, by omega, i + 1, by omega, _, ⟨rfl, by omega⟩, by simp [r1], by simp [r3], by simp [r24], by simp [r25], by simp, at_step (P := fun j (x : PChange) => ChangeOk x ∧ x.number = n - l.length + j) hall hx ⟨g6, g5⟩⟩
  ·rw [dec_neg g6] at c3
   rw [g5] at c3 lm
   simp [r1, r3, r24, r25, r26, hi, hid, e1, lm, o1, o2, ov, c3, hw, hw1, hw2, hwi, strideOf, fillL, zerosL, St.new]
   exact fun h => g6 (h.2.2.2 i x hx).1
theorem jH {H : List Ob} {vs ve va vl : V} {s : PServer} (hs : AClasses H vs s.tree.schema) (he : AEntries H ve s.tree.entries) (ha : ARules H va s.acl) (hl : AChanges H vl s.list) (hb : ∀ x ∈ s.list, x.dn.length ≤ 2000000) :
  callW C 11 [.agg [vs, ve, va, .int .i64 s.next, vl, .str s.who]] H = some (.bool (dec (ServerOk s)), H) := by
 apply Ret.dec
 rw [P8]
 have o1 := hs.one
 have o2 := he.one
 have o3 := ha.one
 have o4 := hl.one
 have c1 := nz hs he
 have c2 := pI ha
 have c3 := jB (n := s.next) hl hb
 have c4 := fK (t := s.who) (H := H)
 by_cases g1 : TreeOk s.tree
 rotate_left
 ·rw [dec_neg g1] at c1
  simp [gp, Tryz.f11, o1, o2, o3, o4, c1]
  exact fun h => g1 h.1
 rw [dec_pos g1] at c1
 by_cases g2 : AclOk s.acl
 rotate_left
 ·rw [dec_neg g2] at c2
  simp [gp, Tryz.f11, o1, o2, o3, o4, c1, c2]
  exact fun h => g2 h.2.1
 rw [dec_pos g2] at c2
 by_cases g3 : ChangesOk s.next s.list
 rotate_left
 ·rw [dec_neg g3] at c3
  simp [gp, Tryz.f11, o1, o2, o3, o4, c1, c2, c3]
  exact fun h => g3 h.2.2.1
 rw [dec_pos g3] at c3
 by_cases g4 : NameOk s.who
 ·rw [dec_pos g4] at c4
  have hy : ServerOk s := ⟨g1, g2, g3, g4⟩
  simp [gp, Tryz.f11, o1, o2, o3, o4, c1, c2, c3, c4, hy]
 ·rw [dec_neg g4] at c4
  have hn : ¬ ServerOk s := fun h => g4 h.2.2.2
  simp [gp, Tryz.f11, o1, o2, o3, o4, c1, c2, c3, c4, hn]
def upC (c : UInt8) : UInt8 := if 97 ≤ c.toNat ∧ c.toNat ≤ 122 then c - 32 else c
def Fq (up : Bool) (c : UInt8) : UInt8 := if up = true then upC c else lowC c
def turned (up : Bool) (t : Str) (i : Nat) : Str := (t.take i).map (Fq up) ++ t.drop i
end Go.Proofs.Try1
end
section
namespace Go.Proofs.Try1
open Go Go.Lite


end Go.Proofs.Try1
end
section
namespace Go.Proofs.Try1
open Go Go.Lite
attribute [-simp] WP_region WP_cond
attribute [local simp] WP_regionF WP_condF ThenW_some ThenW_none CondW_true CondW_false
attribute [local simp low] CondW_bool

end Go.Proofs.Try1
end
section
namespace Go.Proofs.Try1
open Go Go.Lite
section
variable {l : List PAttr} {n : Str} {vs : List Str} {i : Nat}
end
end Go.Proofs.Try1
end
section
namespace Go.Lite
open Go
def Apart (l : List Str) : Prop := (l.map norm).Nodup
theorem Apart.inj {l : List Str} (h : Apart l) {a b : Str} (ha : a ∈ l) (hb : b ∈ l) (e : norm a = norm b) : a = b := by
 unfold Apart at h
 induction l with
 | nil => cases ha
 | cons x l ih =>
  rw [List.map_cons, List.nodup_cons] at h
  rcases List.mem_cons.1 ha with rfl | ha'
  ·rcases List.mem_cons.1 hb with rfl | hb'
   ·rfl
   ·exact absurd (List.mem_map.2 ⟨b, hb', e.symm⟩) h.1
  ·rcases List.mem_cons.1 hb with rfl | hb'
   ·exact absurd (List.mem_map.2 ⟨a, ha', e⟩) h.1
   ·exact ih h.2 ha' hb'
end Go.Lite
end
section
namespace Go.Proofs.Try1
open Go Go.Lite






theorem TOut.base {H : List Ob} {X : List Ob} {o : PTreeOut} {q : V} {H' : List Ob} (h : TOut (H ++ X) o q H') : TOut H o q (gcH H H' q) := by
 obtain ⟨T, w1, w2, w3, rfl, rfl, h3⟩ := h
 rw [List.append_assoc] at h3 ⊢
 obtain ⟨T', h4, h5⟩ := (h3.wide (b' := H.length) (by simp) (Nat.le_refl _)).gcA
 exact ⟨T', w1, w2, w3, rfl, h4, h5⟩



end Go.Proofs.Try1
end
section
namespace Go.Lite
open Go

end Go.Lite
end
section
namespace Go.Proofs.Try1
open Go Go.Lite
attribute [-simp] WP_region WP_cond
attribute [local simp] WP_regionF WP_condF ThenW_some ThenW_none CondW_true CondW_false
attribute [local simp low] CondW_bool
theorem DnOk.cons {r : PRdn} {p : List PRdn} (hr : DnOk [r]) (hp : DnOk p) (h6 : ¬ 6 ≤ p.length) : DnOk (r :: p) := by
 refine ⟨fun j x hx => ?_, by simp; omega⟩
 cases j with
 | zero => cases hx; exact hr.1 0 r rfl
 | succ j => exact hp.1 j x (by simpa using hx)
end Go.Proofs.Try1
end
section
namespace Go.Proofs.Try1
open Go Go.Lite


end Go.Proofs.Try1
end
section
namespace Go.Proofs.Try1
open Go Go.Lite
attribute [-simp] WP_region WP_cond
attribute [local simp] WP_regionF WP_condF ThenW_some ThenW_none CondW_true CondW_false
attribute [local simp low] CondW_bool
















structure AtW (H : List Ob) (w : PWorld) (vs ve va vl vr vb vf vg vm vp : V) : Prop where
 s : AClasses H vs w.server.tree.schema
 e : AEntries H ve w.server.tree.entries
 a : ARules H va w.server.acl
 l : AChanges H vl w.server.list
 r : ARows H vr w.table.rows
 b : ARdns H vb w.flow.base
 f : ANodes H vf w.flow.filter
 g : AParts H vg w.flow.login
 m : AParts H vm w.flow.mail
 p : AParts H vp w.flow.phone
theorem AtW.ext {H T : List Ob} {w : PWorld} {vs ve va vl vr vb vf vg vm vp : V} (h : AtW H w vs ve va vl vr vb vf vg vm vp) : AtW (H ++ T) w vs ve va vl vr vb vf vg vm vp :=
 ⟨h.s.ext, h.e.ext, h.a.ext, h.l.ext, h.r.ext, h.b.ext, h.f.ext, h.g.ext, h.m.ext, h.p.ext⟩
structure RowT (tS tE s : Nat) : Prop where
 S : ∃ zs, C.ty tS = ⟨.slice tE, 1, 24, zs⟩
 E : ∃ d b z, C.ty tE = ⟨.struct d, s, b, z⟩ ∧ z.length = s ∧ z.all isOne = true
 pos : 0 < s
theorem OH {f tS tE s : Nat} {F : Func} (hT : RowT tS tE s) (hop : ∀ {a : List V} {H : List Ob} {R : V → List Ob → Prop}, Ret C f a H R ↔ WP C f (ren [(39, tS), (164, tE)] [] eP) ⟨initRegs a, 0, H⟩ (finQ C F H R)) (hF : F.results = #[.tmp 4])
  {G : List Ob} {id g : Nat} {own : Bool} {rows : List (List V)} {a b : List V} (p : List V → Bool) (h : G[id]? = some (.mk own s rows.flatten)) (hr : Chunks s rows) (hl : rows.length ≤ 1000000) (hg : ∀ c ∈ rows, callW C g (a ++ ([.agg c] ++ b)) G = some (.bool (p c), G)) :
  ∃ r : Int, callW C f [.slc (some (id, 0)) rows.length, .fn g a b] G = some (.int .i64 r, G) ∧ FirstIn p rows r := by
 suffices hs : Ret C f [.slc (some (id, 0)) rows.length, .fn g a b] G fun q H' => (∃ r : Int, q = .int .i64 r ∧ FirstIn p rows r) ∧ H' = G by
  obtain ⟨q, H', hc, ⟨r, rfl, hr⟩, rfl⟩ := hs
  exact ⟨r, hc, hr⟩
 rw [hop]
 obtain ⟨zs, hS⟩ := hT.S
 obtain ⟨d, by_, z, hE, hz, hzo⟩ := hT.E
 have hs0 := hT.pos
 have hs1 : ¬ s = 0 := by omega
 have hid : id < G.length := (List.getElem?_eq_some_iff.1 h).1
 simp [eP, Tryz.f250, ren, renO, renP, renX, sub, hS, hE]
 refine WP_loop (fun k σ => ∃ (i : Nat) (r : Nat → R), i + k = rows.length ∧ σ = ⟨r, 0, G⟩ ∧ r 0 = .val (.slc (some (id, 0)) rows.length) ∧ r 1 = .val (.fn g a b) ∧ r 7 = .val (.int .i64 rows.length) ∧ r 8 = .val (.int .i64 i) ∧ ∀ (j : Nat) x, j < i → rows[j]? = some x → p x = false) ?_ rows.length _ ⟨0, _, by simp, rfl, by simp, by simp, by simp, by simp, by simp⟩
 rintro k σ ⟨i, r, hik, rfl, r0, r1, r7, r8, hall⟩
 cases k with
 | zero =>
  have hi : i = rows.length := by omega
  subst hi
  have hx := at_all (P := fun j (x : List V) => p x = false) hall
  simp [r0, r1, r7, r8, hF]
  exact .inr ⟨hx, rfl⟩
 | succ k =>
  have hi : i < rows.length := by omega
  obtain ⟨x, hx⟩ : ∃ c, rows[i]? = some c := ⟨rows[i], by simp [hi]⟩
  have hw : IntKind.i64.wrap ((i : Int) + 1) = ((i : Int) + 1) := wrap_i64 (by omega) (by omega)
  have hxm := List.mem_of_getElem? hx
  have c1 := hg x hxm
  simp only [List.singleton_append] at c1
  have hle : i * s + s ≤ rows.flatten.length := by
   rw [hr.len]
   have : (i + 1) * s ≤ rows.length * s := Nat.mul_le_mul_right _ hi
   rw [Nat.add_mul] at this
   omega
  have ld := load_agg (T := (⟨.struct d, s, by_, z⟩ : LT)) (o := i * s) h hle (hr.at hx) hs1 rfl
  cases hp : p x with
  | false =>
   rw [hp] at c1
   simp [r0, r1, r7, r8, hi, hid, hS, hE, hs1, ld, c1, hw]
   exact ⟨k, by omega, i + 1, by omega, by omega, at_step (P := fun j (x : List V) => p x = false) hall hx hp⟩
  | true =>
   rw [hp] at c1
   simp [r0, r1, r7, r8, hi, hid, hS, hE, hs1, ld, c1, hw, hF]
   exact .inl ⟨i, x, hx, hp, hall, rfl⟩
theorem gy {α : Type} {l : List α} {i : Nat} {x : α} (h : l[i]? = some x) (p : α → Bool) : (l.take (i + 1)).filter p = (l.take i).filter p ++ if p x then [x] else [] := by
 rw [take_get h, List.filter_append]
 cases hp : p x <;> simp [hp]
theorem Pz {f gi tS tE s : Nat} {F Fi : Func} (hT : RowT tS tE s) (hL : C.locs f = [7])
  (hop : ∀ {a : List V} {H : List Ob} {R : V → List Ob → Prop}, Ret C f a H R ↔ WP C f (renS [(39, tS)] (ren [(39, tS), (164, tE)] [(250, gi)] fF)) ⟨initRegs a, 0, H⟩ (finQ C F H R)) (hF : F.results = #[.tmp 4])
  (hopi : ∀ {a : List V} {H : List Ob} {R : V → List Ob → Prop}, Ret C gi a H R ↔ WP C gi (ren [(39, tS), (164, tE)] [] eP) ⟨initRegs a, 0, H⟩ (finQ C Fi H R)) (hFi : Fi.results = #[.tmp 4])
  {G0 : List Ob} {id g : Nat} {rows : List (List V)} {a b : List V} (p : List V → Bool) (h : G0[id]? = some (.mk true s rows.flatten)) (hr : Chunks s rows) (hl : rows.length ≤ 1000000)
  (hg : ∀ G' : List Ob, G'.length = G0.length → (∀ q, q ≠ id → G'[q]? = G0[q]?) → ∀ c ∈ rows, callW C g (a ++ ([.agg c] ++ b)) G' = some (.bool (p c), G')) :
  ∃ G' rs, callW C f [.slc (some (id, 0)) rows.length, .fn g a b] G0 = some (.slc (some (id, 0)) (rows.filter fun c => !p c).length, G') ∧ G'.length = G0.length ∧ (∀ q, q ≠ id → G'[q]? = G0[q]?) ∧
   G'[id]? = some (.mk true s rs.flatten) ∧ Chunks s rs ∧ rs.length = rows.length ∧ rs.take (rows.filter fun c => !p c).length = rows.filter (fun c => !p c) := by
 suffices hs : Ret C f [.slc (some (id, 0)) rows.length, .fn g a b] G0 fun w G' => ∃ rs, w = .slc (some (id, 0)) (rows.filter fun c => !p c).length ∧ G'.length = G0.length ∧ (∀ q, q ≠ id → G'[q]? = G0[q]?) ∧
   G'[id]? = some (.mk true s rs.flatten) ∧ Chunks s rs ∧ rs.length = rows.length ∧ rs.take (rows.filter fun c => !p c).length = rows.filter (fun c => !p c) by
  obtain ⟨w, G', hc, rs, rfl, h1⟩ := hs
  exact ⟨G', rs, hc, h1⟩
 rw [hop]
 obtain ⟨r, c1, hfi⟩ := OH hT hopi hFi p h hr hl (fun c hc => hg G0 rfl (fun _ _ => rfl) c hc)
 obtain ⟨zs, hS⟩ := hT.S
 obtain ⟨d, by_, z, hE, hz, hzo⟩ := hT.E
 have hs0 := hT.pos
 have hs1 : ¬ s = 0 := by omega
 rcases hfi with ⟨k0, x0, hx0, hp0, hlt0, rfl⟩ | ⟨hn, rfl⟩
 rotate_left
 ·have hf : (rows.filter fun c => !p c) = rows := by
   rw [List.filter_eq_self]
   intro x hx
   obtain ⟨j, hj, rfl⟩ := List.getElem_of_mem hx
   rw [hn j _ (List.getElem?_eq_getElem hj)]
   rfl
  rw [hf]
  simp [fF, Tryz.f167, renS, renSO, ren, renO, renP, renX, sub, hS, hE, c1, hF]
  exact ⟨rows, h, hr, rfl, List.take_length⟩
 have hk0 : k0 < rows.length := (List.getElem?_eq_some_iff.1 hx0).1
 have hm1 : ¬ ((k0 : Int) = -1) := by omega
 have hw0 : IntKind.i64.wrap ((k0 : Int) + 1) = (k0 : Int) + 1 := wrap_i64 (by omega) (by omega)
 have hpre : (rows.take (k0 + 1)).filter (fun x => !p x) = rows.take k0 := by
  rw [gy hx0]
  have : (rows.take k0).filter (fun x => !p x) = rows.take k0 := by
   rw [List.filter_eq_self]
   intro x hx
   obtain ⟨j, hj, rfl⟩ := List.getElem_of_mem hx
   simp at hj
   rw [List.getElem_take, hlt0 j _ (by omega) (List.getElem?_eq_getElem (by omega))]
   rfl
  rw [this]
  simp [hp0]
 simp [fF, Tryz.f167, renS, renSO, ren, renO, renP, renX, sub, hS, hE, hL, c1, hm1, hw0]
 refine WP_loop (fun m σ => ∃ (i j n : Nat) (r : Nat → R) (G : List Ob) (rs : List (List V)), j + m = rows.length ∧ σ = ⟨r, n, G⟩ ∧ r 0 = .val (.slc (some (id, 0)) rows.length) ∧ r 1 = .val (.fn g a b) ∧ r 5 = .val (.int .i64 i) ∧ r 6 = .val (.int .i64 j) ∧ i < j ∧ G.length = G0.length ∧ (∀ q, q ≠ id → G[q]? = G0[q]?) ∧
  G[id]? = some (.mk true s rs.flatten) ∧ Chunks s rs ∧ rs.length = rows.length ∧ i = ((rows.take j).filter fun x => !p x).length ∧ rs.take i = (rows.take j).filter (fun x => !p x) ∧ rs.drop j = rows.drop j) ?_ (rows.length - (k0 + 1)) _
  ⟨k0, k0 + 1, 0, _, G0, rows, by omega, rfl, by simp, by simp, by simp, by simp, by omega, rfl, fun _ _ => rfl, h, hr, rfl, by rw [hpre]; simp; omega, by rw [hpre], rfl⟩
 clear hm1 hw0
 rintro m σ ⟨i, j, n, r, G, rs, hjm, rfl, r0, r1, r5, r6, hij, hG1, hG2, hG3, hrs, hrl, hi, htk, hdr⟩
 have hid : id < G.length := (List.getElem?_eq_some_iff.1 hG3).1
 have hst : strideIs G id s = true := by simp [strideIs, hG3]
 cases m with
 | zero =>
  have hj : j = rows.length := by omega
  subst hj
  rw [List.take_length] at hi htk
  have hil : i ≤ rows.length := by omega
  have hnz : ¬ (rows.length - i = 0) := by omega
  have hzl : zerosL ⟨.struct d, s, by_, z⟩ (rows.length - i) = (List.replicate (rows.length - i) z).flatten := rfl
  have hcz := Chunks.zeros (s := s) (n := rows.length - i) ⟨hz, hzo⟩
  have hfl := hrs.fill (i := i) hcz (by rw [List.length_replicate, hrl]; omega)
  have hwa : ∀ r c, writeAt ⟨r, c, G⟩ (.hp id (i * s)) (List.replicate (rows.length - i) z).flatten = some ⟨r, c, G.set id (.mk true s (rs.take i ++ List.replicate (rows.length - i) z).flatten)⟩ := by
   intro r c
   simp only [writeAt, hG3, Pl.off]
   rw [if_pos (by rw [hcz.len, List.length_replicate, hrs.len, hrl, ← Nat.add_mul]; exact Nat.mul_le_mul_right _ (by omega)), hfl]
  have hst2 : ∀ o, strideIs (G.set id (.mk true s o)) id s = true := fun o => by simp [strideIs, hid]
  have hgl : ∀ o w, gcH G0 (G.set id o) w = G.set id o := fun o w => lK (by rw [List.length_set]; exact hG1)
  simp [r0, r1, r5, r6, hil, hst, elemT, hS, hE, hs1, hs0, hnz, hz, hzo, hzl, hwa, hst2, hgl, hF, -setRange, -List.flatten_append]
  have hck : Chunks s (rs.take i ++ List.replicate (rows.length - i) z) := (hrs.take).app hcz
  refine ⟨hi, hG1, fun q hq => by rw [List.getElem?_set_ne (Ne.symm hq)]; exact hG2 q hq, _, List.getElem?_set_self hid, hck, by rw [List.length_append, List.length_take, List.length_replicate, hrl]; omega, ?_⟩
  rw [← hi, List.take_append_of_le_length (by rw [List.length_take, hrl]; omega), List.take_take, Nat.min_self, htk]
 | succ m =>
  have hj : j < rows.length := by omega
  obtain ⟨x, hx⟩ : ∃ x, rows[j]? = some x := ⟨rows[j], List.getElem?_eq_getElem hj⟩
  have hxc : rs[j]? = some x := by
   have := congrArg (fun l => l[0]?) hdr
   simpa [hx] using this
  have hxm := List.mem_of_getElem? hx
  have hle : j * s + s ≤ rs.flatten.length := by
   rw [hrs.len, hrl]
   have : (j + 1) * s ≤ rows.length * s := Nat.mul_le_mul_right _ hj
   rw [Nat.add_mul] at this
   omega
  have ld := load_agg (T := (⟨.struct d, s, by_, z⟩ : LT)) (o := j * s) hG3 hle (hrs.at hxc) hs1 rfl
  have c2 := hg G hG1 hG2 x hxm
  simp only [List.singleton_append] at c2
  have hw : IntKind.i64.wrap ((j : Int) + 1) = (j : Int) + 1 := wrap_i64 (by omega) (by omega)
  have hw2 : IntKind.i64.wrap ((i : Int) + 1) = (i : Int) + 1 := wrap_i64 (by omega) (by omega)
  have hil : i < rows.length := by omega
  have hdr' : rs.drop (j + 1) = rows.drop (j + 1) := by
   have := congrArg (List.drop 1) hdr
   simpa [List.drop_drop, Nat.add_comm] using this
  have hft := gy hx fun x => !p x
  have hxl := (hr x hxm)
  have hsr : setRange z 0 x = x := by unfold setRange; rw [hxl.1, ← hz]; simp
  have hxt : x.take s = x := List.take_of_length_le (by omega)
  have hx1 := hxl.1
  have hx2 := hxl.2
  have hsx : s ≤ x.length := by omega
  have hzl : s ≤ z.length := by omega
  cases hp : p x with
  | true =>
   rw [hp] at c2 hft
   simp at hft
   simp [r0, r1, r5, r6, hj, hid, ld, c2, hw, hS, hE, hs1, hs0, hL, hsr, hxt, hx1, hx2, hsx, hz, hzl, strideOf, fillL, zerosL, St.new, -setRange]
   exact ⟨m, by omega, i, j + 1, by omega, _, _, G, ⟨rfl, rfl, rfl⟩, by simp [r0], by simp [r1], by simp [r5], by simp, by omega, hG1, hG2, rs, hG3, hrs, hrl, by rw [hft]; exact hi, by rw [hft]; exact htk, hdr'⟩
  | false =>
   rw [hp] at c2 hft
   simp at hft
   have hle2 : i * s + x.length ≤ rs.flatten.length := by
    rw [hrs.len, hrl, hx1]
    have : (i + 1) * s ≤ rows.length * s := Nat.mul_le_mul_right _ hil
    rw [Nat.add_mul] at this
    omega
   have st := storeN (o := i * s) hG3 hle2 (by intro h0; rw [h0] at hx1; simp at hx1; omega) hx2 (⟨.struct d, s, by_, z⟩ : LT) (by rw [hx1]; exact ⟨rfl, rfl⟩)
   rw [hrs.put (by omega) hx1] at st
   simp [r0, r1, r5, r6, hj, hil, hid, ld, c2, hw, hw2, st, hS, hE, hs1, hs0, hL, hsr, hxt, hx1, hx2, hsx, hz, hzl, strideOf, fillL, zerosL, St.new, -setRange]
   refine ⟨m, by omega, i + 1, j + 1, by omega, _, _, _, ⟨rfl, rfl, rfl⟩, by simp [r0], by simp [r1], by simp, by simp, by omega, by simpa using hG1, fun q hq => by rw [List.getElem?_set_ne (Ne.symm hq)]; exact hG2 q hq, rs.set i x, List.getElem?_set_self hid, hrs.set hxl, by simpa using hrl, ?_, ?_, ?_⟩
   ·rw [hft, List.length_append, ← hi]; rfl
   ·rw [hft, ← htk, List.take_add_one, List.getElem?_set_self (by omega), List.take_set, List.set_eq_of_length_le (by simp; omega)]
    rfl
   ·rw [List.drop_set_of_lt (by omega)]; exact hdr'
end Go.Proofs.Try1
end
