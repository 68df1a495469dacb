/- Counting, comparing, copying and marking the types of this seat. Conditions: none but those that each theorem names. -/
import Derived.Test.YtecdehhdbbckoaaGreatDoorFam
import Derived.Test.YtecdehhdbbckoaaGreatDoorLiteF

namespace Go.Proofs.Try1
open Go Go.Lite
set_option linter.unusedSimpArgs false
set_option linter.unusedVariables false
set_option maxRecDepth 10000 in
theorem sz_Rdn : SzFn 95 shRdn := by
  intro H cs u left h hleft
  replace h := At_st.1 h
  obtain ⟨us, rfl, h⟩ := h
  replace h := Ats_cons.1 h
  obtain ⟨c0, d0, u0, rr0, rfl, rfl, h0, h⟩ := h
  replace h := Ats_cons.1 h
  obtain ⟨c1, d1, u1, rr1, rfl, rfl, h1, h⟩ := h
  replace h := Ats_nil.1 h
  obtain ⟨rfl, rfl⟩ := h
  replace h0 := At_str.1 h0
  obtain ⟨s0, rfl, rfl, w0⟩ := h0
  replace h1 := At_str.1 h1
  obtain ⟨s1, rfl, rfl, w1⟩ := h1
  by_cases g0 : s0.length ≤ left
  rotate_left
  · have q0 : IntKind.i64.wrap (((left : Nat) : Int) - s0.length) = ((left : Nat) : Int) - s0.length := wrap_i64 (by have : s0.length ≤ 9223372036854775807 := w0; omega) (by omega)
    have p0 : ((left : Nat) : Int) - s0.length < 0 := by omega
    have hT : ¬ wt (U.st [(.str s0), (.str s1)]) ≤ left := by simp only [wt_st, wts_cons, wts_nil, wt_str, wt_int, wt_bool]; omega
    rw [if_neg hT]
    apply Ret.eq
    rw [op95]
    simp [code95, Tryz.f95, valOf, q0, p0]
  have q0 : IntKind.i64.wrap (((left : Nat) : Int) - s0.length) = ((left - s0.length : Nat) : Int) := by rw [wrap_i64 (by omega) (by omega)]; omega
  have p0 : ¬ (((left - s0.length : Nat) : Int) < 0) := by omega
  by_cases g1 : s1.length ≤ left - s0.length
  rotate_left
  · have q1 : IntKind.i64.wrap (((left - s0.length : Nat) : Int) - s1.length) = ((left - s0.length : Nat) : Int) - s1.length := wrap_i64 (by have : s1.length ≤ 9223372036854775807 := w1; omega) (by omega)
    have p1 : ((left - s0.length : Nat) : Int) - s1.length < 0 := by omega
    have hT : ¬ wt (U.st [(.str s0), (.str s1)]) ≤ left := by simp only [wt_st, wts_cons, wts_nil, wt_str, wt_int, wt_bool]; omega
    rw [if_neg hT]
    apply Ret.eq
    rw [op95]
    simp [code95, Tryz.f95, valOf, q0, p0, q1, p1]
  have q1 : IntKind.i64.wrap (((left - s0.length : Nat) : Int) - s1.length) = ((left - s0.length - s1.length : Nat) : Int) := by rw [wrap_i64 (by omega) (by omega)]; omega
  have p1 : ¬ (((left - s0.length - s1.length : Nat) : Int) < 0) := by omega
  have hT : wt (U.st [(.str s0), (.str s1)]) ≤ left := by simp only [wt_st, wts_cons, wts_nil, wt_str, wt_int, wt_bool]; omega
  have hE : left - wt (U.st [(.str s0), (.str s1)]) = left - s0.length - s1.length := by simp only [wt_st, wts_cons, wts_nil, wt_str, wt_int, wt_bool]; omega
  rw [if_pos hT, hE]
  apply Ret.eq
  rw [op95]
  simp [code95, Tryz.f95, valOf, q0, p0, q1, p1]
theorem sz_RdnS : SzFn 41 (.slice shRdn) :=
  szSlc (f := 41) (g := 95) (tS := 23) (tE := 115) (F := Tryz.f41) (op_ren (c := code41) (by kernel_rfl) op41) rfl ty23 (by rw [ty115]; rfl) (by rw [ty115]; rfl) (by rw [ty115]; decide) sz_Rdn
set_option maxRecDepth 10000 in
theorem sz_Attr : SzFn 96 shAttr := by
  intro H cs u left h hleft
  replace h := At_st.1 h
  obtain ⟨us, rfl, h⟩ := h
  replace h := Ats_cons.1 h
  obtain ⟨c0, d0, u0, rr0, rfl, rfl, h0, h⟩ := h
  replace h := Ats_cons.1 h
  obtain ⟨c1, d1, u1, rr1, rfl, rfl, h1, h⟩ := h
  replace h := Ats_nil.1 h
  obtain ⟨rfl, rfl⟩ := h
  replace h0 := At_str.1 h0
  obtain ⟨s0, rfl, rfl, w0⟩ := h0
  have k1 := h1
  replace h1 := At_slice.1 h1
  obtain ⟨v1, l1, rfl, rfl, w1, hv1⟩ := h1
  have o1 := hv1.one
  by_cases g0 : s0.length ≤ left
  rotate_left
  · have q0 : IntKind.i64.wrap (((left : Nat) : Int) - s0.length) = ((left : Nat) : Int) - s0.length := wrap_i64 (by have : s0.length ≤ 9223372036854775807 := w0; omega) (by omega)
    have p0 : ((left : Nat) : Int) - s0.length < 0 := by omega
    have hT : ¬ wt (U.st [(.str s0), (.lst l1)]) ≤ left := by simp only [wt_st, wts_cons, wts_nil, wt_str, wt_int, wt_bool]; omega
    rw [if_neg hT]
    apply Ret.eq
    rw [op96]
    simp [code96, Tryz.f96, valOf, q0, p0, o1]
  have q0 : IntKind.i64.wrap (((left : Nat) : Int) - s0.length) = ((left - s0.length : Nat) : Int) := by rw [wrap_i64 (by omega) (by omega)]; omega
  have p0 : ¬ (((left - s0.length : Nat) : Int) < 0) := by omega
  have q1 := sz_StringS H _ _ (left - s0.length) k1 (by omega)
  simp only [valOf, List.headD_cons, List.append_nil, List.cons_append, List.nil_append] at q1
  by_cases g1 : wt (.lst l1) ≤ left - s0.length
  rotate_left
  · rw [if_neg g1] at q1
    have hT : ¬ wt (U.st [(.str s0), (.lst l1)]) ≤ left := by simp only [wt_st, wts_cons, wts_nil, wt_str, wt_int, wt_bool]; omega
    rw [if_neg hT]
    apply Ret.eq
    rw [op96]
    simp [code96, Tryz.f96, valOf, q0, p0, q1, o1]
  rw [if_pos g1] at q1
  have p1 : ¬ (((left - s0.length - wt (.lst l1) : Nat) : Int) < 0) := by omega
  have hT : wt (U.st [(.str s0), (.lst l1)]) ≤ left := by simp only [wt_st, wts_cons, wts_nil, wt_str, wt_int, wt_bool]; omega
  have hE : left - wt (U.st [(.str s0), (.lst l1)]) = left - s0.length - wt (.lst l1) := by simp only [wt_st, wts_cons, wts_nil, wt_str, wt_int, wt_bool]; omega
  rw [if_pos hT, hE]
  apply Ret.eq
  rw [op96]
  simp [code96, Tryz.f96, valOf, q0, p0, q1, p1, o1]
theorem sz_AttrS : SzFn 42 (.slice shAttr) :=
  szSlc (f := 42) (g := 96) (tS := 24) (tE := 117) (F := Tryz.f42) (op_ren (c := code42) (by kernel_rfl) op42) rfl ty24 (by rw [ty117]; rfl) (by rw [ty117]; rfl) (by rw [ty117]; decide) sz_Attr
set_option maxRecDepth 10000 in
theorem sz_Entry : SzFn 8 shEntry := by
  intro H cs u left h hleft
  replace h := At_st.1 h
  obtain ⟨us, rfl, h⟩ := h
  replace h := Ats_cons.1 h
  obtain ⟨c0, d0, u0, rr0, rfl, rfl, h0, h⟩ := h
  replace h := Ats_cons.1 h
  obtain ⟨c1, d1, u1, rr1, rfl, rfl, h1, h⟩ := h
  replace h := Ats_nil.1 h
  obtain ⟨rfl, rfl⟩ := h
  have k0 := h0
  replace h0 := At_slice.1 h0
  obtain ⟨v0, l0, rfl, rfl, w0, hv0⟩ := h0
  have o0 := hv0.one
  have k1 := h1
  replace h1 := At_slice.1 h1
  obtain ⟨v1, l1, rfl, rfl, w1, hv1⟩ := h1
  have o1 := hv1.one
  have q0 := sz_RdnS H _ _ (left) k0 (by omega)
  simp only [valOf, List.headD_cons, List.append_nil, List.cons_append, List.nil_append] at q0
  by_cases g0 : wt (.lst l0) ≤ left
  rotate_left
  · rw [if_neg g0] at q0
    have hT : ¬ wt (U.st [(.lst l0), (.lst l1)]) ≤ left := by simp only [wt_st, wts_cons, wts_nil, wt_str, wt_int, wt_bool]; omega
    rw [if_neg hT]
    apply Ret.eq
    rw [op8]
    simp [code8, Tryz.f8, valOf, q0, o0, o1]
  rw [if_pos g0] at q0
  have p0 : ¬ (((left - wt (.lst l0) : Nat) : Int) < 0) := by omega
  have q1 := sz_AttrS H _ _ (left - wt (.lst l0)) k1 (by omega)
  simp only [valOf, List.headD_cons, List.append_nil, List.cons_append, List.nil_append] at q1
  by_cases g1 : wt (.lst l1) ≤ left - wt (.lst l0)
  rotate_left
  · rw [if_neg g1] at q1
    have hT : ¬ wt (U.st [(.lst l0), (.lst l1)]) ≤ left := by simp only [wt_st, wts_cons, wts_nil, wt_str, wt_int, wt_bool]; omega
    rw [if_neg hT]
    apply Ret.eq
    rw [op8]
    simp [code8, Tryz.f8, valOf, q0, p0, q1, o0, o1]
  rw [if_pos g1] at q1
  have p1 : ¬ (((left - wt (.lst l0) - wt (.lst l1) : Nat) : Int) < 0) := by omega
  have hT : wt (U.st [(.lst l0), (.lst l1)]) ≤ left := by simp only [wt_st, wts_cons, wts_nil, wt_str, wt_int, wt_bool]; omega
  have hE : left - wt (U.st [(.lst l0), (.lst l1)]) = left - wt (.lst l0) - wt (.lst l1) := by simp only [wt_st, wts_cons, wts_nil, wt_str, wt_int, wt_bool]; omega
  rw [if_pos hT, hE]
  apply Ret.eq
  rw [op8]
  simp [code8, Tryz.f8, valOf, q0, p0, q1, p1, o0, o1]
set_option maxRecDepth 10000 in
theorem sz_Class : SzFn 40 shClass := by
  intro H cs u left h hleft
  replace h := At_st.1 h
  obtain ⟨us, rfl, h⟩ := h
  replace h := Ats_cons.1 h
  obtain ⟨c0, d0, u0, rr0, rfl, rfl, h0, h⟩ := h
  replace h := Ats_cons.1 h
  obtain ⟨c1, d1, u1, rr1, rfl, rfl, h1, h⟩ := h
  replace h := Ats_cons.1 h
  obtain ⟨c2, d2, u2, rr2, rfl, rfl, h2, h⟩ := h
  replace h := Ats_cons.1 h
  obtain ⟨c3, d3, u3, rr3, rfl, rfl, h3, h⟩ := h
  replace h := Ats_nil.1 h
  obtain ⟨rfl, rfl⟩ := h
  replace h0 := At_str.1 h0
  obtain ⟨s0, rfl, rfl, w0⟩ := h0
  have k1 := h1
  replace h1 := At_slice.1 h1
  obtain ⟨v1, l1, rfl, rfl, w1, hv1⟩ := h1
  have o1 := hv1.one
  have k2 := h2
  replace h2 := At_slice.1 h2
  obtain ⟨v2, l2, rfl, rfl, w2, hv2⟩ := h2
  have o2 := hv2.one
  have k3 := h3
  replace h3 := At_slice.1 h3
  obtain ⟨v3, l3, rfl, rfl, w3, hv3⟩ := h3
  have o3 := hv3.one
  by_cases g0 : s0.length ≤ left
  rotate_left
  · have q0 : IntKind.i64.wrap (((left : Nat) : Int) - s0.length) = ((left : Nat) : Int) - s0.length := wrap_i64 (by have : s0.length ≤ 9223372036854775807 := w0; omega) (by omega)
    have p0 : ((left : Nat) : Int) - s0.length < 0 := by omega
    have hT : ¬ wt (U.st [(.str s0), (.lst l1), (.lst l2), (.lst l3)]) ≤ left := by simp only [wt_st, wts_cons, wts_nil, wt_str, wt_int, wt_bool]; omega
    rw [if_neg hT]
    apply Ret.eq
    rw [op40]
    simp [code40, Tryz.f40, valOf, q0, p0, o1, o2, o3]
  have q0 : IntKind.i64.wrap (((left : Nat) : Int) - s0.length) = ((left - s0.length : Nat) : Int) := by rw [wrap_i64 (by omega) (by omega)]; omega
  have p0 : ¬ (((left - s0.length : Nat) : Int) < 0) := by omega
  have q1 := sz_StringS H _ _ (left - s0.length) k1 (by omega)
  simp only [valOf, List.headD_cons, List.append_nil, List.cons_append, List.nil_append] at q1
  by_cases g1 : wt (.lst l1) ≤ left - s0.length
  rotate_left
  · rw [if_neg g1] at q1
    have hT : ¬ wt (U.st [(.str s0), (.lst l1), (.lst l2), (.lst l3)]) ≤ left := by simp only [wt_st, wts_cons, wts_nil, wt_str, wt_int, wt_bool]; omega
    rw [if_neg hT]
    apply Ret.eq
    rw [op40]
    simp [code40, Tryz.f40, valOf, q0, p0, q1, o1, o2, o3]
  rw [if_pos g1] at q1
  have p1 : ¬ (((left - s0.length - wt (.lst l1) : Nat) : Int) < 0) := by omega
  have q2 := sz_StringS H _ _ (left - s0.length - wt (.lst l1)) k2 (by omega)
  simp only [valOf, List.headD_cons, List.append_nil, List.cons_append, List.nil_append] at q2
  by_cases g2 : wt (.lst l2) ≤ left - s0.length - wt (.lst l1)
  rotate_left
  · rw [if_neg g2] at q2
    have hT : ¬ wt (U.st [(.str s0), (.lst l1), (.lst l2), (.lst l3)]) ≤ left := by simp only [wt_st, wts_cons, wts_nil, wt_str, wt_int, wt_bool]; omega
    rw [if_neg hT]
    apply Ret.eq
    rw [op40]
    simp [code40, Tryz.f40, valOf, q0, p0, q1, p1, q2, o1, o2, o3]
  rw [if_pos g2] at q2
  have p2 : ¬ (((left - s0.length - wt (.lst l1) - wt (.lst l2) : Nat) : Int) < 0) := by omega
  have q3 := sz_StringS H _ _ (left - s0.length - wt (.lst l1) - wt (.lst l2)) k3 (by omega)
  simp only [valOf, List.headD_cons, List.append_nil, List.cons_append, List.nil_append] at q3
  by_cases g3 : wt (.lst l3) ≤ left - s0.length - wt (.lst l1) - wt (.lst l2)
  rotate_left
  · rw [if_neg g3] at q3
    have hT : ¬ wt (U.st [(.str s0), (.lst l1), (.lst l2), (.lst l3)]) ≤ left := by simp only [wt_st, wts_cons, wts_nil, wt_str, wt_int, wt_bool]; omega
    rw [if_neg hT]
    apply Ret.eq
    rw [op40]
    simp [code40, Tryz.f40, valOf, q0, p0, q1, p1, q2, p2, q3, o1, o2, o3]
  rw [if_pos g3] at q3
  have p3 : ¬ (((left - s0.length - wt (.lst l1) - wt (.lst l2) - wt (.lst l3) : Nat) : Int) < 0) := by omega
  have hT : wt (U.st [(.str s0), (.lst l1), (.lst l2), (.lst l3)]) ≤ left := by simp only [wt_st, wts_cons, wts_nil, wt_str, wt_int, wt_bool]; omega
  have hE : left - wt (U.st [(.str s0), (.lst l1), (.lst l2), (.lst l3)]) = left - s0.length - wt (.lst l1) - wt (.lst l2) - wt (.lst l3) := by simp only [wt_st, wts_cons, wts_nil, wt_str, wt_int, wt_bool]; omega
  rw [if_pos hT, hE]
  apply Ret.eq
  rw [op40]
  simp [code40, Tryz.f40, valOf, q0, p0, q1, p1, q2, p2, q3, p3, o1, o2, o3]
theorem sz_ClassS : SzFn 7 (.slice shClass) :=
  szSlc (f := 7) (g := 40) (tS := 22) (tE := 69) (F := Tryz.f7) (op_ren (c := code7) (by kernel_rfl) op7) rfl ty22 (by rw [ty69]; rfl) (by rw [ty69]; rfl) (by rw [ty69]; decide) sz_Class
end Go.Proofs.Try1

namespace Go.Proofs.Try1
open Go Go.Lite
set_option linter.unusedSimpArgs false
set_option linter.unusedVariables false
set_option maxRecDepth 10000 in
theorem eq_Rdn : EqFn 108 shRdn := by
  intro H cs ds u w h h'
  replace h := At_st.1 h
  obtain ⟨usa, rfl, h⟩ := h
  replace h := Ats_cons.1 h
  obtain ⟨ca0, da0, ua0, rra0, rfl, rfl, ha0, h⟩ := h
  replace h := Ats_cons.1 h
  obtain ⟨ca1, da1, ua1, rra1, rfl, rfl, ha1, h⟩ := h
  replace h := Ats_nil.1 h
  obtain ⟨rfl, rfl⟩ := h
  replace ha0 := At_str.1 ha0
  obtain ⟨sa0, rfl, rfl, wa0⟩ := ha0
  replace ha1 := At_str.1 ha1
  obtain ⟨sa1, rfl, rfl, wa1⟩ := ha1
  replace h' := At_st.1 h'
  obtain ⟨usb, rfl, h'⟩ := h'
  replace h' := Ats_cons.1 h'
  obtain ⟨cb0, db0, ub0, rrb0, rfl, rfl, hb0, h'⟩ := h'
  replace h' := Ats_cons.1 h'
  obtain ⟨cb1, db1, ub1, rrb1, rfl, rfl, hb1, h'⟩ := h'
  replace h' := Ats_nil.1 h'
  obtain ⟨rfl, rfl⟩ := h'
  replace hb0 := At_str.1 hb0
  obtain ⟨sb0, rfl, rfl, wb0⟩ := hb0
  replace hb1 := At_str.1 hb1
  obtain ⟨sb1, rfl, rfl, wb1⟩ := hb1
  by_cases e0 : sa0 = sb0
  rotate_left
  · refine ⟨false, by simp [e0], ?_⟩
    apply Ret.eq
    rw [op108]
    simp [code108, Tryz.f108, valOf, e0]
  subst e0
  by_cases e1 : sa1 = sb1
  rotate_left
  · refine ⟨false, by simp [e1], ?_⟩
    apply Ret.eq
    rw [op108]
    simp [code108, Tryz.f108, valOf, e1]
  subst e1
  refine ⟨true, by simp only [], ?_⟩
  apply Ret.eq
  rw [op108]
  simp [code108, Tryz.f108, valOf]
theorem eq_RdnS : EqFn 54 (.slice shRdn) :=
  eqSlc (f := 54) (g := 108) (tS := 33) (tE := 120) (F := Tryz.f54) (op_ren (c := code54) (by kernel_rfl) op54) rfl ord54_6 ty33 (by rw [ty120]; rfl) (by rw [ty120]; rfl) (by rw [ty120]; decide) eq_Rdn
set_option maxRecDepth 10000 in
theorem eq_Attr : EqFn 109 shAttr := by
  intro H cs ds u w h h'
  replace h := At_st.1 h
  obtain ⟨usa, rfl, h⟩ := h
  replace h := Ats_cons.1 h
  obtain ⟨ca0, da0, ua0, rra0, rfl, rfl, ha0, h⟩ := h
  replace h := Ats_cons.1 h
  obtain ⟨ca1, da1, ua1, rra1, rfl, rfl, ha1, h⟩ := h
  replace h := Ats_nil.1 h
  obtain ⟨rfl, rfl⟩ := h
  replace ha0 := At_str.1 ha0
  obtain ⟨sa0, rfl, rfl, wa0⟩ := ha0
  have ka1 := ha1
  replace ha1 := At_slice.1 ha1
  obtain ⟨va1, la1, rfl, rfl, wa1, hva1⟩ := ha1
  have oa1 := hva1.one
  replace h' := At_st.1 h'
  obtain ⟨usb, rfl, h'⟩ := h'
  replace h' := Ats_cons.1 h'
  obtain ⟨cb0, db0, ub0, rrb0, rfl, rfl, hb0, h'⟩ := h'
  replace h' := Ats_cons.1 h'
  obtain ⟨cb1, db1, ub1, rrb1, rfl, rfl, hb1, h'⟩ := h'
  replace h' := Ats_nil.1 h'
  obtain ⟨rfl, rfl⟩ := h'
  replace hb0 := At_str.1 hb0
  obtain ⟨sb0, rfl, rfl, wb0⟩ := hb0
  have kb1 := hb1
  replace hb1 := At_slice.1 hb1
  obtain ⟨vb1, lb1, rfl, rfl, wb1, hvb1⟩ := hb1
  have ob1 := hvb1.one
  by_cases e0 : sa0 = sb0
  rotate_left
  · refine ⟨false, by simp [e0], ?_⟩
    apply Ret.eq
    rw [op109]
    simp [code109, Tryz.f109, valOf, e0, oa1, ob1]
  subst e0
  obtain ⟨t1, e1, q1⟩ := eq_StringS H _ _ _ _ ka1 kb1
  simp only [valOf, List.headD_cons, List.append_nil, List.cons_append, List.nil_append] at q1
  cases t1 with
  | false =>
    have e1 : ¬ (.lst la1) = (U.lst lb1) := fun h => by simpa using e1.2 h
    refine ⟨false, by simp only [U.st.injEq, List.cons.injEq, e1, and_false, false_and, Bool.false_eq_true], ?_⟩
    apply Ret.eq
    rw [op109]
    simp [code109, Tryz.f109, valOf, q1, oa1, ob1]
  | true =>
  have e1 := e1.1 rfl
  refine ⟨true, by simp only [e1], ?_⟩
  apply Ret.eq
  rw [op109]
  simp [code109, Tryz.f109, valOf, q1, oa1, ob1]
theorem eq_AttrS : EqFn 55 (.slice shAttr) :=
  eqSlc (f := 55) (g := 109) (tS := 34) (tE := 63) (F := Tryz.f55) (op_ren (c := code55) (by kernel_rfl) op55) rfl ord55_6 ty34 (by rw [ty63]; rfl) (by rw [ty63]; rfl) (by rw [ty63]; decide) eq_Attr
set_option maxRecDepth 10000 in
theorem eq_Entry : EqFn 15 shEntry := by
  intro H cs ds u w h h'
  replace h := At_st.1 h
  obtain ⟨usa, rfl, h⟩ := h
  replace h := Ats_cons.1 h
  obtain ⟨ca0, da0, ua0, rra0, rfl, rfl, ha0, h⟩ := h
  replace h := Ats_cons.1 h
  obtain ⟨ca1, da1, ua1, rra1, rfl, rfl, ha1, h⟩ := h
  replace h := Ats_nil.1 h
  obtain ⟨rfl, rfl⟩ := h
  have ka0 := ha0
  replace ha0 := At_slice.1 ha0
  obtain ⟨va0, la0, rfl, rfl, wa0, hva0⟩ := ha0
  have oa0 := hva0.one
  have ka1 := ha1
  replace ha1 := At_slice.1 ha1
  obtain ⟨va1, la1, rfl, rfl, wa1, hva1⟩ := ha1
  have oa1 := hva1.one
  replace h' := At_st.1 h'
  obtain ⟨usb, rfl, h'⟩ := h'
  replace h' := Ats_cons.1 h'
  obtain ⟨cb0, db0, ub0, rrb0, rfl, rfl, hb0, h'⟩ := h'
  replace h' := Ats_cons.1 h'
  obtain ⟨cb1, db1, ub1, rrb1, rfl, rfl, hb1, h'⟩ := h'
  replace h' := Ats_nil.1 h'
  obtain ⟨rfl, rfl⟩ := h'
  have kb0 := hb0
  replace hb0 := At_slice.1 hb0
  obtain ⟨vb0, lb0, rfl, rfl, wb0, hvb0⟩ := hb0
  have ob0 := hvb0.one
  have kb1 := hb1
  replace hb1 := At_slice.1 hb1
  obtain ⟨vb1, lb1, rfl, rfl, wb1, hvb1⟩ := hb1
  have ob1 := hvb1.one
  obtain ⟨t0, e0, q0⟩ := eq_RdnS H _ _ _ _ ka0 kb0
  simp only [valOf, List.headD_cons, List.append_nil, List.cons_append, List.nil_append] at q0
  cases t0 with
  | false =>
    have e0 : ¬ (.lst la0) = (U.lst lb0) := fun h => by simpa using e0.2 h
    refine ⟨false, by simp only [U.st.injEq, List.cons.injEq, e0, and_false, false_and, Bool.false_eq_true], ?_⟩
    apply Ret.eq
    rw [op15]
    simp [code15, Tryz.f15, valOf, q0, oa0, oa1, ob0, ob1]
  | true =>
  have e0 := e0.1 rfl
  obtain ⟨t1, e1, q1⟩ := eq_AttrS H _ _ _ _ ka1 kb1
  simp only [valOf, List.headD_cons, List.append_nil, List.cons_append, List.nil_append] at q1
  cases t1 with
  | false =>
    have e1 : ¬ (.lst la1) = (U.lst lb1) := fun h => by simpa using e1.2 h
    refine ⟨false, by simp only [U.st.injEq, List.cons.injEq, e1, and_false, false_and, Bool.false_eq_true], ?_⟩
    apply Ret.eq
    rw [op15]
    simp [code15, Tryz.f15, valOf, q0, q1, oa0, oa1, ob0, ob1]
  | true =>
  have e1 := e1.1 rfl
  refine ⟨true, by simp only [e0, e1], ?_⟩
  apply Ret.eq
  rw [op15]
  simp [code15, Tryz.f15, valOf, q0, q1, oa0, oa1, ob0, ob1]
set_option maxRecDepth 10000 in
theorem eq_Class : EqFn 53 shClass := by
  intro H cs ds u w h h'
  replace h := At_st.1 h
  obtain ⟨usa, rfl, h⟩ := h
  replace h := Ats_cons.1 h
  obtain ⟨ca0, da0, ua0, rra0, rfl, rfl, ha0, h⟩ := h
  replace h := Ats_cons.1 h
  obtain ⟨ca1, da1, ua1, rra1, rfl, rfl, ha1, h⟩ := h
  replace h := Ats_cons.1 h
  obtain ⟨ca2, da2, ua2, rra2, rfl, rfl, ha2, h⟩ := h
  replace h := Ats_cons.1 h
  obtain ⟨ca3, da3, ua3, rra3, rfl, rfl, ha3, h⟩ := h
  replace h := Ats_nil.1 h
  obtain ⟨rfl, rfl⟩ := h
  replace ha0 := At_str.1 ha0
  obtain ⟨sa0, rfl, rfl, wa0⟩ := ha0
  have ka1 := ha1
  replace ha1 := At_slice.1 ha1
  obtain ⟨va1, la1, rfl, rfl, wa1, hva1⟩ := ha1
  have oa1 := hva1.one
  have ka2 := ha2
  replace ha2 := At_slice.1 ha2
  obtain ⟨va2, la2, rfl, rfl, wa2, hva2⟩ := ha2
  have oa2 := hva2.one
  have ka3 := ha3
  replace ha3 := At_slice.1 ha3
  obtain ⟨va3, la3, rfl, rfl, wa3, hva3⟩ := ha3
  have oa3 := hva3.one
  replace h' := At_st.1 h'
  obtain ⟨usb, rfl, h'⟩ := h'
  replace h' := Ats_cons.1 h'
  obtain ⟨cb0, db0, ub0, rrb0, rfl, rfl, hb0, h'⟩ := h'
  replace h' := Ats_cons.1 h'
  obtain ⟨cb1, db1, ub1, rrb1, rfl, rfl, hb1, h'⟩ := h'
  replace h' := Ats_cons.1 h'
  obtain ⟨cb2, db2, ub2, rrb2, rfl, rfl, hb2, h'⟩ := h'
  replace h' := Ats_cons.1 h'
  obtain ⟨cb3, db3, ub3, rrb3, rfl, rfl, hb3, h'⟩ := h'
  replace h' := Ats_nil.1 h'
  obtain ⟨rfl, rfl⟩ := h'
  replace hb0 := At_str.1 hb0
  obtain ⟨sb0, rfl, rfl, wb0⟩ := hb0
  have kb1 := hb1
  replace hb1 := At_slice.1 hb1
  obtain ⟨vb1, lb1, rfl, rfl, wb1, hvb1⟩ := hb1
  have ob1 := hvb1.one
  have kb2 := hb2
  replace hb2 := At_slice.1 hb2
  obtain ⟨vb2, lb2, rfl, rfl, wb2, hvb2⟩ := hb2
  have ob2 := hvb2.one
  have kb3 := hb3
  replace hb3 := At_slice.1 hb3
  obtain ⟨vb3, lb3, rfl, rfl, wb3, hvb3⟩ := hb3
  have ob3 := hvb3.one
  by_cases e0 : sa0 = sb0
  rotate_left
  · refine ⟨false, by simp [e0], ?_⟩
    apply Ret.eq
    rw [op53]
    simp [code53, Tryz.f53, valOf, e0, oa1, oa2, oa3, ob1, ob2, ob3]
  subst e0
  obtain ⟨t1, e1, q1⟩ := eq_StringS H _ _ _ _ ka1 kb1
  simp only [valOf, List.headD_cons, List.append_nil, List.cons_append, List.nil_append] at q1
  cases t1 with
  | false =>
    have e1 : ¬ (.lst la1) = (U.lst lb1) := fun h => by simpa using e1.2 h
    refine ⟨false, by simp only [U.st.injEq, List.cons.injEq, e1, and_false, false_and, Bool.false_eq_true], ?_⟩
    apply Ret.eq
    rw [op53]
    simp [code53, Tryz.f53, valOf, q1, oa1, oa2, oa3, ob1, ob2, ob3]
  | true =>
  have e1 := e1.1 rfl
  obtain ⟨t2, e2, q2⟩ := eq_StringS H _ _ _ _ ka2 kb2
  simp only [valOf, List.headD_cons, List.append_nil, List.cons_append, List.nil_append] at q2
  cases t2 with
  | false =>
    have e2 : ¬ (.lst la2) = (U.lst lb2) := fun h => by simpa using e2.2 h
    refine ⟨false, by simp only [U.st.injEq, List.cons.injEq, e2, and_false, false_and, Bool.false_eq_true], ?_⟩
    apply Ret.eq
    rw [op53]
    simp [code53, Tryz.f53, valOf, q1, q2, oa1, oa2, oa3, ob1, ob2, ob3]
  | true =>
  have e2 := e2.1 rfl
  obtain ⟨t3, e3, q3⟩ := eq_StringS H _ _ _ _ ka3 kb3
  simp only [valOf, List.headD_cons, List.append_nil, List.cons_append, List.nil_append] at q3
  cases t3 with
  | false =>
    have e3 : ¬ (.lst la3) = (U.lst lb3) := fun h => by simpa using e3.2 h
    refine ⟨false, by simp only [U.st.injEq, List.cons.injEq, e3, and_false, false_and, Bool.false_eq_true], ?_⟩
    apply Ret.eq
    rw [op53]
    simp [code53, Tryz.f53, valOf, q1, q2, q3, oa1, oa2, oa3, ob1, ob2, ob3]
  | true =>
  have e3 := e3.1 rfl
  refine ⟨true, by simp only [e1, e2, e3], ?_⟩
  apply Ret.eq
  rw [op53]
  simp [code53, Tryz.f53, valOf, q1, q2, q3, oa1, oa2, oa3, ob1, ob2, ob3]
theorem eq_ClassS : EqFn 14 (.slice shClass) :=
  eqSlc (f := 14) (g := 53) (tS := 31) (tE := 73) (F := Tryz.f14) (op_ren (c := code14) (by kernel_rfl) op14) rfl ord14_6 ty31 (by rw [ty73]; rfl) (by rw [ty73]; rfl) (by rw [ty73]; decide) eq_Class
end Go.Proofs.Try1

namespace Go.Proofs.Try1
open Go Go.Lite
set_option linter.unusedSimpArgs false
set_option linter.unusedVariables false
set_option maxRecDepth 10000 in
theorem to_Rdn : ToFn 100 shRdn := by
  intro H cs u h hwt
  replace h := At_st.1 h
  obtain ⟨us, rfl, h⟩ := h
  replace h := Ats_cons.1 h
  obtain ⟨c0, d0, u0, rr0, rfl, rfl, h0, h⟩ := h
  replace h := Ats_cons.1 h
  obtain ⟨c1, d1, u1, rr1, rfl, rfl, h1, h⟩ := h
  replace h := Ats_nil.1 h
  obtain ⟨rfl, rfl⟩ := h
  replace h0 := At_str.1 h0
  obtain ⟨s0, rfl, rfl, w0⟩ := h0
  replace h1 := At_str.1 h1
  obtain ⟨s1, rfl, rfl, w1⟩ := h1
  simp only [wt_st, wts_cons, wts_nil, wt_str, wt_int, wt_bool] at hwt
  have hA : AtF H shRdn _ _ _ := AtF_st.2 ⟨_, rfl, AtsF_cons.2 ⟨[_], _, _, _, [], [], rfl, rfl, rfl, AtF_str.2 ⟨⟨_, rfl, rfl, w0⟩, rfl⟩, AtsF_cons.2 ⟨[_], _, _, _, [], [], rfl, rfl, rfl, AtF_str.2 ⟨⟨_, rfl, rfl, w1⟩, rfl⟩, AtsF_nil.2 ⟨rfl, rfl, rfl⟩⟩⟩⟩
  apply Ret.to
  rw [op100]
  simp [code100, Tryz.f100, valOf]
  exact ⟨[], by simpa using hA, by simp, by simp⟩
theorem to_RdnS : ToFn 47 (.slice shRdn) :=
  toSlc (f := 47) (g := 100) (tS := 23) (tE := 115) (tS2 := 33) (tE2 := 120) (F := Tryz.f47) (op_ren (c := code47) (by kernel_rfl) op47) rfl ty23 (by rw [ty115]; rfl) (by rw [ty115]; rfl) (by rw [ty115]; decide) (by decide) ty33 ty120 rfl to_Rdn
set_option maxRecDepth 10000 in
theorem to_Attr : ToFn 101 shAttr := by
  intro H cs u h hwt
  replace h := At_st.1 h
  obtain ⟨us, rfl, h⟩ := h
  replace h := Ats_cons.1 h
  obtain ⟨c0, d0, u0, rr0, rfl, rfl, h0, h⟩ := h
  replace h := Ats_cons.1 h
  obtain ⟨c1, d1, u1, rr1, rfl, rfl, h1, h⟩ := h
  replace h := Ats_nil.1 h
  obtain ⟨rfl, rfl⟩ := h
  replace h0 := At_str.1 h0
  obtain ⟨s0, rfl, rfl, w0⟩ := h0
  have k1 := h1
  replace h1 := At_slice.1 h1
  obtain ⟨v1, l1, rfl, rfl, w1, hv1⟩ := h1
  have o1 := hv1.one
  simp only [wt_st, wts_cons, wts_nil, wt_str, wt_int, wt_bool] at hwt
  obtain ⟨T1, x1, G1, q1, a1, m1, g1⟩ := to_StringS (H) _ _ (k1) (by omega)
  have y1 := a1
  obtain ⟨z1, _, rfl, zz1, _, _⟩ := AtF_slice.1 y1
  cases zz1
  have oz1 := (At_slice.1 (AtF.at _ a1))
  obtain ⟨_, _, x1, x2, _, oz1⟩ := oz1
  cases x1
  cases x2
  have oz1 := oz1.one
  simp only [valOf, List.headD_cons, List.append_nil, List.cons_append, List.nil_append, List.append_assoc] at q1
  have hA : AtF (H ++ T1) shAttr _ _ _ := AtF_st.2 ⟨_, rfl, AtsF_cons.2 ⟨[_], _, _, _, [], _, rfl, rfl, rfl, AtF_str.2 ⟨⟨_, rfl, rfl, w0⟩, rfl⟩, AtsF_cons.2 ⟨[_], _, _, _, G1, _, rfl, rfl, rfl, (a1), AtsF_nil.2 ⟨rfl, rfl, rfl⟩⟩⟩⟩
  simp only [List.append_assoc, List.nil_append, List.append_nil] at hA
  skip
  have hge : ∀ q ∈ G1, H.length ≤ q := by
    intro q hq
    try simp only [List.mem_append] at hq
    · have := g1 q hq; omega
  have hnd : (G1).Nodup := by
    have b1 := AtF.mem _ a1
    exact m1
  obtain ⟨T, hT, hA⟩ := gcH_to hA hge
  simp only [List.cons_append, List.nil_append, List.append_nil] at hT
  apply Ret.to
  rw [op101]
  simp [code101, Tryz.f101, valOf, hT, q1, o1, oz1]
  exact ⟨_, hA, hnd, hge⟩
theorem to_AttrS : ToFn 48 (.slice shAttr) :=
  toSlc (f := 48) (g := 101) (tS := 24) (tE := 117) (tS2 := 34) (tE2 := 63) (F := Tryz.f48) (op_ren (c := code48) (by kernel_rfl) op48) rfl ty24 (by rw [ty117]; rfl) (by rw [ty117]; rfl) (by rw [ty117]; decide) (by decide) ty34 ty63 rfl to_Attr
set_option maxRecDepth 10000 in
theorem to_Entry : ToFn 11 shEntry := by
  intro H cs u h hwt
  replace h := At_st.1 h
  obtain ⟨us, rfl, h⟩ := h
  replace h := Ats_cons.1 h
  obtain ⟨c0, d0, u0, rr0, rfl, rfl, h0, h⟩ := h
  replace h := Ats_cons.1 h
  obtain ⟨c1, d1, u1, rr1, rfl, rfl, h1, h⟩ := h
  replace h := Ats_nil.1 h
  obtain ⟨rfl, rfl⟩ := h
  have k0 := h0
  replace h0 := At_slice.1 h0
  obtain ⟨v0, l0, rfl, rfl, w0, hv0⟩ := h0
  have o0 := hv0.one
  have k1 := h1
  replace h1 := At_slice.1 h1
  obtain ⟨v1, l1, rfl, rfl, w1, hv1⟩ := h1
  have o1 := hv1.one
  simp only [wt_st, wts_cons, wts_nil, wt_str, wt_int, wt_bool] at hwt
  obtain ⟨T0, x0, G0, q0, a0, m0, g0⟩ := to_RdnS (H) _ _ (k0) (by omega)
  have y0 := a0
  obtain ⟨z0, _, rfl, zz0, _, _⟩ := AtF_slice.1 y0
  cases zz0
  have oz0 := (At_slice.1 (AtF.at _ a0))
  obtain ⟨_, _, x1, x2, _, oz0⟩ := oz0
  cases x1
  cases x2
  have oz0 := oz0.one
  simp only [valOf, List.headD_cons, List.append_nil, List.cons_append, List.nil_append, List.append_assoc] at q0
  obtain ⟨T1, x1, G1, q1, a1, m1, g1⟩ := to_AttrS (H ++ T0) _ _ (k1.ext) (by omega)
  have y1 := a1
  obtain ⟨z1, _, rfl, zz1, _, _⟩ := AtF_slice.1 y1
  cases zz1
  have oz1 := (At_slice.1 (AtF.at _ a1))
  obtain ⟨_, _, x1, x2, _, oz1⟩ := oz1
  cases x1
  cases x2
  have oz1 := oz1.one
  simp only [valOf, List.headD_cons, List.append_nil, List.cons_append, List.nil_append, List.append_assoc] at q1
  have hA : AtF (H ++ T0 ++ T1) shEntry _ _ _ := AtF_st.2 ⟨_, rfl, AtsF_cons.2 ⟨[_], _, _, _, G0, _, rfl, rfl, rfl, (a0.app), AtsF_cons.2 ⟨[_], _, _, _, G1, _, rfl, rfl, rfl, (a1), AtsF_nil.2 ⟨rfl, rfl, rfl⟩⟩⟩⟩
  simp only [List.append_assoc, List.nil_append, List.append_nil] at hA
  simp only [List.length_append] at g0 g1
  have hge : ∀ q ∈ G0 ++ (G1), H.length ≤ q := by
    intro q hq
    try simp only [List.mem_append] at hq
    rcases hq with hq | hq
    · have := g0 q hq; omega
    · have := g1 q hq; omega
  have hnd : (G0 ++ (G1)).Nodup := by
    have b0 := AtF.mem _ a0
    have b1 := AtF.mem _ a1
    simp only [List.length_append] at b0 b1
    refine List.nodup_append.2 ⟨m0, ?_, fun x hx y hy e => ?_⟩
    rotate_left
    · subst e
      have := b0 x hx
      try simp only [List.mem_append] at hy
      · have := g1 x hy; omega
    exact m1
  obtain ⟨T, hT, hA⟩ := gcH_to hA hge
  simp only [List.cons_append, List.nil_append, List.append_nil] at hT
  apply Ret.to
  rw [op11]
  simp [code11, Tryz.f11, valOf, hT, q0, q1, o0, o1, oz0, oz1]
  exact ⟨_, hA, hnd, hge⟩
set_option maxRecDepth 10000 in
theorem to_Class : ToFn 46 shClass := by
  intro H cs u h hwt
  replace h := At_st.1 h
  obtain ⟨us, rfl, h⟩ := h
  replace h := Ats_cons.1 h
  obtain ⟨c0, d0, u0, rr0, rfl, rfl, h0, h⟩ := h
  replace h := Ats_cons.1 h
  obtain ⟨c1, d1, u1, rr1, rfl, rfl, h1, h⟩ := h
  replace h := Ats_cons.1 h
  obtain ⟨c2, d2, u2, rr2, rfl, rfl, h2, h⟩ := h
  replace h := Ats_cons.1 h
  obtain ⟨c3, d3, u3, rr3, rfl, rfl, h3, h⟩ := h
  replace h := Ats_nil.1 h
  obtain ⟨rfl, rfl⟩ := h
  replace h0 := At_str.1 h0
  obtain ⟨s0, rfl, rfl, w0⟩ := h0
  have k1 := h1
  replace h1 := At_slice.1 h1
  obtain ⟨v1, l1, rfl, rfl, w1, hv1⟩ := h1
  have o1 := hv1.one
  have k2 := h2
  replace h2 := At_slice.1 h2
  obtain ⟨v2, l2, rfl, rfl, w2, hv2⟩ := h2
  have o2 := hv2.one
  have k3 := h3
  replace h3 := At_slice.1 h3
  obtain ⟨v3, l3, rfl, rfl, w3, hv3⟩ := h3
  have o3 := hv3.one
  simp only [wt_st, wts_cons, wts_nil, wt_str, wt_int, wt_bool] at hwt
  obtain ⟨T1, x1, G1, q1, a1, m1, g1⟩ := to_StringS (H) _ _ (k1) (by omega)
  have y1 := a1
  obtain ⟨z1, _, rfl, zz1, _, _⟩ := AtF_slice.1 y1
  cases zz1
  have oz1 := (At_slice.1 (AtF.at _ a1))
  obtain ⟨_, _, x1, x2, _, oz1⟩ := oz1
  cases x1
  cases x2
  have oz1 := oz1.one
  simp only [valOf, List.headD_cons, List.append_nil, List.cons_append, List.nil_append, List.append_assoc] at q1
  obtain ⟨T2, x2, G2, q2, a2, m2, g2⟩ := to_StringS (H ++ T1) _ _ (k2.ext) (by omega)
  have y2 := a2
  obtain ⟨z2, _, rfl, zz2, _, _⟩ := AtF_slice.1 y2
  cases zz2
  have oz2 := (At_slice.1 (AtF.at _ a2))
  obtain ⟨_, _, x1, x2, _, oz2⟩ := oz2
  cases x1
  cases x2
  have oz2 := oz2.one
  simp only [valOf, List.headD_cons, List.append_nil, List.cons_append, List.nil_append, List.append_assoc] at q2
  obtain ⟨T3, x3, G3, q3, a3, m3, g3⟩ := to_StringS (H ++ T1 ++ T2) _ _ (k3.ext.ext) (by omega)
  have y3 := a3
  obtain ⟨z3, _, rfl, zz3, _, _⟩ := AtF_slice.1 y3
  cases zz3
  have oz3 := (At_slice.1 (AtF.at _ a3))
  obtain ⟨_, _, x1, x2, _, oz3⟩ := oz3
  cases x1
  cases x2
  have oz3 := oz3.one
  simp only [valOf, List.headD_cons, List.append_nil, List.cons_append, List.nil_append, List.append_assoc] at q3
  have hA : AtF (H ++ T1 ++ T2 ++ T3) shClass _ _ _ := AtF_st.2 ⟨_, rfl, AtsF_cons.2 ⟨[_], _, _, _, [], _, rfl, rfl, rfl, AtF_str.2 ⟨⟨_, rfl, rfl, w0⟩, rfl⟩, AtsF_cons.2 ⟨[_], _, _, _, G1, _, rfl, rfl, rfl, (a1.app.app), AtsF_cons.2 ⟨[_], _, _, _, G2, _, rfl, rfl, rfl, (a2.app), AtsF_cons.2 ⟨[_], _, _, _, G3, _, rfl, rfl, rfl, (a3), AtsF_nil.2 ⟨rfl, rfl, rfl⟩⟩⟩⟩⟩⟩
  simp only [List.append_assoc, List.nil_append, List.append_nil] at hA
  simp only [List.length_append] at g1 g2 g3
  have hge : ∀ q ∈ G1 ++ (G2 ++ (G3)), H.length ≤ q := by
    intro q hq
    try simp only [List.mem_append] at hq
    rcases hq with hq | hq | hq
    · have := g1 q hq; omega
    · have := g2 q hq; omega
    · have := g3 q hq; omega
  have hnd : (G1 ++ (G2 ++ (G3))).Nodup := by
    have b1 := AtF.mem _ a1
    have b2 := AtF.mem _ a2
    have b3 := AtF.mem _ a3
    simp only [List.length_append] at b1 b2 b3
    refine List.nodup_append.2 ⟨m1, ?_, fun x hx y hy e => ?_⟩
    rotate_left
    · subst e
      have := b1 x hx
      try simp only [List.mem_append] at hy
      rcases hy with hy | hy
      · have := g2 x hy; omega
      · have := g3 x hy; omega
    refine List.nodup_append.2 ⟨m2, ?_, fun x hx y hy e => ?_⟩
    rotate_left
    · subst e
      have := b2 x hx
      try simp only [List.mem_append] at hy
      · have := g3 x hy; omega
    exact m3
  obtain ⟨T, hT, hA⟩ := gcH_to hA hge
  simp only [List.cons_append, List.nil_append, List.append_nil] at hT
  apply Ret.to
  rw [op46]
  simp [code46, Tryz.f46, valOf, hT, q1, q2, q3, o1, o2, o3, oz1, oz2, oz3]
  exact ⟨_, hA, hnd, hge⟩
theorem to_ClassS : ToFn 10 (.slice shClass) :=
  toSlc (f := 10) (g := 46) (tS := 22) (tE := 69) (tS2 := 31) (tE2 := 73) (F := Tryz.f10) (op_ren (c := code10) (by kernel_rfl) op10) rfl ty22 (by rw [ty69]; rfl) (by rw [ty69]; rfl) (by rw [ty69]; decide) (by decide) ty31 ty73 rfl to_Class
end Go.Proofs.Try1

namespace Go.Proofs.Try1
open Go Go.Lite
set_option linter.unusedSimpArgs false
set_option linter.unusedVariables false
set_option maxRecDepth 10000 in
theorem mk_RdnS : MkFn 57 (.slice shRdn) := by
  intro H cs u F k h hn hk
  obtain ⟨v, l, rfl, rfl, hlen, hv⟩ := AtF_slice.1 h
  have hv := (AtF_slice.2 ⟨v, l, rfl, rfl, hlen, hv⟩).at
  obtain ⟨_, _, hx1, hx2, _, hv⟩ := At_slice.1 hv
  cases hx1; cases hx2
  apply Ret.mark
  rw [op57]
  simp only [cntV] at hk
  have hl64 : l.length ≤ 9223372036854775807 := hlen
  simp [code57, Tryz.f57, valOf, -setRange]
  refine WP_loop (fun m σ => ∃ (i : Nat) (r : Nat → R) (G : List Ob), i + m = l.length ∧ σ = ⟨r, 0, G⟩ ∧ r 0 = .val v ∧ r 1 = .val (.int .i64 ((k + cntPs (l.take i) : Nat) : Int)) ∧ r 5 = .val (.int .i64 i) ∧ G.length = H.length ∧ (∀ q, q ∉ F → G[q]? = H[q]?) ∧ AtF G (.slice shRdn) [v] (.lst (mkPs (l.take i) k ++ l.drop i)) F) ?_ l.length _ ⟨0, _, H, by simp, rfl, by simp, by simp [cntPs], by simp, rfl, fun _ _ => rfl, by simpa [mkPs] using h⟩
  rintro m σ ⟨i, r, G, him, rfl, r0, r1, r5, g1, g2, g3⟩
  cases m with
  | zero =>
    have hi : i = l.length := by omega
    subst hi
    simp at g3
    simp [r0, r1, r5, hv.len, gcH_len g1, cntV, mkV]
    exact ⟨g1, g2, g3⟩
  | succ m =>
    have hi : i < l.length := by omega
    obtain ⟨x, hx⟩ : ∃ x, l[i]? = some x := ⟨l[i], by simp [hi]⟩
    have hx0 : (mkPs (l.take i) k ++ l.drop i)[i]? = some x := by rw [mk_get hi, hx]
    have hmk := mk_set (k := k) hx
    have hcnt := cntPs_take hx
    have hle := cntPs_take_le (l := l) (i := i + 1)
    have hL : (mkPs (l.take i) k ++ l.drop i).length = l.length := by simp [mkPs_len]; omega
    obtain ⟨L, hLd⟩ : ∃ L, L = mkPs (l.take i) k ++ l.drop i := ⟨_, rfl⟩
    rw [← hLd] at hx0 hmk hL g3
    clear hLd
    obtain ⟨id, off, cells, K, e0, e1, e2, e3, e4, e5, e6, e7, e8⟩ := AtF.elem g3 hn hx0
    clear e1 e2 e4 e5 e7 e8
    rw [hL] at e0
    subst e0
    generalize List.take (shRdn).size (List.drop (off + i * (shRdn).size) cells) = cc at e3
    replace e3 := AtF_st.1 e3
    obtain ⟨us, rfl, e3⟩ := e3
    replace e3 := AtsF_cons.1 e3
    obtain ⟨c0, d0, u0, rr0, F0, E0, rfl, rfl, rfl, h0, e3⟩ := e3
    replace e3 := AtsF_cons.1 e3
    obtain ⟨c1, d1, u1, rr1, F1, E1, rfl, rfl, rfl, h1, e3⟩ := e3
    replace e3 := AtsF_nil.1 e3
    obtain ⟨rfl, rfl, rfl⟩ := e3
    replace h0 := AtF_str.1 h0
    obtain ⟨⟨s0, rfl, rfl, w0⟩, rfl⟩ := h0
    replace h1 := AtF_str.1 h1
    obtain ⟨⟨s1, rfl, rfl, w1⟩, rfl⟩ := h1
    simp only [cntP, cntPs_cons, cntPs_nil, Nat.add_zero] at hcnt
    obtain ⟨kk, hkk⟩ : ∃ kk, kk = k + cntPs (l.take i) := ⟨_, rfl⟩
    rw [← hkk] at r1
    obtain ⟨id0, off0, cells0, w0, K0, ev0, eg0, ei0, ek0, ew0, ea0, en0, es0, er0, et0⟩ := AtF.field [] g3 hn (i := i) (us1 := []) (u := (.str s0)) (us2 := [(.str s1)]) hx0 rfl rfl
    simp only [V.slc.injEq, Option.some.injEq, Prod.mk.injEq] at ev0
    obtain ⟨⟨rfl, rfl⟩, _⟩ := ev0
    simp only [shRdn, Sh.size_st, Sh.sizes_cons, Sh.sizes_nil, Sh.size_str, Sh.size_slice, Sh.size_int, Sh.size_bool, List.cons_append, List.nil_append, Nat.reduceAdd, Nat.add_zero] at eg0 ew0 et0 er0
    obtain ⟨_, rfl⟩ := AtF_str.1 ea0
    have q0 := markText (H := G) (k := kk) (by omega)
    have st0 := store1 (v := (.str (markStr kk))) eg0 (List.getElem?_eq_some_iff.1 ew0).1 rfl rfl
    have A0 := et0 (.str (markStr kk)) (.str (markStr kk)) (AtF_str.2 ⟨⟨_, rfl, rfl, mark_ok (by omega)⟩, rfl⟩)
    obtain ⟨G0, hG0⟩ : ∃ G', G' = G.set id (.mk true 2 (cells0.set (off + i * 2) (.str (markStr kk)))) := ⟨_, rfl⟩
    rw [← hG0] at st0 A0
    have ln0 : G0.length = H.length := by rw [hG0, List.length_set]; exact g1
    have fr0 : ∀ q, q ∉ F → G0[q]? = H[q]? := fun q hq => by rw [hG0, List.getElem?_set_ne (by rintro rfl; exact hq e6)]; exact g2 q hq
    clear hG0
    obtain ⟨kk0, hkk0⟩ : ∃ n, n = kk + 1 := ⟨_, rfl⟩
    have hw0 : IntKind.i64.wrap ((kk : Int) + 1) = (kk0 : Int) := by rw [wrap_i64 (by omega) (by omega)]; omega
    have hx0_ : (L.set i (.st [(.str (markStr kk)), (.str s1)]))[i]? = some (.st [(.str (markStr kk)), (.str s1)]) := List.getElem?_set_self (by omega)
    obtain ⟨id1, off1, cells1, w1, K1, ev1, eg1, ei1, ek1, ew1, ea1, en1, es1, er1, et1⟩ := AtF.field [.str] A0 hn (i := i) (us1 := [(.str (markStr kk))]) (u := (.str s1)) (us2 := []) hx0_ rfl rfl
    simp only [V.slc.injEq, Option.some.injEq, Prod.mk.injEq] at ev1
    obtain ⟨⟨rfl, rfl⟩, _⟩ := ev1
    simp only [shRdn, Sh.size_st, Sh.sizes_cons, Sh.sizes_nil, Sh.size_str, Sh.size_slice, Sh.size_int, Sh.size_bool, List.cons_append, List.nil_append, Nat.reduceAdd, Nat.add_zero] at eg1 ew1 et1 er1
    obtain ⟨_, rfl⟩ := AtF_str.1 ea1
    have q1 := markText (H := G0) (k := kk0) (by omega)
    have st1 := store1 (v := (.str (markStr kk0))) eg1 (List.getElem?_eq_some_iff.1 ew1).1 rfl rfl
    have A1 := et1 (.str (markStr kk0)) (.str (markStr kk0)) (AtF_str.2 ⟨⟨_, rfl, rfl, mark_ok (by omega)⟩, rfl⟩)
    obtain ⟨G1, hG1⟩ : ∃ G', G' = G0.set id (.mk true 2 (cells1.set (off + i * 2 + 1) (.str (markStr kk0)))) := ⟨_, rfl⟩
    rw [← hG1] at st1 A1
    have ln1 : G1.length = H.length := by rw [hG1, List.length_set]; exact ln0
    have fr1 : ∀ q, q ∉ F → G1[q]? = H[q]? := fun q hq => by rw [hG1, List.getElem?_set_ne (by rintro rfl; exact hq e6)]; exact fr0 q hq
    clear hG1
    obtain ⟨kk1, hkk1⟩ : ∃ n, n = kk0 + 1 := ⟨_, rfl⟩
    have hw1 : IntKind.i64.wrap ((kk0 : Int) + 1) = (kk1 : Int) := by rw [wrap_i64 (by omega) (by omega)]; omega
    rw [List.set_set] at A1
    have hx1_ : (L.set i (.st [(.str (markStr kk)), (.str (markStr kk0))]))[i]? = some (.st [(.str (markStr kk)), (.str (markStr kk0))]) := List.getElem?_set_self (by omega)
    have hks : k + cntPs (l.take (i + 1)) = kk1 := by omega
    rw [show L.set i (.st [(.str (markStr kk)), (.str (markStr kk0))]) = _ from (by simp only [hkk0, hkk1, hkk]; exact hmk)] at A1
    have hw : IntKind.i64.wrap ((i : Int) + 1) = ((i : Int) + 1) := wrap_i64 (by omega) (by omega)
    have hix : i + 1 ≤ l.length := hi
    simp [r0, r1, r5, hi, hw, q0, st0, hw0, q1, st1, hw1, -setRange]
    exact ⟨m, by omega, i + 1, by omega, _, _, ⟨rfl, rfl⟩, by simp [r0], by simp; omega, by simp, ln1, fr1, A1⟩
set_option maxRecDepth 10000 in
theorem mk_AttrS : MkFn 58 (.slice shAttr) := by
  intro H cs u F k h hn hk
  obtain ⟨v, l, rfl, rfl, hlen, hv⟩ := AtF_slice.1 h
  have hv := (AtF_slice.2 ⟨v, l, rfl, rfl, hlen, hv⟩).at
  obtain ⟨_, _, hx1, hx2, _, hv⟩ := At_slice.1 hv
  cases hx1; cases hx2
  apply Ret.mark
  rw [op58]
  simp only [cntV] at hk
  have hl64 : l.length ≤ 9223372036854775807 := hlen
  simp [code58, Tryz.f58, valOf, -setRange]
  refine WP_loop (fun m σ => ∃ (i : Nat) (r : Nat → R) (G : List Ob), i + m = l.length ∧ σ = ⟨r, 0, G⟩ ∧ r 0 = .val v ∧ r 1 = .val (.int .i64 ((k + cntPs (l.take i) : Nat) : Int)) ∧ r 5 = .val (.int .i64 i) ∧ G.length = H.length ∧ (∀ q, q ∉ F → G[q]? = H[q]?) ∧ AtF G (.slice shAttr) [v] (.lst (mkPs (l.take i) k ++ l.drop i)) F) ?_ l.length _ ⟨0, _, H, by simp, rfl, by simp, by simp [cntPs], by simp, rfl, fun _ _ => rfl, by simpa [mkPs] using h⟩
  rintro m σ ⟨i, r, G, him, rfl, r0, r1, r5, g1, g2, g3⟩
  cases m with
  | zero =>
    have hi : i = l.length := by omega
    subst hi
    simp at g3
    simp [r0, r1, r5, hv.len, gcH_len g1, cntV, mkV]
    exact ⟨g1, g2, g3⟩
  | succ m =>
    have hi : i < l.length := by omega
    obtain ⟨x, hx⟩ : ∃ x, l[i]? = some x := ⟨l[i], by simp [hi]⟩
    have hx0 : (mkPs (l.take i) k ++ l.drop i)[i]? = some x := by rw [mk_get hi, hx]
    have hmk := mk_set (k := k) hx
    have hcnt := cntPs_take hx
    have hle := cntPs_take_le (l := l) (i := i + 1)
    have hL : (mkPs (l.take i) k ++ l.drop i).length = l.length := by simp [mkPs_len]; omega
    obtain ⟨L, hLd⟩ : ∃ L, L = mkPs (l.take i) k ++ l.drop i := ⟨_, rfl⟩
    rw [← hLd] at hx0 hmk hL g3
    clear hLd
    obtain ⟨id, off, cells, K, e0, e1, e2, e3, e4, e5, e6, e7, e8⟩ := AtF.elem g3 hn hx0
    clear e1 e2 e4 e5 e7 e8
    rw [hL] at e0
    subst e0
    generalize List.take (shAttr).size (List.drop (off + i * (shAttr).size) cells) = cc at e3
    replace e3 := AtF_st.1 e3
    obtain ⟨us, rfl, e3⟩ := e3
    replace e3 := AtsF_cons.1 e3
    obtain ⟨c0, d0, u0, rr0, F0, E0, rfl, rfl, rfl, h0, e3⟩ := e3
    replace e3 := AtsF_cons.1 e3
    obtain ⟨c1, d1, u1, rr1, F1, E1, rfl, rfl, rfl, h1, e3⟩ := e3
    replace e3 := AtsF_nil.1 e3
    obtain ⟨rfl, rfl, rfl⟩ := e3
    replace h0 := AtF_str.1 h0
    obtain ⟨⟨s0, rfl, rfl, w0⟩, rfl⟩ := h0
    have k1 := h1
    replace h1 := AtF_slice.1 h1
    obtain ⟨v1, l1, rfl, rfl, w1, hv1⟩ := h1
    have o1 := (At_slice.1 (AtF.at _ k1))
    obtain ⟨_, _, x1, x2, _, o1⟩ := o1
    cases x1
    cases x2
    have o1 := o1.one
    simp only [cntP, cntPs_cons, cntPs_nil, Nat.add_zero] at hcnt
    obtain ⟨kk, hkk⟩ : ∃ kk, kk = k + cntPs (l.take i) := ⟨_, rfl⟩
    rw [← hkk] at r1
    obtain ⟨id0, off0, cells0, w0, K0, ev0, eg0, ei0, ek0, ew0, ea0, en0, es0, er0, et0⟩ := AtF.field [] g3 hn (i := i) (us1 := []) (u := (.str s0)) (us2 := [(.lst l1)]) hx0 rfl rfl
    simp only [V.slc.injEq, Option.some.injEq, Prod.mk.injEq] at ev0
    obtain ⟨⟨rfl, rfl⟩, _⟩ := ev0
    simp only [shAttr, Sh.size_st, Sh.sizes_cons, Sh.sizes_nil, Sh.size_str, Sh.size_slice, Sh.size_int, Sh.size_bool, List.cons_append, List.nil_append, Nat.reduceAdd, Nat.add_zero] at eg0 ew0 et0 er0
    obtain ⟨_, rfl⟩ := AtF_str.1 ea0
    have q0 := markText (H := G) (k := kk) (by omega)
    have st0 := store1 (v := (.str (markStr kk))) eg0 (List.getElem?_eq_some_iff.1 ew0).1 rfl rfl
    have A0 := et0 (.str (markStr kk)) (.str (markStr kk)) (AtF_str.2 ⟨⟨_, rfl, rfl, mark_ok (by omega)⟩, rfl⟩)
    obtain ⟨G0, hG0⟩ : ∃ G', G' = G.set id (.mk true 2 (cells0.set (off + i * 2) (.str (markStr kk)))) := ⟨_, rfl⟩
    rw [← hG0] at st0 A0
    have ln0 : G0.length = H.length := by rw [hG0, List.length_set]; exact g1
    have fr0 : ∀ q, q ∉ F → G0[q]? = H[q]? := fun q hq => by rw [hG0, List.getElem?_set_ne (by rintro rfl; exact hq e6)]; exact g2 q hq
    clear hG0
    obtain ⟨kk0, hkk0⟩ : ∃ n, n = kk + 1 := ⟨_, rfl⟩
    have hw0 : IntKind.i64.wrap ((kk : Int) + 1) = (kk0 : Int) := by rw [wrap_i64 (by omega) (by omega)]; omega
    have hx0_ : (L.set i (.st [(.str (markStr kk)), (.lst l1)]))[i]? = some (.st [(.str (markStr kk)), (.lst l1)]) := List.getElem?_set_self (by omega)
    obtain ⟨id1, off1, cells1, w1, K1, ev1, eg1, ei1, ek1, ew1, ea1, en1, es1, er1, et1⟩ := AtF.field [.str] A0 hn (i := i) (us1 := [(.str (markStr kk))]) (u := (.lst l1)) (us2 := []) hx0_ rfl rfl
    simp only [V.slc.injEq, Option.some.injEq, Prod.mk.injEq] at ev1
    obtain ⟨⟨rfl, rfl⟩, _⟩ := ev1
    simp only [shAttr, Sh.size_st, Sh.sizes_cons, Sh.sizes_nil, Sh.size_str, Sh.size_slice, Sh.size_int, Sh.size_bool, List.cons_append, List.nil_append, Nat.reduceAdd, Nat.add_zero] at eg1 ew1 et1 er1
    obtain ⟨G1, q1, ln1, fr1, ma1⟩ := mk_StringS G0 [w1] _ K1 kk0 ea1 en1 (by simp only [cntPV, cntP]; omega)
    simp only [valOf, List.headD_cons] at q1
    have ld1 := load1 eg1 ew1
    have A1 := er1 G1 (.lst (mkPs l1 kk0)) (fun q _ hq => fr1 q hq) ma1
    have ln1 : G1.length = H.length := by rw [ln1]; first | exact g1 | exact ln0
    have fr1 : ∀ q, q ∉ F → G1[q]? = H[q]? := fun q hq => by rw [fr1 q fun h => hq (es1 q h)]; first | exact g2 q hq | exact fr0 q hq
    obtain ⟨kk1, hkk1⟩ : ∃ n, n = kk0 + cntP (.lst l1) := ⟨_, rfl⟩
    rw [cntPV, ← hkk1] at q1
    simp only [cntP] at hkk1
    rw [List.set_set] at A1
    have hx1_ : (L.set i (.st [(.str (markStr kk)), (.lst (mkPs l1 kk0))]))[i]? = some (.st [(.str (markStr kk)), (.lst (mkPs l1 kk0))]) := List.getElem?_set_self (by omega)
    have hks : k + cntPs (l.take (i + 1)) = kk1 := by omega
    rw [show L.set i (.st [(.str (markStr kk)), (.lst (mkPs l1 kk0))]) = _ from (by simp only [hkk0, hkk1, hkk]; exact hmk)] at A1
    have hw : IntKind.i64.wrap ((i : Int) + 1) = ((i : Int) + 1) := wrap_i64 (by omega) (by omega)
    have hix : i + 1 ≤ l.length := hi
    simp [r0, r1, r5, hi, hw, q0, st0, hw0, q1, ld1, -setRange]
    exact ⟨m, by omega, i + 1, by omega, _, _, ⟨rfl, rfl⟩, by simp [r0], by simp; omega, by simp, ln1, fr1, A1⟩
set_option maxRecDepth 10000 in
theorem mk_ClassS : MkFn 16 (.slice shClass) := by
  intro H cs u F k h hn hk
  obtain ⟨v, l, rfl, rfl, hlen, hv⟩ := AtF_slice.1 h
  have hv := (AtF_slice.2 ⟨v, l, rfl, rfl, hlen, hv⟩).at
  obtain ⟨_, _, hx1, hx2, _, hv⟩ := At_slice.1 hv
  cases hx1; cases hx2
  apply Ret.mark
  rw [op16]
  simp only [cntV] at hk
  have hl64 : l.length ≤ 9223372036854775807 := hlen
  simp [code16, Tryz.f16, valOf, -setRange]
  refine WP_loop (fun m σ => ∃ (i : Nat) (r : Nat → R) (G : List Ob), i + m = l.length ∧ σ = ⟨r, 0, G⟩ ∧ r 0 = .val v ∧ r 1 = .val (.int .i64 ((k + cntPs (l.take i) : Nat) : Int)) ∧ r 5 = .val (.int .i64 i) ∧ G.length = H.length ∧ (∀ q, q ∉ F → G[q]? = H[q]?) ∧ AtF G (.slice shClass) [v] (.lst (mkPs (l.take i) k ++ l.drop i)) F) ?_ l.length _ ⟨0, _, H, by simp, rfl, by simp, by simp [cntPs], by simp, rfl, fun _ _ => rfl, by simpa [mkPs] using h⟩
  rintro m σ ⟨i, r, G, him, rfl, r0, r1, r5, g1, g2, g3⟩
  cases m with
  | zero =>
    have hi : i = l.length := by omega
    subst hi
    simp at g3
    simp [r0, r1, r5, hv.len, gcH_len g1, cntV, mkV]
    exact ⟨g1, g2, g3⟩
  | succ m =>
    have hi : i < l.length := by omega
    obtain ⟨x, hx⟩ : ∃ x, l[i]? = some x := ⟨l[i], by simp [hi]⟩
    have hx0 : (mkPs (l.take i) k ++ l.drop i)[i]? = some x := by rw [mk_get hi, hx]
    have hmk := mk_set (k := k) hx
    have hcnt := cntPs_take hx
    have hle := cntPs_take_le (l := l) (i := i + 1)
    have hL : (mkPs (l.take i) k ++ l.drop i).length = l.length := by simp [mkPs_len]; omega
    obtain ⟨L, hLd⟩ : ∃ L, L = mkPs (l.take i) k ++ l.drop i := ⟨_, rfl⟩
    rw [← hLd] at hx0 hmk hL g3
    clear hLd
    obtain ⟨id, off, cells, K, e0, e1, e2, e3, e4, e5, e6, e7, e8⟩ := AtF.elem g3 hn hx0
    clear e1 e2 e4 e5 e7 e8
    rw [hL] at e0
    subst e0
    generalize List.take (shClass).size (List.drop (off + i * (shClass).size) cells) = cc at e3
    replace e3 := AtF_st.1 e3
    obtain ⟨us, rfl, e3⟩ := e3
    replace e3 := AtsF_cons.1 e3
    obtain ⟨c0, d0, u0, rr0, F0, E0, rfl, rfl, rfl, h0, e3⟩ := e3
    replace e3 := AtsF_cons.1 e3
    obtain ⟨c1, d1, u1, rr1, F1, E1, rfl, rfl, rfl, h1, e3⟩ := e3
    replace e3 := AtsF_cons.1 e3
    obtain ⟨c2, d2, u2, rr2, F2, E2, rfl, rfl, rfl, h2, e3⟩ := e3
    replace e3 := AtsF_cons.1 e3
    obtain ⟨c3, d3, u3, rr3, F3, E3, rfl, rfl, rfl, h3, e3⟩ := e3
    replace e3 := AtsF_nil.1 e3
    obtain ⟨rfl, rfl, rfl⟩ := e3
    replace h0 := AtF_str.1 h0
    obtain ⟨⟨s0, rfl, rfl, w0⟩, rfl⟩ := h0
    have k1 := h1
    replace h1 := AtF_slice.1 h1
    obtain ⟨v1, l1, rfl, rfl, w1, hv1⟩ := h1
    have o1 := (At_slice.1 (AtF.at _ k1))
    obtain ⟨_, _, x1, x2, _, o1⟩ := o1
    cases x1
    cases x2
    have o1 := o1.one
    have k2 := h2
    replace h2 := AtF_slice.1 h2
    obtain ⟨v2, l2, rfl, rfl, w2, hv2⟩ := h2
    have o2 := (At_slice.1 (AtF.at _ k2))
    obtain ⟨_, _, x1, x2, _, o2⟩ := o2
    cases x1
    cases x2
    have o2 := o2.one
    have k3 := h3
    replace h3 := AtF_slice.1 h3
    obtain ⟨v3, l3, rfl, rfl, w3, hv3⟩ := h3
    have o3 := (At_slice.1 (AtF.at _ k3))
    obtain ⟨_, _, x1, x2, _, o3⟩ := o3
    cases x1
    cases x2
    have o3 := o3.one
    simp only [cntP, cntPs_cons, cntPs_nil, Nat.add_zero] at hcnt
    obtain ⟨kk, hkk⟩ : ∃ kk, kk = k + cntPs (l.take i) := ⟨_, rfl⟩
    rw [← hkk] at r1
    obtain ⟨id0, off0, cells0, w0, K0, ev0, eg0, ei0, ek0, ew0, ea0, en0, es0, er0, et0⟩ := AtF.field [] g3 hn (i := i) (us1 := []) (u := (.str s0)) (us2 := [(.lst l1), (.lst l2), (.lst l3)]) hx0 rfl rfl
    simp only [V.slc.injEq, Option.some.injEq, Prod.mk.injEq] at ev0
    obtain ⟨⟨rfl, rfl⟩, _⟩ := ev0
    simp only [shClass, Sh.size_st, Sh.sizes_cons, Sh.sizes_nil, Sh.size_str, Sh.size_slice, Sh.size_int, Sh.size_bool, List.cons_append, List.nil_append, Nat.reduceAdd, Nat.add_zero] at eg0 ew0 et0 er0
    obtain ⟨_, rfl⟩ := AtF_str.1 ea0
    have q0 := markText (H := G) (k := kk) (by omega)
    have st0 := store1 (v := (.str (markStr kk))) eg0 (List.getElem?_eq_some_iff.1 ew0).1 rfl rfl
    have A0 := et0 (.str (markStr kk)) (.str (markStr kk)) (AtF_str.2 ⟨⟨_, rfl, rfl, mark_ok (by omega)⟩, rfl⟩)
    obtain ⟨G0, hG0⟩ : ∃ G', G' = G.set id (.mk true 4 (cells0.set (off + i * 4) (.str (markStr kk)))) := ⟨_, rfl⟩
    rw [← hG0] at st0 A0
    have ln0 : G0.length = H.length := by rw [hG0, List.length_set]; exact g1
    have fr0 : ∀ q, q ∉ F → G0[q]? = H[q]? := fun q hq => by rw [hG0, List.getElem?_set_ne (by rintro rfl; exact hq e6)]; exact g2 q hq
    clear hG0
    obtain ⟨kk0, hkk0⟩ : ∃ n, n = kk + 1 := ⟨_, rfl⟩
    have hw0 : IntKind.i64.wrap ((kk : Int) + 1) = (kk0 : Int) := by rw [wrap_i64 (by omega) (by omega)]; omega
    have hx0_ : (L.set i (.st [(.str (markStr kk)), (.lst l1), (.lst l2), (.lst l3)]))[i]? = some (.st [(.str (markStr kk)), (.lst l1), (.lst l2), (.lst l3)]) := List.getElem?_set_self (by omega)
    obtain ⟨id1, off1, cells1, w1, K1, ev1, eg1, ei1, ek1, ew1, ea1, en1, es1, er1, et1⟩ := AtF.field [.str] A0 hn (i := i) (us1 := [(.str (markStr kk))]) (u := (.lst l1)) (us2 := [(.lst l2), (.lst l3)]) hx0_ rfl rfl
    simp only [V.slc.injEq, Option.some.injEq, Prod.mk.injEq] at ev1
    obtain ⟨⟨rfl, rfl⟩, _⟩ := ev1
    simp only [shClass, Sh.size_st, Sh.sizes_cons, Sh.sizes_nil, Sh.size_str, Sh.size_slice, Sh.size_int, Sh.size_bool, List.cons_append, List.nil_append, Nat.reduceAdd, Nat.add_zero] at eg1 ew1 et1 er1
    obtain ⟨G1, q1, ln1, fr1, ma1⟩ := mk_StringS G0 [w1] _ K1 kk0 ea1 en1 (by simp only [cntPV, cntP]; omega)
    simp only [valOf, List.headD_cons] at q1
    have ld1 := load1 eg1 ew1
    have A1 := er1 G1 (.lst (mkPs l1 kk0)) (fun q _ hq => fr1 q hq) ma1
    have ln1 : G1.length = H.length := by rw [ln1]; first | exact g1 | exact ln0
    have fr1 : ∀ q, q ∉ F → G1[q]? = H[q]? := fun q hq => by rw [fr1 q fun h => hq (es1 q h)]; first | exact g2 q hq | exact fr0 q hq
    obtain ⟨kk1, hkk1⟩ : ∃ n, n = kk0 + cntP (.lst l1) := ⟨_, rfl⟩
    rw [cntPV, ← hkk1] at q1
    simp only [cntP] at hkk1
    rw [List.set_set] at A1
    have hx1_ : (L.set i (.st [(.str (markStr kk)), (.lst (mkPs l1 kk0)), (.lst l2), (.lst l3)]))[i]? = some (.st [(.str (markStr kk)), (.lst (mkPs l1 kk0)), (.lst l2), (.lst l3)]) := List.getElem?_set_self (by omega)
    obtain ⟨id2, off2, cells2, w2, K2, ev2, eg2, ei2, ek2, ew2, ea2, en2, es2, er2, et2⟩ := AtF.field [.str, (.slice .str)] A1 hn (i := i) (us1 := [(.str (markStr kk)), (.lst (mkPs l1 kk0))]) (u := (.lst l2)) (us2 := [(.lst l3)]) hx1_ rfl rfl
    simp only [V.slc.injEq, Option.some.injEq, Prod.mk.injEq] at ev2
    obtain ⟨⟨rfl, rfl⟩, _⟩ := ev2
    simp only [shClass, Sh.size_st, Sh.sizes_cons, Sh.sizes_nil, Sh.size_str, Sh.size_slice, Sh.size_int, Sh.size_bool, List.cons_append, List.nil_append, Nat.reduceAdd, Nat.add_zero] at eg2 ew2 et2 er2
    obtain ⟨G2, q2, ln2, fr2, ma2⟩ := mk_StringS G1 [w2] _ K2 kk1 ea2 en2 (by simp only [cntPV, cntP]; omega)
    simp only [valOf, List.headD_cons] at q2
    have ld2 := load1 eg2 ew2
    have A2 := er2 G2 (.lst (mkPs l2 kk1)) (fun q _ hq => fr2 q hq) ma2
    have ln2 : G2.length = H.length := by rw [ln2]; first | exact g1 | exact ln1
    have fr2 : ∀ q, q ∉ F → G2[q]? = H[q]? := fun q hq => by rw [fr2 q fun h => hq (es2 q h)]; first | exact g2 q hq | exact fr1 q hq
    obtain ⟨kk2, hkk2⟩ : ∃ n, n = kk1 + cntP (.lst l2) := ⟨_, rfl⟩
    rw [cntPV, ← hkk2] at q2
    simp only [cntP] at hkk2
    rw [List.set_set] at A2
    have hx2_ : (L.set i (.st [(.str (markStr kk)), (.lst (mkPs l1 kk0)), (.lst (mkPs l2 kk1)), (.lst l3)]))[i]? = some (.st [(.str (markStr kk)), (.lst (mkPs l1 kk0)), (.lst (mkPs l2 kk1)), (.lst l3)]) := List.getElem?_set_self (by omega)
    obtain ⟨id3, off3, cells3, w3, K3, ev3, eg3, ei3, ek3, ew3, ea3, en3, es3, er3, et3⟩ := AtF.field [.str, (.slice .str), (.slice .str)] A2 hn (i := i) (us1 := [(.str (markStr kk)), (.lst (mkPs l1 kk0)), (.lst (mkPs l2 kk1))]) (u := (.lst l3)) (us2 := []) hx2_ rfl rfl
    simp only [V.slc.injEq, Option.some.injEq, Prod.mk.injEq] at ev3
    obtain ⟨⟨rfl, rfl⟩, _⟩ := ev3
    simp only [shClass, Sh.size_st, Sh.sizes_cons, Sh.sizes_nil, Sh.size_str, Sh.size_slice, Sh.size_int, Sh.size_bool, List.cons_append, List.nil_append, Nat.reduceAdd, Nat.add_zero] at eg3 ew3 et3 er3
    obtain ⟨G3, q3, ln3, fr3, ma3⟩ := mk_StringS G2 [w3] _ K3 kk2 ea3 en3 (by simp only [cntPV, cntP]; omega)
    simp only [valOf, List.headD_cons] at q3
    have ld3 := load1 eg3 ew3
    have A3 := er3 G3 (.lst (mkPs l3 kk2)) (fun q _ hq => fr3 q hq) ma3
    have ln3 : G3.length = H.length := by rw [ln3]; first | exact g1 | exact ln2
    have fr3 : ∀ q, q ∉ F → G3[q]? = H[q]? := fun q hq => by rw [fr3 q fun h => hq (es3 q h)]; first | exact g2 q hq | exact fr2 q hq
    obtain ⟨kk3, hkk3⟩ : ∃ n, n = kk2 + cntP (.lst l3) := ⟨_, rfl⟩
    rw [cntPV, ← hkk3] at q3
    simp only [cntP] at hkk3
    rw [List.set_set] at A3
    have hx3_ : (L.set i (.st [(.str (markStr kk)), (.lst (mkPs l1 kk0)), (.lst (mkPs l2 kk1)), (.lst (mkPs l3 kk2))]))[i]? = some (.st [(.str (markStr kk)), (.lst (mkPs l1 kk0)), (.lst (mkPs l2 kk1)), (.lst (mkPs l3 kk2))]) := List.getElem?_set_self (by omega)
    have hks : k + cntPs (l.take (i + 1)) = kk3 := by omega
    rw [show L.set i (.st [(.str (markStr kk)), (.lst (mkPs l1 kk0)), (.lst (mkPs l2 kk1)), (.lst (mkPs l3 kk2))]) = _ from (by simp only [hkk0, hkk1, hkk2, hkk3, hkk]; exact hmk)] at A3
    have hw : IntKind.i64.wrap ((i : Int) + 1) = ((i : Int) + 1) := wrap_i64 (by omega) (by omega)
    have hix : i + 1 ≤ l.length := hi
    simp [r0, r1, r5, hi, hw, q0, st0, hw0, q1, ld1, q2, ld2, q3, ld3, -setRange]
    exact ⟨m, by omega, i + 1, by omega, _, _, ⟨rfl, rfl⟩, by simp [r0], by simp; omega, by simp, ln3, fr3, A3⟩
end Go.Proofs.Try1

namespace Go.Proofs.Try1
open Go Go.Lite
set_option linter.unusedSimpArgs false
set_option linter.unusedVariables false
set_option maxRecDepth 10000 in
theorem mk_Entry : MkFn 17 shEntry := by
  intro H cs u F k h hn hk
  replace h := AtF_st.1 h
  obtain ⟨us, rfl, h⟩ := h
  replace h := AtsF_cons.1 h
  obtain ⟨c0, d0, u0, rr0, F0, E0, rfl, rfl, rfl, h0, h⟩ := h
  replace h := AtsF_cons.1 h
  obtain ⟨c1, d1, u1, rr1, F1, E1, rfl, rfl, rfl, h1, h⟩ := h
  replace h := AtsF_nil.1 h
  obtain ⟨rfl, rfl, rfl⟩ := h
  have k0 := h0
  replace h0 := AtF_slice.1 h0
  obtain ⟨v0, l0, rfl, rfl, w0, hv0⟩ := h0
  have o0 := (At_slice.1 (AtF.at _ k0))
  obtain ⟨_, _, x1, x2, _, o0⟩ := o0
  cases x1
  cases x2
  have o0 := o0.one
  have k1 := h1
  replace h1 := AtF_slice.1 h1
  obtain ⟨v1, l1, rfl, rfl, w1, hv1⟩ := h1
  have o1 := (At_slice.1 (AtF.at _ k1))
  obtain ⟨_, _, x1, x2, _, o1⟩ := o1
  cases x1
  cases x2
  have o1 := o1.one
  simp only [cntV_st, cntVs_cons, cntVs_nil, cntV_str, cntV_int, cntV_bool, Nat.zero_add] at hk
  simp only [List.nil_append, List.append_nil] at hn
  have hn0 := hn
  obtain ⟨nd0, hn0, dj0⟩ := List.nodup_append.1 hn0
  have nd1 := hn0
  obtain ⟨H0, q0, len0, fr0, k0'⟩ := mk_RdnS H _ _ _ (k) k0 nd0 (by omega)
  simp only [valOf, List.headD_cons, List.append_nil, List.cons_append, List.nil_append, Int.natCast_add] at q0
  have k1 := AtF.frame _ (H' := H0) (fun q hq2 => fr0 q (fun hq1 => dj0 q hq1 q hq2 rfl)) k1
  obtain ⟨H1, q1, len1, fr1, k1'⟩ := mk_AttrS H0 _ _ _ (k + cntV (.lst l0)) k1 nd1 (by omega)
  simp only [valOf, List.headD_cons, List.append_nil, List.cons_append, List.nil_append, Int.natCast_add] at q1
  have k0' := AtF.frame _ (H' := H1) (fun q hq2 => fr1 q (fun hq1 => dj0 q hq2 q hq1 rfl)) k0'
  have hK : k + cntV (U.st [(.lst l0), (.lst l1)]) = k + cntV (.lst l0) + cntV (.lst l1) := by simp only [cntV_st, cntVs_cons, cntVs_nil, cntV_str, cntV_int, cntV_bool, Nat.zero_add]; omega
  have hA : AtF H1 shEntry _ _ _ := AtF_st.2 ⟨_, rfl, AtsF_cons.2 ⟨[_], _, _, _, F0, _, rfl, rfl, rfl, k0', AtsF_cons.2 ⟨[_], _, _, _, F1, _, rfl, rfl, rfl, k1', AtsF_nil.2 ⟨rfl, rfl, rfl⟩⟩⟩⟩
  simp only [List.append_nil, List.nil_append, List.cons_append] at hA
  have hl : H1.length = H.length := by rw [len1, len0]
  have hfr : ∀ q, q ∉ F0 ++ (F1) → H1[q]? = H[q]? := by
    intro q hq
    try simp only [List.mem_append, not_or] at hq
    rw [fr1 q hq.2, fr0 q hq.1]
  apply Ret.mark
  rw [op17, hK]
  simp [code17, Tryz.f17, valOf, gcH_len hl, q0, q1, o0, o1]
  exact ⟨hl, by simpa using hfr, hA⟩
end Go.Proofs.Try1
