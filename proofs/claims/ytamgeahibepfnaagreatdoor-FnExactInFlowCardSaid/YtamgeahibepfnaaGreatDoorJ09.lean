/- Part 09 of the proof of a law: the interpreter, its soundness, and what functions of the program compute over it. Conditions: none but those that each theorem names. -/
import Derived.Test.YtamgeahibepfnaaGreatDoorJ08
import Derived.Test.YtamgeahibepfnaaGreatDoorJ07
import Derived.Test.YtamgeahibepfnaaGreatDoorJ06

set_option linter.all false
set_option maxRecDepth 20000
set_option maxHeartbeats 40000000
section
namespace Go.Lite
open Go
theorem wf_nat {n : Nat} (h : n ≤ 100000000) : (Lit.int .i64 (n : Int)).wf = true := by
 have e1 : IntKind.i64.min = -9223372036854775808 := by decide
 have e2 : IntKind.i64.max = 9223372036854775807 := by decide
 simp [Lit.wf, e1, e2]
 omega
abbrev shFlow : Sh := .st [.slice shRdn, .slice shNode, .slice shPart, .slice shPart, .slice shPart, .bool]
structure PFlow where
 base : List PRdn
 filter : List PNode
 login : List PPart
 mail : List PPart
 phone : List PPart
 back : Bool
def PFlow.u (f : PFlow) : U := .st [.lst (f.base.map PRdn.u), .lst (f.filter.map PNode.u), .lst (f.login.map PPart.u), .lst (f.mail.map PPart.u), .lst (f.phone.map PPart.u), .bool f.back]
section
variable {H : List Ob}
theorem flow_at {cs : List V} {f : PFlow} : At H shFlow cs f.u ↔ ∃ vb vf vl vm vp, cs = [vb, vf, vl, vm, vp, .bool f.back] ∧ ARdns H vb f.base ∧ ANodes H vf f.filter ∧ AParts H vl f.login ∧ AParts H vm f.mail ∧ AParts H vp f.phone := by
 constructor
 ·intro h
  obtain ⟨us, hu, h⟩ := At_st.1 h
  cases hu
  obtain ⟨c1, c2, u1, us1, rfl, hu, h1, h⟩ := Ats_cons.1 h
  cases hu
  obtain ⟨c3, c4, u2, us2, rfl, hu, h2, h⟩ := Ats_cons.1 h
  cases hu
  obtain ⟨c5, c6, u3, us3, rfl, hu, h3, h⟩ := Ats_cons.1 h
  cases hu
  obtain ⟨c7, c8, u4, us4, rfl, hu, h4, h⟩ := Ats_cons.1 h
  cases hu
  obtain ⟨c9, c10, u5, us5, rfl, hu, h5, h⟩ := Ats_cons.1 h
  cases hu
  obtain ⟨c11, c12, u6, us6, rfl, hu, h6, h⟩ := Ats_cons.1 h
  cases hu
  obtain ⟨rfl, _⟩ := Ats_nil.1 h
  obtain ⟨v1, _, rfl, _⟩ := At_slice.1 h1
  obtain ⟨v2, _, rfl, _⟩ := At_slice.1 h2
  obtain ⟨v3, _, rfl, _⟩ := At_slice.1 h3
  obtain ⟨v4, _, rfl, _⟩ := At_slice.1 h4
  obtain ⟨v5, _, rfl, _⟩ := At_slice.1 h5
  obtain ⟨t, rfl, hb⟩ := At_bool.1 h6
  cases hb
  exact ⟨v1, v2, v3, v4, v5, rfl, h1, h2, h3, h4, h5⟩
 ·rintro ⟨v1, v2, v3, v4, v5, rfl, h1, h2, h3, h4, h5⟩
  exact At_st.2 ⟨_, rfl, Ats_cons.2 ⟨[_], _, _, _, rfl, rfl, h1, Ats_cons.2 ⟨[_], _, _, _, rfl, rfl, h2, Ats_cons.2 ⟨[_], _, _, _, rfl, rfl, h3, Ats_cons.2 ⟨[_], _, _, _, rfl, rfl, h4, Ats_cons.2 ⟨[_], _, _, _, rfl, rfl, h5, Ats_cons.2 ⟨[_], _, _, _, rfl, rfl, At_bool.2 ⟨_, rfl, rfl⟩, Ats_nil.2 ⟨rfl, rfl⟩⟩⟩⟩⟩⟩⟩⟩
theorem flow_typed {cs : List V} {u : U} (h : At H shFlow cs u) : ∃ f : PFlow, u = f.u := by
 replace h := At_st.1 h
 obtain ⟨us, rfl, h⟩ := h
 obtain ⟨c1, c2, u1, us1, rfl, rfl, h1, h⟩ := Ats_cons.1 h
 obtain ⟨c3, c4, u2, us2, rfl, rfl, h2, h⟩ := Ats_cons.1 h
 obtain ⟨c5, c6, u3, us3, rfl, rfl, h3, h⟩ := Ats_cons.1 h
 obtain ⟨c7, c8, u4, us4, rfl, rfl, h4, h⟩ := Ats_cons.1 h
 obtain ⟨c9, c10, u5, us5, rfl, rfl, h5, h⟩ := Ats_cons.1 h
 obtain ⟨c11, c12, u6, us6, rfl, rfl, h6, h⟩ := Ats_cons.1 h
 obtain ⟨rfl, rfl⟩ := Ats_nil.1 h
 obtain ⟨v1, l1, rfl, rfl, _⟩ := ASl.typed (fun _ _ => rdn_typed) h1
 obtain ⟨v2, l2, rfl, rfl, _⟩ := ASl.typed (fun _ _ => node_typed) h2
 obtain ⟨v3, l3, rfl, rfl, _⟩ := ASl.typed (fun _ _ => part_typed) h3
 obtain ⟨v4, l4, rfl, rfl, _⟩ := ASl.typed (fun _ _ => part_typed) h4
 obtain ⟨v5, l5, rfl, rfl, _⟩ := ASl.typed (fun _ _ => part_typed) h5
 obtain ⟨t, rfl, rfl⟩ := At_bool.1 h6
 exact ⟨⟨l1, l2, l3, l4, l5, t⟩, rfl⟩
end
end Go.Lite
end
section
namespace Go.Proofs.Try1
open Go Go.Lite
theorem sz_Rdn : SzFn 45 shRdn := by
 intro H cs u left h hleft
 replace h := At_st.1 h
 obtain ⟨us, rfl, h⟩ := h
 replace h := Ats_cons.1 h
 obtain ⟨c0, d0, u0, rr0, rfl, rfl, h0, h⟩ := h
 replace h := Ats_cons.1 h
 obtain ⟨c1, d1, u1, rr1, rfl, rfl, h1, h⟩ := h
 replace h := Ats_nil.1 h
 obtain ⟨rfl, rfl⟩ := h
 replace h0 := At_str.1 h0
 obtain ⟨s0, rfl, rfl, w0⟩ := h0
 replace h1 := At_str.1 h1
 obtain ⟨s1, rfl, rfl, w1⟩ := h1
 by_cases g0 : s0.length ≤ left
 rotate_left
 ·have q0 : IntKind.i64.wrap (((left : Nat) : Int) - s0.length) = ((left : Nat) : Int) - s0.length := wrap_i64 (by have : s0.length ≤ 9223372036854775807 := w0; omega) (by omega)
  have p0 : ((left : Nat) : Int) - s0.length < 0 := by omega
  have hT : ¬ wt (U.st [(.str s0), (.str s1)]) ≤ left := by simp only [wt_st, wts_cons, wts_nil, wt_str, wt_int, wt_bool]; omega
  rw [if_neg hT]
  apply Ret.eq
  rw [op45]
  simp [code45, Tryz.f45, valC, q0, p0]
 have q0 : IntKind.i64.wrap (((left : Nat) : Int) - s0.length) = ((left - s0.length : Nat) : Int) := by rw [wrap_i64 (by omega) (by omega)]; omega
 have p0 : ¬ (((left - s0.length : Nat) : Int) < 0) := by omega
 by_cases g1 : s1.length ≤ left - s0.length
 rotate_left
 ·have q1 : IntKind.i64.wrap (((left - s0.length : Nat) : Int) - s1.length) = ((left - s0.length : Nat) : Int) - s1.length := wrap_i64 (by have : s1.length ≤ 9223372036854775807 := w1; omega) (by omega)
  have p1 : ((left - s0.length : Nat) : Int) - s1.length < 0 := by omega
  have hT : ¬ wt (U.st [(.str s0), (.str s1)]) ≤ left := by simp only [wt_st, wts_cons, wts_nil, wt_str, wt_int, wt_bool]; omega
  rw [if_neg hT]
  apply Ret.eq
  rw [op45]
  simp [code45, Tryz.f45, valC, q0, p0, q1, p1]
 have q1 : IntKind.i64.wrap (((left - s0.length : Nat) : Int) - s1.length) = ((left - s0.length - s1.length : Nat) : Int) := by rw [wrap_i64 (by omega) (by omega)]; omega
 have p1 : ¬ (((left - s0.length - s1.length : Nat) : Int) < 0) := by omega
 have hT : wt (U.st [(.str s0), (.str s1)]) ≤ left := by simp only [wt_st, wts_cons, wts_nil, wt_str, wt_int, wt_bool]; omega
 have hE : left - wt (U.st [(.str s0), (.str s1)]) = left - s0.length - s1.length := by simp only [wt_st, wts_cons, wts_nil, wt_str, wt_int, wt_bool]; omega
 rw [if_pos hT, hE]
 apply Ret.eq
 rw [op45]
 simp [code45, Tryz.f45, valC, q0, p0, q1, p1]
theorem sz_RdnS : SzFn 29 (.slice shRdn) :=
 szSlc (f := 29) (g := 45) (tS := 22) (tE := 99) (F := Tryz.f29) (op_ren (c := code29) (by kernel_rfl) op29) rfl ty22 (by rw [ty99]; rfl) (by rw [ty99]; rfl) (by rw [ty99]; decide) sz_Rdn
theorem sz_Attr : SzFn 130 shAttr := by
 intro H cs u left h hleft
 replace h := At_st.1 h
 obtain ⟨us, rfl, h⟩ := h
 replace h := Ats_cons.1 h
 obtain ⟨c0, d0, u0, rr0, rfl, rfl, h0, h⟩ := h
 replace h := Ats_cons.1 h
 obtain ⟨c1, d1, u1, rr1, rfl, rfl, h1, h⟩ := h
 replace h := Ats_nil.1 h
 obtain ⟨rfl, rfl⟩ := h
 replace h0 := At_str.1 h0
 obtain ⟨s0, rfl, rfl, w0⟩ := h0
 have k1 := h1
 replace h1 := At_slice.1 h1
 obtain ⟨v1, l1, rfl, rfl, w1, hv1⟩ := h1
 have o1 := hv1.one
 by_cases g0 : s0.length ≤ left
 rotate_left
 ·have q0 : IntKind.i64.wrap (((left : Nat) : Int) - s0.length) = ((left : Nat) : Int) - s0.length := wrap_i64 (by have : s0.length ≤ 9223372036854775807 := w0; omega) (by omega)
  have p0 : ((left : Nat) : Int) - s0.length < 0 := by omega
  have hT : ¬ wt (U.st [(.str s0), (.lst l1)]) ≤ left := by simp only [wt_st, wts_cons, wts_nil, wt_str, wt_int, wt_bool]; omega
  rw [if_neg hT]
  apply Ret.eq
  rw [op130]
  simp [code130, Tryz.f130, valC, q0, p0, o1]
 have q0 : IntKind.i64.wrap (((left : Nat) : Int) - s0.length) = ((left - s0.length : Nat) : Int) := by rw [wrap_i64 (by omega) (by omega)]; omega
 have p0 : ¬ (((left - s0.length : Nat) : Int) < 0) := by omega
 have q1 := sz_StringS H _ _ (left - s0.length) k1 (by omega)
 simp only [valC, List.headD_cons, List.append_nil, List.cons_append, List.nil_append] at q1
 by_cases g1 : wt (.lst l1) ≤ left - s0.length
 rotate_left
 ·rw [if_neg g1] at q1
  have hT : ¬ wt (U.st [(.str s0), (.lst l1)]) ≤ left := by simp only [wt_st, wts_cons, wts_nil, wt_str, wt_int, wt_bool]; omega
  rw [if_neg hT]
  apply Ret.eq
  rw [op130]
  simp [code130, Tryz.f130, valC, q0, p0, q1, o1]
 rw [if_pos g1] at q1
 have p1 : ¬ (((left - s0.length - wt (.lst l1) : Nat) : Int) < 0) := by omega
 have hT : wt (U.st [(.str s0), (.lst l1)]) ≤ left := by simp only [wt_st, wts_cons, wts_nil, wt_str, wt_int, wt_bool]; omega
 have hE : left - wt (U.st [(.str s0), (.lst l1)]) = left - s0.length - wt (.lst l1) := by simp only [wt_st, wts_cons, wts_nil, wt_str, wt_int, wt_bool]; omega
 rw [if_pos hT, hE]
 apply Ret.eq
 rw [op130]
 simp [code130, Tryz.f130, valC, q0, p0, q1, p1, o1]
theorem sz_AttrS : SzFn 56 (.slice shAttr) :=
 szSlc (f := 56) (g := 130) (tS := 27) (tE := 178) (F := Tryz.f56) (op_ren (c := code56) (by kernel_rfl) op56) rfl ty27 (by rw [ty178]; rfl) (by rw [ty178]; rfl) (by rw [ty178]; decide) sz_Attr
theorem sz_Entry : SzFn 10 shEntry := by
 intro H cs u left h hleft
 replace h := At_st.1 h
 obtain ⟨us, rfl, h⟩ := h
 replace h := Ats_cons.1 h
 obtain ⟨c0, d0, u0, rr0, rfl, rfl, h0, h⟩ := h
 replace h := Ats_cons.1 h
 obtain ⟨c1, d1, u1, rr1, rfl, rfl, h1, h⟩ := h
 replace h := Ats_nil.1 h
 obtain ⟨rfl, rfl⟩ := h
 have k0 := h0
 replace h0 := At_slice.1 h0
 obtain ⟨v0, l0, rfl, rfl, w0, hv0⟩ := h0
 have o0 := hv0.one
 have k1 := h1
 replace h1 := At_slice.1 h1
 obtain ⟨v1, l1, rfl, rfl, w1, hv1⟩ := h1
 have o1 := hv1.one
 have q0 := sz_RdnS H _ _ (left) k0 (by omega)
 simp only [valC, List.headD_cons, List.append_nil, List.cons_append, List.nil_append] at q0
 by_cases g0 : wt (.lst l0) ≤ left
 rotate_left
 ·rw [if_neg g0] at q0
  have hT : ¬ wt (U.st [(.lst l0), (.lst l1)]) ≤ left := by simp only [wt_st, wts_cons, wts_nil, wt_str, wt_int, wt_bool]; omega
  rw [if_neg hT]
  apply Ret.eq
  rw [op10]
  simp [code10, Tryz.f10, valC, q0, o0, o1]
 rw [if_pos g0] at q0
 have p0 : ¬ (((left - wt (.lst l0) : Nat) : Int) < 0) := by omega
 have q1 := sz_AttrS H _ _ (left - wt (.lst l0)) k1 (by omega)
 simp only [valC, List.headD_cons, List.append_nil, List.cons_append, List.nil_append] at q1
 by_cases g1 : wt (.lst l1) ≤ left - wt (.lst l0)
 rotate_left
 ·rw [if_neg g1] at q1
  have hT : ¬ wt (U.st [(.lst l0), (.lst l1)]) ≤ left := by simp only [wt_st, wts_cons, wts_nil, wt_str, wt_int, wt_bool]; omega
  rw [if_neg hT]
  apply Ret.eq
  rw [op10]
  simp [code10, Tryz.f10, valC, q0, p0, q1, o0, o1]
 rw [if_pos g1] at q1
 have p1 : ¬ (((left - wt (.lst l0) - wt (.lst l1) : Nat) : Int) < 0) := by omega
 have hT : wt (U.st [(.lst l0), (.lst l1)]) ≤ left := by simp only [wt_st, wts_cons, wts_nil, wt_str, wt_int, wt_bool]; omega
 have hE : left - wt (U.st [(.lst l0), (.lst l1)]) = left - wt (.lst l0) - wt (.lst l1) := by simp only [wt_st, wts_cons, wts_nil, wt_str, wt_int, wt_bool]; omega
 rw [if_pos hT, hE]
 apply Ret.eq
 rw [op10]
 simp [code10, Tryz.f10, valC, q0, p0, q1, p1, o0, o1]
theorem sz_EntryS : SzFn 87 (.slice shEntry) :=
 szSlc (f := 87) (g := 10) (tS := 56) (tE := 29) (F := Tryz.f87) (op_ren (c := code87) (by kernel_rfl) op87) rfl ty56 (by rw [ty29]; rfl) (by rw [ty29]; rfl) (by rw [ty29]; decide) sz_Entry
theorem sz_Class : SzFn 183 shClass := by
 intro H cs u left h hleft
 replace h := At_st.1 h
 obtain ⟨us, rfl, h⟩ := h
 replace h := Ats_cons.1 h
 obtain ⟨c0, d0, u0, rr0, rfl, rfl, h0, h⟩ := h
 replace h := Ats_cons.1 h
 obtain ⟨c1, d1, u1, rr1, rfl, rfl, h1, h⟩ := h
 replace h := Ats_cons.1 h
 obtain ⟨c2, d2, u2, rr2, rfl, rfl, h2, h⟩ := h
 replace h := Ats_cons.1 h
 obtain ⟨c3, d3, u3, rr3, rfl, rfl, h3, h⟩ := h
 replace h := Ats_nil.1 h
 obtain ⟨rfl, rfl⟩ := h
 replace h0 := At_str.1 h0
 obtain ⟨s0, rfl, rfl, w0⟩ := h0
 have k1 := h1
 replace h1 := At_slice.1 h1
 obtain ⟨v1, l1, rfl, rfl, w1, hv1⟩ := h1
 have o1 := hv1.one
 have k2 := h2
 replace h2 := At_slice.1 h2
 obtain ⟨v2, l2, rfl, rfl, w2, hv2⟩ := h2
 have o2 := hv2.one
 have k3 := h3
 replace h3 := At_slice.1 h3
 obtain ⟨v3, l3, rfl, rfl, w3, hv3⟩ := h3
 have o3 := hv3.one
 by_cases g0 : s0.length ≤ left
 rotate_left
 ·have q0 : IntKind.i64.wrap (((left : Nat) : Int) - s0.length) = ((left : Nat) : Int) - s0.length := wrap_i64 (by have : s0.length ≤ 9223372036854775807 := w0; omega) (by omega)
  have p0 : ((left : Nat) : Int) - s0.length < 0 := by omega
  have hT : ¬ wt (U.st [(.str s0), (.lst l1), (.lst l2), (.lst l3)]) ≤ left := by simp only [wt_st, wts_cons, wts_nil, wt_str, wt_int, wt_bool]; omega
  rw [if_neg hT]
  apply Ret.eq
  rw [op183]
  simp [code183, Tryz.f183, valC, q0, p0, o1, o2, o3]
 have q0 : IntKind.i64.wrap (((left : Nat) : Int) - s0.length) = ((left - s0.length : Nat) : Int) := by rw [wrap_i64 (by omega) (by omega)]; omega
 have p0 : ¬ (((left - s0.length : Nat) : Int) < 0) := by omega
 have q1 := sz_StringS H _ _ (left - s0.length) k1 (by omega)
 simp only [valC, List.headD_cons, List.append_nil, List.cons_append, List.nil_append] at q1
 by_cases g1 : wt (.lst l1) ≤ left - s0.length
 rotate_left
 ·rw [if_neg g1] at q1
  have hT : ¬ wt (U.st [(.str s0), (.lst l1), (.lst l2), (.lst l3)]) ≤ left := by simp only [wt_st, wts_cons, wts_nil, wt_str, wt_int, wt_bool]; omega
  rw [if_neg hT]
  apply Ret.eq
  rw [op183]
  simp [code183, Tryz.f183, valC, q0, p0, q1, o1, o2, o3]
 rw [if_pos g1] at q1
 have p1 : ¬ (((left - s0.length - wt (.lst l1) : Nat) : Int) < 0) := by omega
 have q2 := sz_StringS H _ _ (left - s0.length - wt (.lst l1)) k2 (by omega)
 simp only [valC, List.headD_cons, List.append_nil, List.cons_append, List.nil_append] at q2
 by_cases g2 : wt (.lst l2) ≤ left - s0.length - wt (.lst l1)
 rotate_left
 ·rw [if_neg g2] at q2
  have hT : ¬ wt (U.st [(.str s0), (.lst l1), (.lst l2), (.lst l3)]) ≤ left := by simp only [wt_st, wts_cons, wts_nil, wt_str, wt_int, wt_bool]; omega
  rw [if_neg hT]
  apply Ret.eq
  rw [op183]
  simp [code183, Tryz.f183, valC, q0, p0, q1, p1, q2, o1, o2, o3]
 rw [if_pos g2] at q2
 have p2 : ¬ (((left - s0.length - wt (.lst l1) - wt (.lst l2) : Nat) : Int) < 0) := by omega
 have q3 := sz_StringS H _ _ (left - s0.length - wt (.lst l1) - wt (.lst l2)) k3 (by omega)
 simp only [valC, List.headD_cons, List.append_nil, List.cons_append, List.nil_append] at q3
 by_cases g3 : wt (.lst l3) ≤ left - s0.length - wt (.lst l1) - wt (.lst l2)
 rotate_left
 ·rw [if_neg g3] at q3
  have hT : ¬ wt (U.st [(.str s0), (.lst l1), (.lst l2), (.lst l3)]) ≤ left := by simp only [wt_st, wts_cons, wts_nil, wt_str, wt_int, wt_bool]; omega
  rw [if_neg hT]
  apply Ret.eq
  rw [op183]
  simp [code183, Tryz.f183, valC, q0, p0, q1, p1, q2, p2, q3, o1, o2, o3]
 rw [if_pos g3] at q3
 have p3 : ¬ (((left - s0.length - wt (.lst l1) - wt (.lst l2) - wt (.lst l3) : Nat) : Int) < 0) := by omega
 have hT : wt (U.st [(.str s0), (.lst l1), (.lst l2), (.lst l3)]) ≤ left := by simp only [wt_st, wts_cons, wts_nil, wt_str, wt_int, wt_bool]; omega
 have hE : left - wt (U.st [(.str s0), (.lst l1), (.lst l2), (.lst l3)]) = left - s0.length - wt (.lst l1) - wt (.lst l2) - wt (.lst l3) := by simp only [wt_st, wts_cons, wts_nil, wt_str, wt_int, wt_bool]; omega
 rw [if_pos hT, hE]
 apply Ret.eq
 rw [op183]
 simp [code183, Tryz.f183, valC, q0, p0, q1, p1, q2, p2, q3, p3, o1, o2, o3]
theorem sz_ClassS : SzFn 86 (.slice shClass) :=
 szSlc (f := 86) (g := 183) (tS := 55) (tE := 227) (F := Tryz.f86) (op_ren (c := code86) (by kernel_rfl) op86) rfl ty55 (by rw [ty227]; rfl) (by rw [ty227]; rfl) (by rw [ty227]; decide) sz_Class
theorem sz_Tree : SzFn 28 shTree := by
 intro H cs u left h hleft
 replace h := At_st.1 h
 obtain ⟨us, rfl, h⟩ := h
 replace h := Ats_cons.1 h
 obtain ⟨c0, d0, u0, rr0, rfl, rfl, h0, h⟩ := h
 replace h := Ats_cons.1 h
 obtain ⟨c1, d1, u1, rr1, rfl, rfl, h1, h⟩ := h
 replace h := Ats_nil.1 h
 obtain ⟨rfl, rfl⟩ := h
 have k0 := h0
 replace h0 := At_slice.1 h0
 obtain ⟨v0, l0, rfl, rfl, w0, hv0⟩ := h0
 have o0 := hv0.one
 have k1 := h1
 replace h1 := At_slice.1 h1
 obtain ⟨v1, l1, rfl, rfl, w1, hv1⟩ := h1
 have o1 := hv1.one
 have q0 := sz_ClassS H _ _ (left) k0 (by omega)
 simp only [valC, List.headD_cons, List.append_nil, List.cons_append, List.nil_append] at q0
 by_cases g0 : wt (.lst l0) ≤ left
 rotate_left
 ·rw [if_neg g0] at q0
  have hT : ¬ wt (U.st [(.lst l0), (.lst l1)]) ≤ left := by simp only [wt_st, wts_cons, wts_nil, wt_str, wt_int, wt_bool]; omega
  rw [if_neg hT]
  apply Ret.eq
  rw [op28]
  simp [code28, Tryz.f28, valC, q0, o0, o1]
 rw [if_pos g0] at q0
 have p0 : ¬ (((left - wt (.lst l0) : Nat) : Int) < 0) := by omega
 have q1 := sz_EntryS H _ _ (left - wt (.lst l0)) k1 (by omega)
 simp only [valC, List.headD_cons, List.append_nil, List.cons_append, List.nil_append] at q1
 by_cases g1 : wt (.lst l1) ≤ left - wt (.lst l0)
 rotate_left
 ·rw [if_neg g1] at q1
  have hT : ¬ wt (U.st [(.lst l0), (.lst l1)]) ≤ left := by simp only [wt_st, wts_cons, wts_nil, wt_str, wt_int, wt_bool]; omega
  rw [if_neg hT]
  apply Ret.eq
  rw [op28]
  simp [code28, Tryz.f28, valC, q0, p0, q1, o0, o1]
 rw [if_pos g1] at q1
 have p1 : ¬ (((left - wt (.lst l0) - wt (.lst l1) : Nat) : Int) < 0) := by omega
 have hT : wt (U.st [(.lst l0), (.lst l1)]) ≤ left := by simp only [wt_st, wts_cons, wts_nil, wt_str, wt_int, wt_bool]; omega
 have hE : left - wt (U.st [(.lst l0), (.lst l1)]) = left - wt (.lst l0) - wt (.lst l1) := by simp only [wt_st, wts_cons, wts_nil, wt_str, wt_int, wt_bool]; omega
 rw [if_pos hT, hE]
 apply Ret.eq
 rw [op28]
 simp [code28, Tryz.f28, valC, q0, p0, q1, p1, o0, o1]
theorem sz_Node : SzFn 88 shNode := by
 intro H cs u left h hleft
 replace h := At_st.1 h
 obtain ⟨us, rfl, h⟩ := h
 replace h := Ats_cons.1 h
 obtain ⟨c0, d0, u0, rr0, rfl, rfl, h0, h⟩ := h
 replace h := Ats_cons.1 h
 obtain ⟨c1, d1, u1, rr1, rfl, rfl, h1, h⟩ := h
 replace h := Ats_cons.1 h
 obtain ⟨c2, d2, u2, rr2, rfl, rfl, h2, h⟩ := h
 replace h := Ats_cons.1 h
 obtain ⟨c3, d3, u3, rr3, rfl, rfl, h3, h⟩ := h
 replace h := Ats_nil.1 h
 obtain ⟨rfl, rfl⟩ := h
 replace h0 := At_int.1 h0
 obtain ⟨n0, rfl, rfl, w0⟩ := h0
 replace h1 := At_str.1 h1
 obtain ⟨s1, rfl, rfl, w1⟩ := h1
 replace h2 := At_str.1 h2
 obtain ⟨s2, rfl, rfl, w2⟩ := h2
 replace h3 := At_int.1 h3
 obtain ⟨n3, rfl, rfl, w3⟩ := h3
 by_cases g1 : s1.length ≤ left
 rotate_left
 ·have q1 : IntKind.i64.wrap (((left : Nat) : Int) - s1.length) = ((left : Nat) : Int) - s1.length := wrap_i64 (by have : s1.length ≤ 9223372036854775807 := w1; omega) (by omega)
  have p1 : ((left : Nat) : Int) - s1.length < 0 := by omega
  have hT : ¬ wt (U.st [(.int n0), (.str s1), (.str s2), (.int n3)]) ≤ left := by simp only [wt_st, wts_cons, wts_nil, wt_str, wt_int, wt_bool]; omega
  rw [if_neg hT]
  apply Ret.eq
  rw [op88]
  simp [code88, Tryz.f88, valC, q1, p1]
 have q1 : IntKind.i64.wrap (((left : Nat) : Int) - s1.length) = ((left - s1.length : Nat) : Int) := by rw [wrap_i64 (by omega) (by omega)]; omega
 have p1 : ¬ (((left - s1.length : Nat) : Int) < 0) := by omega
 by_cases g2 : s2.length ≤ left - s1.length
 rotate_left
 ·have q2 : IntKind.i64.wrap (((left - s1.length : Nat) : Int) - s2.length) = ((left - s1.length : Nat) : Int) - s2.length := wrap_i64 (by have : s2.length ≤ 9223372036854775807 := w2; omega) (by omega)
  have p2 : ((left - s1.length : Nat) : Int) - s2.length < 0 := by omega
  have hT : ¬ wt (U.st [(.int n0), (.str s1), (.str s2), (.int n3)]) ≤ left := by simp only [wt_st, wts_cons, wts_nil, wt_str, wt_int, wt_bool]; omega
  rw [if_neg hT]
  apply Ret.eq
  rw [op88]
  simp [code88, Tryz.f88, valC, q1, p1, q2, p2]
 have q2 : IntKind.i64.wrap (((left - s1.length : Nat) : Int) - s2.length) = ((left - s1.length - s2.length : Nat) : Int) := by rw [wrap_i64 (by omega) (by omega)]; omega
 have p2 : ¬ (((left - s1.length - s2.length : Nat) : Int) < 0) := by omega
 have hT : wt (U.st [(.int n0), (.str s1), (.str s2), (.int n3)]) ≤ left := by simp only [wt_st, wts_cons, wts_nil, wt_str, wt_int, wt_bool]; omega
 have hE : left - wt (U.st [(.int n0), (.str s1), (.str s2), (.int n3)]) = left - s1.length - s2.length := by simp only [wt_st, wts_cons, wts_nil, wt_str, wt_int, wt_bool]; omega
 rw [if_pos hT, hE]
 apply Ret.eq
 rw [op88]
 simp [code88, Tryz.f88, valC, q1, p1, q2, p2]
theorem sz_NodeS : SzFn 30 (.slice shNode) :=
 szSlc (f := 30) (g := 88) (tS := 23) (tE := 139) (F := Tryz.f30) (op_ren (c := code30) (by kernel_rfl) op30) rfl ty23 (by rw [ty139]; rfl) (by rw [ty139]; rfl) (by rw [ty139]; decide) sz_Node
theorem sz_Part : SzFn 129 shPart := by
 intro H cs u left h hleft
 replace h := At_st.1 h
 obtain ⟨us, rfl, h⟩ := h
 replace h := Ats_cons.1 h
 obtain ⟨c0, d0, u0, rr0, rfl, rfl, h0, h⟩ := h
 replace h := Ats_cons.1 h
 obtain ⟨c1, d1, u1, rr1, rfl, rfl, h1, h⟩ := h
 replace h := Ats_cons.1 h
 obtain ⟨c2, d2, u2, rr2, rfl, rfl, h2, h⟩ := h
 replace h := Ats_nil.1 h
 obtain ⟨rfl, rfl⟩ := h
 replace h0 := At_int.1 h0
 obtain ⟨n0, rfl, rfl, w0⟩ := h0
 replace h1 := At_str.1 h1
 obtain ⟨s1, rfl, rfl, w1⟩ := h1
 replace h2 := At_int.1 h2
 obtain ⟨n2, rfl, rfl, w2⟩ := h2
 by_cases g1 : s1.length ≤ left
 rotate_left
 ·have q1 : IntKind.i64.wrap (((left : Nat) : Int) - s1.length) = ((left : Nat) : Int) - s1.length := wrap_i64 (by have : s1.length ≤ 9223372036854775807 := w1; omega) (by omega)
  have p1 : ((left : Nat) : Int) - s1.length < 0 := by omega
  have hT : ¬ wt (U.st [(.int n0), (.str s1), (.int n2)]) ≤ left := by simp only [wt_st, wts_cons, wts_nil, wt_str, wt_int, wt_bool]; omega
  rw [if_neg hT]
  apply Ret.eq
  rw [op129]
  simp [code129, Tryz.f129, valC, q1, p1]
 have q1 : IntKind.i64.wrap (((left : Nat) : Int) - s1.length) = ((left - s1.length : Nat) : Int) := by rw [wrap_i64 (by omega) (by omega)]; omega
 have p1 : ¬ (((left - s1.length : Nat) : Int) < 0) := by omega
 have hT : wt (U.st [(.int n0), (.str s1), (.int n2)]) ≤ left := by simp only [wt_st, wts_cons, wts_nil, wt_str, wt_int, wt_bool]; omega
 have hE : left - wt (U.st [(.int n0), (.str s1), (.int n2)]) = left - s1.length := by simp only [wt_st, wts_cons, wts_nil, wt_str, wt_int, wt_bool]; omega
 rw [if_pos hT, hE]
 apply Ret.eq
 rw [op129]
 simp [code129, Tryz.f129, valC, q1, p1]
theorem sz_PartS : SzFn 55 (.slice shPart) :=
 szSlc (f := 55) (g := 129) (tS := 24) (tE := 175) (F := Tryz.f55) (op_ren (c := code55) (by kernel_rfl) op55) rfl ty24 (by rw [ty175]; rfl) (by rw [ty175]; rfl) (by rw [ty175]; decide) sz_Part
theorem sz_Flow : SzFn 9 shFlow := by
 intro H cs u left h hleft
 replace h := At_st.1 h
 obtain ⟨us, rfl, h⟩ := h
 replace h := Ats_cons.1 h
 obtain ⟨c0, d0, u0, rr0, rfl, rfl, h0, h⟩ := h
 replace h := Ats_cons.1 h
 obtain ⟨c1, d1, u1, rr1, rfl, rfl, h1, h⟩ := h
 replace h := Ats_cons.1 h
 obtain ⟨c2, d2, u2, rr2, rfl, rfl, h2, h⟩ := h
 replace h := Ats_cons.1 h
 obtain ⟨c3, d3, u3, rr3, rfl, rfl, h3, h⟩ := h
 replace h := Ats_cons.1 h
 obtain ⟨c4, d4, u4, rr4, rfl, rfl, h4, h⟩ := h
 replace h := Ats_cons.1 h
 obtain ⟨c5, d5, u5, rr5, rfl, rfl, h5, h⟩ := h
 replace h := Ats_nil.1 h
 obtain ⟨rfl, rfl⟩ := h
 have k0 := h0
 replace h0 := At_slice.1 h0
 obtain ⟨v0, l0, rfl, rfl, w0, hv0⟩ := h0
 have o0 := hv0.one
 have k1 := h1
 replace h1 := At_slice.1 h1
 obtain ⟨v1, l1, rfl, rfl, w1, hv1⟩ := h1
 have o1 := hv1.one
 have k2 := h2
 replace h2 := At_slice.1 h2
 obtain ⟨v2, l2, rfl, rfl, w2, hv2⟩ := h2
 have o2 := hv2.one
 have k3 := h3
 replace h3 := At_slice.1 h3
 obtain ⟨v3, l3, rfl, rfl, w3, hv3⟩ := h3
 have o3 := hv3.one
 have k4 := h4
 replace h4 := At_slice.1 h4
 obtain ⟨v4, l4, rfl, rfl, w4, hv4⟩ := h4
 have o4 := hv4.one
 replace h5 := At_bool.1 h5
 obtain ⟨b5, rfl, rfl⟩ := h5
 have q0 := sz_RdnS H _ _ (left) k0 (by omega)
 simp only [valC, List.headD_cons, List.append_nil, List.cons_append, List.nil_append] at q0
 by_cases g0 : wt (.lst l0) ≤ left
 rotate_left
 ·rw [if_neg g0] at q0
  have hT : ¬ wt (U.st [(.lst l0), (.lst l1), (.lst l2), (.lst l3), (.lst l4), (.bool b5)]) ≤ left := by simp only [wt_st, wts_cons, wts_nil, wt_str, wt_int, wt_bool]; omega
  rw [if_neg hT]
  apply Ret.eq
  rw [op9]
  simp [code9, Tryz.f9, valC, q0, o0, o1, o2, o3, o4]
 rw [if_pos g0] at q0
 have p0 : ¬ (((left - wt (.lst l0) : Nat) : Int) < 0) := by omega
 have q1 := sz_NodeS H _ _ (left - wt (.lst l0)) k1 (by omega)
 simp only [valC, List.headD_cons, List.append_nil, List.cons_append, List.nil_append] at q1
 by_cases g1 : wt (.lst l1) ≤ left - wt (.lst l0)
 rotate_left
 ·rw [if_neg g1] at q1
  have hT : ¬ wt (U.st [(.lst l0), (.lst l1), (.lst l2), (.lst l3), (.lst l4), (.bool b5)]) ≤ left := by simp only [wt_st, wts_cons, wts_nil, wt_str, wt_int, wt_bool]; omega
  rw [if_neg hT]
  apply Ret.eq
  rw [op9]
  simp [code9, Tryz.f9, valC, q0, p0, q1, o0, o1, o2, o3, o4]
 rw [if_pos g1] at q1
 have p1 : ¬ (((left - wt (.lst l0) - wt (.lst l1) : Nat) : Int) < 0) := by omega
 have q2 := sz_PartS H _ _ (left - wt (.lst l0) - wt (.lst l1)) k2 (by omega)
 simp only [valC, List.headD_cons, List.append_nil, List.cons_append, List.nil_append] at q2
 by_cases g2 : wt (.lst l2) ≤ left - wt (.lst l0) - wt (.lst l1)
 rotate_left
 ·rw [if_neg g2] at q2
  have hT : ¬ wt (U.st [(.lst l0), (.lst l1), (.lst l2), (.lst l3), (.lst l4), (.bool b5)]) ≤ left := by simp only [wt_st, wts_cons, wts_nil, wt_str, wt_int, wt_bool]; omega
  rw [if_neg hT]
  apply Ret.eq
  rw [op9]
  simp [code9, Tryz.f9, valC, q0, p0, q1, p1, q2, o0, o1, o2, o3, o4]
 rw [if_pos g2] at q2
 have p2 : ¬ (((left - wt (.lst l0) - wt (.lst l1) - wt (.lst l2) : Nat) : Int) < 0) := by omega
 have q3 := sz_PartS H _ _ (left - wt (.lst l0) - wt (.lst l1) - wt (.lst l2)) k3 (by omega)
 simp only [valC, List.headD_cons, List.append_nil, List.cons_append, List.nil_append] at q3
 by_cases g3 : wt (.lst l3) ≤ left - wt (.lst l0) - wt (.lst l1) - wt (.lst l2)
 rotate_left
 ·rw [if_neg g3] at q3
  have hT : ¬ wt (U.st [(.lst l0), (.lst l1), (.lst l2), (.lst l3), (.lst l4), (.bool b5)]) ≤ left := by simp only [wt_st, wts_cons, wts_nil, wt_str, wt_int, wt_bool]; omega
  rw [if_neg hT]
  apply Ret.eq
  rw [op9]
  simp [code9, Tryz.f9, valC, q0, p0, q1, p1, q2, p2, q3, o0, o1, o2, o3, o4]
 rw [if_pos g3] at q3
 have p3 : ¬ (((left - wt (.lst l0) - wt (.lst l1) - wt (.lst l2) - wt (.lst l3) : Nat) : Int) < 0) := by omega
 have q4 := sz_PartS H _ _ (left - wt (.lst l0) - wt (.lst l1) - wt (.lst l2) - wt (.lst l3)) k4 (by omega)
 simp only [valC, List.headD_cons, List.append_nil, List.cons_append, List.nil_append] at q4
 by_cases g4 : wt (.lst l4) ≤ left - wt (.lst l0) - wt (.lst l1) - wt (.lst l2) - wt (.lst l3)
 rotate_left
 ·rw [if_neg g4] at q4
  have hT : ¬ wt (U.st [(.lst l0), (.lst l1), (.lst l2), (.lst l3), (.lst l4), (.bool b5)]) ≤ left := by simp only [wt_st, wts_cons, wts_nil, wt_str, wt_int, wt_bool]; omega
  rw [if_neg hT]
  apply Ret.eq
  rw [op9]
  simp [code9, Tryz.f9, valC, q0, p0, q1, p1, q2, p2, q3, p3, q4, o0, o1, o2, o3, o4]
 rw [if_pos g4] at q4
 have p4 : ¬ (((left - wt (.lst l0) - wt (.lst l1) - wt (.lst l2) - wt (.lst l3) - wt (.lst l4) : Nat) : Int) < 0) := by omega
 have hT : wt (U.st [(.lst l0), (.lst l1), (.lst l2), (.lst l3), (.lst l4), (.bool b5)]) ≤ left := by simp only [wt_st, wts_cons, wts_nil, wt_str, wt_int, wt_bool]; omega
 have hE : left - wt (U.st [(.lst l0), (.lst l1), (.lst l2), (.lst l3), (.lst l4), (.bool b5)]) = left - wt (.lst l0) - wt (.lst l1) - wt (.lst l2) - wt (.lst l3) - wt (.lst l4) := by simp only [wt_st, wts_cons, wts_nil, wt_str, wt_int, wt_bool]; omega
 rw [if_pos hT, hE]
 apply Ret.eq
 rw [op9]
 simp [code9, Tryz.f9, valC, q0, p0, q1, p1, q2, p2, q3, p3, q4, p4, o0, o1, o2, o3, o4]
def EqFn (f : Nat) (sh : Sh) : Prop := ∀ (H : List Ob) (cs ds : List V) (u w : U), At H sh cs u → At H sh ds w →
 ∃ b : Bool, (b = true ↔ u = w) ∧ callW C f [valC sh cs, valC sh ds] H = some (.bool b, H)
theorem Ret.bool {f : Nat} {a : List V} {H : List Ob} {p : Prop} (h : Ret C f a H fun r H' => ∃ b : Bool, (b = true ↔ p) ∧ r = .bool b ∧ H' = H) : ∃ b : Bool, (b = true ↔ p) ∧ callW C f a H = some (.bool b, H) := by
 obtain ⟨r, H', hc, b, hb, rfl, rfl⟩ := h
 exact ⟨b, hb, hc⟩
theorem take_snoc {α : Type} {l m : List α} {i : Nat} {x : α} (h : l.take i = m.take i) (hx : l[i]? = some x) (hy : m[i]? = some x) : l.take (i + 1) = m.take (i + 1) := by
 rw [List.take_add_one, List.take_add_one, h, hx, hy]
theorem get_ne {α : Type} {l m : List α} {i : Nat} {x y : α} (hx : l[i]? = some x) (hy : m[i]? = some y) (h : ¬ x = y) : ¬ l = m := by
 rintro rfl
 rw [hx] at hy
 exact h (Option.some.inj hy)
theorem eq_StringS : EqFn 19 (.slice .str) := by
 intro H cs ds u w h h'
 obtain ⟨v, l, rfl, rfl, hlen, hv⟩ := At_slice.1 h
 obtain ⟨v', l', rfl, rfl, hlen', hv'⟩ := At_slice.1 h'
 apply Ret.bool
 rw [op19]
 have hl64 : l.length ≤ 9223372036854775807 := hlen
 by_cases hl : l.length = l'.length
 ·simp [code19, Tryz.f19, valC, hv.len, hv'.len, hl]
  refine WP_loop (fun k σ => ∃ (i : Nat) (r : Nat → R), i + k = l.length ∧ σ = ⟨r, 0, H⟩ ∧ r 0 = .val v ∧ r 1 = .val v' ∧ r 5 = .val (.int .i64 i) ∧ l.take i = l'.take i) ?_ l.length _ ⟨0, _, by simp, rfl, by simp, by simp, by simp, by simp⟩
  rintro k σ ⟨i, r, hik, rfl, r0, r1, r5, heq⟩
  cases k with
  | zero =>
   have hi : i = l'.length := by omega
   subst hi
   have : l = l' := by rwa [← hl, List.take_length, hl, List.take_length] at heq
   simp [r0, r1, r5, hv.len, hl, this]
  | succ k =>
   have hi : i < l.length := by omega
   have hi' : i < l'.length := by omega
   obtain ⟨x, hx⟩ : ∃ x, l[i]? = some x := ⟨l[i], by simp [hi]⟩
   obtain ⟨y, hy⟩ : ∃ y, l'[i]? = some y := ⟨l'[i], by simp [hi']⟩
   obtain ⟨eid, o, own, cells, e1, e2, e3, s, e4, rfl, e5⟩ := hv.idx hx (by decide)
   obtain ⟨eid', o', own', cells', f1, f2, f3, s', f4, rfl, f5⟩ := hv'.idx hy (by decide)
   simp only [Sh.size_str] at e1 f1
   have c0 : cells[o]? = some (.str s) := by simpa using cells_get e4 (j := 0) rfl
   have d0 : cells'[o']? = some (.str s') := by simpa using cells_get f4 (j := 0) rfl
   have ld := load1 e2 c0
   have ld' := load1 f2 d0
   have hw1 : IntKind.i64.wrap ((i : Int) + 1) = ((i + 1 : Nat) : Int) := by rw [wrap_i64 (by omega) (by omega)]; omega
   by_cases hxy : s = s'
   ·subst hxy
    simp [r0, r1, r5, hi', hv.len, hl, e1, f1, ld, ld', hw1, regionL_none]
    exact ⟨k, by omega, i + 1, by omega, by omega, take_snoc heq hx hy⟩
   ·have hne : ¬ l = l' := get_ne hx hy (by intro e; cases e; exact hxy rfl)
    simp [r0, r1, r5, hi', hv.len, hl, e1, f1, ld, ld', hw1, regionL_none, hxy, hne]
 ·have hne : ¬ l = l' := fun e => hl (by rw [e])
  have hl' : ¬ (l.length : Int) = l'.length := by omega
  simp [code19, Tryz.f19, valC, hv.len, hv'.len, hl', hne, hl]
theorem eqSlc {f g tS tE : Nat} {zs : List V} {fs : List Sh} {F : Func} (hop : ∀ {a : List V} {H : List Ob} {R : V → List Ob → Prop}, Ret C f a H R ↔ WP C f (ren [(35, tS), (102, tE)] [(105, g)] code38) ⟨initRegs a, 0, H⟩ (finQ C F H R))
  (hF : F.results = #[.tmp 4]) (hO : C.ord f 6 = none) (hS : C.ty tS = ⟨.slice tE, 1, 24, zs⟩) (hE : (C.ty tE).size = (Sh.st fs).size) (hE2 : (C.ty tE).isAgg = true) (hE0 : (C.ty tE).size ≠ 0) (hg : EqFn g (.st fs)) : EqFn f (.slice (.st fs)) := by
 intro H cs ds u w h h'
 obtain ⟨v, l, rfl, rfl, hlen, hv⟩ := At_slice.1 h
 obtain ⟨v', l', rfl, rfl, hlen', hv'⟩ := At_slice.1 h'
 apply Ret.bool
 rw [hop]
 have hl64 : l.length ≤ 9223372036854775807 := hlen
 by_cases hl : l.length = l'.length
 ·simp [code38, Tryz.f38, ren, renO, renP, renX, sub, valC, hS, hv.len, hv'.len, hl]
  refine WP_loop (fun k σ => ∃ (i : Nat) (r : Nat → R), i + k = l.length ∧ σ = ⟨r, 0, H⟩ ∧ r 0 = .val v ∧ r 1 = .val v' ∧ r 5 = .val (.int .i64 i) ∧ l.take i = l'.take i) ?_ l.length _ ⟨0, _, by simp, rfl, by simp, by simp, by simp, by simp⟩
  rintro k σ ⟨i, r, hik, rfl, r0, r1, r5, heq⟩
  cases k with
  | zero =>
   have hi : i = l'.length := by omega
   subst hi
   have : l = l' := by rwa [← hl, List.take_length, hl, List.take_length] at heq
   simp [r0, r1, r5, hS, hv.len, hl, this, hF]
  | succ k =>
   have hi : i < l.length := by omega
   have hi' : i < l'.length := by omega
   obtain ⟨x, hx⟩ : ∃ x, l[i]? = some x := ⟨l[i], by simp [hi]⟩
   obtain ⟨y, hy⟩ : ∃ y, l'[i]? = some y := ⟨l'[i], by simp [hi']⟩
   obtain ⟨eid, o, own, cells, e1, e2, e3, e4⟩ := hv.idx hx (by rw [← hE]; exact hE0)
   obtain ⟨eid', o', own', cells', f1, f2, f3, f4⟩ := hv'.idx hy (by rw [← hE]; exact hE0)
   have e1 := fun (k : IntKind) => e1 tE 1 24 zs C.ty k hE
   have f1 := fun (k : IntKind) => f1 tE 1 24 zs C.ty k hE
   have ld := load_agg (T := C.ty tE) e2 (by rw [hE]; exact e3) rfl hE0 hE2
   have ld' := load_agg (T := C.ty tE) f2 (by rw [hE]; exact f3) rfl hE0 hE2
   rw [hE] at ld ld'
   have hw1 : IntKind.i64.wrap ((i : Int) + 1) = ((i + 1 : Nat) : Int) := by rw [wrap_i64 (by omega) (by omega)]; omega
   obtain ⟨b, hb, hc⟩ := hg H _ _ x y e4 f4
   simp only [valC, Sh.size_st] at hc
   by_cases hxy : x = y
   ·have := hb.2 hxy
    subst this hxy
    simp [r0, r1, r5, hi', hS, hv.len, hl, e1, f1, ld, ld', hw1, regionL_none hO, hc]
    exact ⟨k, by omega, i + 1, by omega, by omega, take_snoc heq hx hy⟩
   ·have hne : ¬ l = l' := get_ne hx hy hxy
    have : b = false := by cases b with
     | false => rfl
     | true => exact absurd (hb.1 rfl) hxy
    subst this
    simp [r0, r1, r5, hi', hS, hv.len, hl, e1, f1, ld, ld', hw1, regionL_none hO, hc, hne, hF]
 ·have hne : ¬ l = l' := fun e => hl (by rw [e])
  have hl' : ¬ (l.length : Int) = l'.length := by omega
  simp [code38, Tryz.f38, ren, renO, renP, renX, sub, valC, hS, hv.len, hv'.len, hl', hne, hl, hF]
theorem eq_Rdn : EqFn 105 shRdn := by
 intro H cs ds u w h h'
 replace h := At_st.1 h
 obtain ⟨usa, rfl, h⟩ := h
 replace h := Ats_cons.1 h
 obtain ⟨ca0, da0, ua0, rra0, rfl, rfl, ha0, h⟩ := h
 replace h := Ats_cons.1 h
 obtain ⟨ca1, da1, ua1, rra1, rfl, rfl, ha1, h⟩ := h
 replace h := Ats_nil.1 h
 obtain ⟨rfl, rfl⟩ := h
 replace ha0 := At_str.1 ha0
 obtain ⟨sa0, rfl, rfl, wa0⟩ := ha0
 replace ha1 := At_str.1 ha1
 obtain ⟨sa1, rfl, rfl, wa1⟩ := ha1
 replace h' := At_st.1 h'
 obtain ⟨usb, rfl, h'⟩ := h'
 replace h' := Ats_cons.1 h'
 obtain ⟨cb0, db0, ub0, rrb0, rfl, rfl, hb0, h'⟩ := h'
 replace h' := Ats_cons.1 h'
 obtain ⟨cb1, db1, ub1, rrb1, rfl, rfl, hb1, h'⟩ := h'
 replace h' := Ats_nil.1 h'
 obtain ⟨rfl, rfl⟩ := h'
 replace hb0 := At_str.1 hb0
 obtain ⟨sb0, rfl, rfl, wb0⟩ := hb0
 replace hb1 := At_str.1 hb1
 obtain ⟨sb1, rfl, rfl, wb1⟩ := hb1
 by_cases e0 : sa0 = sb0
 rotate_left
 ·refine ⟨false, by simp [e0], ?_⟩
  apply Ret.eq
  rw [op105]
  simp [code105, Tryz.f105, valC, e0]
 subst e0
 by_cases e1 : sa1 = sb1
 rotate_left
 ·refine ⟨false, by simp [e1], ?_⟩
  apply Ret.eq
  rw [op105]
  simp [code105, Tryz.f105, valC, e1]
 subst e1
 refine ⟨true, by simp only [], ?_⟩
 apply Ret.eq
 rw [op105]
 simp [code105, Tryz.f105, valC]
theorem eq_RdnS : EqFn 38 (.slice shRdn) :=
 eqSlc (f := 38) (g := 105) (tS := 35) (tE := 102) (F := Tryz.f38) (op_ren (c := code38) (by kernel_rfl) op38) rfl ord38_6 ty35 (by rw [ty102]; rfl) (by rw [ty102]; rfl) (by rw [ty102]; decide) eq_Rdn
theorem eq_Attr : EqFn 150 shAttr := by
 intro H cs ds u w h h'
 replace h := At_st.1 h
 obtain ⟨usa, rfl, h⟩ := h
 replace h := Ats_cons.1 h
 obtain ⟨ca0, da0, ua0, rra0, rfl, rfl, ha0, h⟩ := h
 replace h := Ats_cons.1 h
 obtain ⟨ca1, da1, ua1, rra1, rfl, rfl, ha1, h⟩ := h
 replace h := Ats_nil.1 h
 obtain ⟨rfl, rfl⟩ := h
 replace ha0 := At_str.1 ha0
 obtain ⟨sa0, rfl, rfl, wa0⟩ := ha0
 have ka1 := ha1
 replace ha1 := At_slice.1 ha1
 obtain ⟨va1, la1, rfl, rfl, wa1, hva1⟩ := ha1
 have oa1 := hva1.one
 replace h' := At_st.1 h'
 obtain ⟨usb, rfl, h'⟩ := h'
 replace h' := Ats_cons.1 h'
 obtain ⟨cb0, db0, ub0, rrb0, rfl, rfl, hb0, h'⟩ := h'
 replace h' := Ats_cons.1 h'
 obtain ⟨cb1, db1, ub1, rrb1, rfl, rfl, hb1, h'⟩ := h'
 replace h' := Ats_nil.1 h'
 obtain ⟨rfl, rfl⟩ := h'
 replace hb0 := At_str.1 hb0
 obtain ⟨sb0, rfl, rfl, wb0⟩ := hb0
 have kb1 := hb1
 replace hb1 := At_slice.1 hb1
 obtain ⟨vb1, lb1, rfl, rfl, wb1, hvb1⟩ := hb1
 have ob1 := hvb1.one
 by_cases e0 : sa0 = sb0
 rotate_left
 ·refine ⟨false, by simp [e0], ?_⟩
  apply Ret.eq
  rw [op150]
  simp [code150, Tryz.f150, valC, e0, oa1, ob1]
 subst e0
 obtain ⟨t1, e1, q1⟩ := eq_StringS H _ _ _ _ ka1 kb1
 simp only [valC, List.headD_cons, List.append_nil, List.cons_append, List.nil_append] at q1
 cases t1 with
 | false =>
  have e1 : ¬ (.lst la1) = (U.lst lb1) := fun h => by simpa using e1.2 h
  refine ⟨false, by simp only [U.st.injEq, List.cons.injEq, e1, and_false, false_and, Bool.false_eq_true], ?_⟩
  apply Ret.eq
  rw [op150]
  simp [code150, Tryz.f150, valC, q1, oa1, ob1]
 | true =>
 have e1 := e1.1 rfl
 refine ⟨true, by simp only [e1], ?_⟩
 apply Ret.eq
 rw [op150]
 simp [code150, Tryz.f150, valC, q1, oa1, ob1]
theorem eq_AttrS : EqFn 69 (.slice shAttr) :=
 eqSlc (f := 69) (g := 150) (tS := 41) (tE := 188) (F := Tryz.f69) (op_ren (c := code69) (by kernel_rfl) op69) rfl ord69_6 ty41 (by rw [ty188]; rfl) (by rw [ty188]; rfl) (by rw [ty188]; decide) eq_Attr
theorem eq_Entry : EqFn 18 shEntry := by
 intro H cs ds u w h h'
 replace h := At_st.1 h
 obtain ⟨usa, rfl, h⟩ := h
 replace h := Ats_cons.1 h
 obtain ⟨ca0, da0, ua0, rra0, rfl, rfl, ha0, h⟩ := h
 replace h := Ats_cons.1 h
 obtain ⟨ca1, da1, ua1, rra1, rfl, rfl, ha1, h⟩ := h
 replace h := Ats_nil.1 h
 obtain ⟨rfl, rfl⟩ := h
 have ka0 := ha0
 replace ha0 := At_slice.1 ha0
 obtain ⟨va0, la0, rfl, rfl, wa0, hva0⟩ := ha0
 have oa0 := hva0.one
 have ka1 := ha1
 replace ha1 := At_slice.1 ha1
 obtain ⟨va1, la1, rfl, rfl, wa1, hva1⟩ := ha1
 have oa1 := hva1.one
 replace h' := At_st.1 h'
 obtain ⟨usb, rfl, h'⟩ := h'
 replace h' := Ats_cons.1 h'
 obtain ⟨cb0, db0, ub0, rrb0, rfl, rfl, hb0, h'⟩ := h'
 replace h' := Ats_cons.1 h'
 obtain ⟨cb1, db1, ub1, rrb1, rfl, rfl, hb1, h'⟩ := h'
 replace h' := Ats_nil.1 h'
 obtain ⟨rfl, rfl⟩ := h'
 have kb0 := hb0
 replace hb0 := At_slice.1 hb0
 obtain ⟨vb0, lb0, rfl, rfl, wb0, hvb0⟩ := hb0
 have ob0 := hvb0.one
 have kb1 := hb1
 replace hb1 := At_slice.1 hb1
 obtain ⟨vb1, lb1, rfl, rfl, wb1, hvb1⟩ := hb1
 have ob1 := hvb1.one
 obtain ⟨t0, e0, q0⟩ := eq_RdnS H _ _ _ _ ka0 kb0
 simp only [valC, List.headD_cons, List.append_nil, List.cons_append, List.nil_append] at q0
 cases t0 with
 | false =>
  have e0 : ¬ (.lst la0) = (U.lst lb0) := fun h => by simpa using e0.2 h
  refine ⟨false, by simp only [U.st.injEq, List.cons.injEq, e0, and_false, false_and, Bool.false_eq_true], ?_⟩
  apply Ret.eq
  rw [op18]
  simp [code18, Tryz.f18, valC, q0, oa0, oa1, ob0, ob1]
 | true =>
 have e0 := e0.1 rfl
 obtain ⟨t1, e1, q1⟩ := eq_AttrS H _ _ _ _ ka1 kb1
 simp only [valC, List.headD_cons, List.append_nil, List.cons_append, List.nil_append] at q1
 cases t1 with
 | false =>
  have e1 : ¬ (.lst la1) = (U.lst lb1) := fun h => by simpa using e1.2 h
  refine ⟨false, by simp only [U.st.injEq, List.cons.injEq, e1, and_false, false_and, Bool.false_eq_true], ?_⟩
  apply Ret.eq
  rw [op18]
  simp [code18, Tryz.f18, valC, q0, q1, oa0, oa1, ob0, ob1]
 | true =>
 have e1 := e1.1 rfl
 refine ⟨true, by simp only [e0, e1], ?_⟩
 apply Ret.eq
 rw [op18]
 simp [code18, Tryz.f18, valC, q0, q1, oa0, oa1, ob0, ob1]
theorem eq_EntryS : EqFn 103 (.slice shEntry) :=
 eqSlc (f := 103) (g := 18) (tS := 68) (tE := 43) (F := Tryz.f103) (op_ren (c := code103) (by kernel_rfl) op103) rfl ord103_6 ty68 (by rw [ty43]; rfl) (by rw [ty43]; rfl) (by rw [ty43]; decide) eq_Entry
theorem eq_Class : EqFn 196 shClass := by
 intro H cs ds u w h h'
 replace h := At_st.1 h
 obtain ⟨usa, rfl, h⟩ := h
 replace h := Ats_cons.1 h
 obtain ⟨ca0, da0, ua0, rra0, rfl, rfl, ha0, h⟩ := h
 replace h := Ats_cons.1 h
 obtain ⟨ca1, da1, ua1, rra1, rfl, rfl, ha1, h⟩ := h
 replace h := Ats_cons.1 h
 obtain ⟨ca2, da2, ua2, rra2, rfl, rfl, ha2, h⟩ := h
 replace h := Ats_cons.1 h
 obtain ⟨ca3, da3, ua3, rra3, rfl, rfl, ha3, h⟩ := h
 replace h := Ats_nil.1 h
 obtain ⟨rfl, rfl⟩ := h
 replace ha0 := At_str.1 ha0
 obtain ⟨sa0, rfl, rfl, wa0⟩ := ha0
 have ka1 := ha1
 replace ha1 := At_slice.1 ha1
 obtain ⟨va1, la1, rfl, rfl, wa1, hva1⟩ := ha1
 have oa1 := hva1.one
 have ka2 := ha2
 replace ha2 := At_slice.1 ha2
 obtain ⟨va2, la2, rfl, rfl, wa2, hva2⟩ := ha2
 have oa2 := hva2.one
 have ka3 := ha3
 replace ha3 := At_slice.1 ha3
 obtain ⟨va3, la3, rfl, rfl, wa3, hva3⟩ := ha3
 have oa3 := hva3.one
 replace h' := At_st.1 h'
 obtain ⟨usb, rfl, h'⟩ := h'
 replace h' := Ats_cons.1 h'
 obtain ⟨cb0, db0, ub0, rrb0, rfl, rfl, hb0, h'⟩ := h'
 replace h' := Ats_cons.1 h'
 obtain ⟨cb1, db1, ub1, rrb1, rfl, rfl, hb1, h'⟩ := h'
 replace h' := Ats_cons.1 h'
 obtain ⟨cb2, db2, ub2, rrb2, rfl, rfl, hb2, h'⟩ := h'
 replace h' := Ats_cons.1 h'
 obtain ⟨cb3, db3, ub3, rrb3, rfl, rfl, hb3, h'⟩ := h'
 replace h' := Ats_nil.1 h'
 obtain ⟨rfl, rfl⟩ := h'
 replace hb0 := At_str.1 hb0
 obtain ⟨sb0, rfl, rfl, wb0⟩ := hb0
 have kb1 := hb1
 replace hb1 := At_slice.1 hb1
 obtain ⟨vb1, lb1, rfl, rfl, wb1, hvb1⟩ := hb1
 have ob1 := hvb1.one
 have kb2 := hb2
 replace hb2 := At_slice.1 hb2
 obtain ⟨vb2, lb2, rfl, rfl, wb2, hvb2⟩ := hb2
 have ob2 := hvb2.one
 have kb3 := hb3
 replace hb3 := At_slice.1 hb3
 obtain ⟨vb3, lb3, rfl, rfl, wb3, hvb3⟩ := hb3
 have ob3 := hvb3.one
 by_cases e0 : sa0 = sb0
 rotate_left
 ·refine ⟨false, by simp [e0], ?_⟩
  apply Ret.eq
  rw [op196]
  simp [code196, Tryz.f196, valC, e0, oa1, oa2, oa3, ob1, ob2, ob3]
 subst e0
 obtain ⟨t1, e1, q1⟩ := eq_StringS H _ _ _ _ ka1 kb1
 simp only [valC, List.headD_cons, List.append_nil, List.cons_append, List.nil_append] at q1
 cases t1 with
 | false =>
  have e1 : ¬ (.lst la1) = (U.lst lb1) := fun h => by simpa using e1.2 h
  refine ⟨false, by simp only [U.st.injEq, List.cons.injEq, e1, and_false, false_and, Bool.false_eq_true], ?_⟩
  apply Ret.eq
  rw [op196]
  simp [code196, Tryz.f196, valC, q1, oa1, oa2, oa3, ob1, ob2, ob3]
 | true =>
 have e1 := e1.1 rfl
 obtain ⟨t2, e2, q2⟩ := eq_StringS H _ _ _ _ ka2 kb2
 simp only [valC, List.headD_cons, List.append_nil, List.cons_append, List.nil_append] at q2
 cases t2 with
 | false =>
  have e2 : ¬ (.lst la2) = (U.lst lb2) := fun h => by simpa using e2.2 h
  refine ⟨false, by simp only [U.st.injEq, List.cons.injEq, e2, and_false, false_and, Bool.false_eq_true], ?_⟩
  apply Ret.eq
  rw [op196]
  simp [code196, Tryz.f196, valC, q1, q2, oa1, oa2, oa3, ob1, ob2, ob3]
 | true =>
 have e2 := e2.1 rfl
 obtain ⟨t3, e3, q3⟩ := eq_StringS H _ _ _ _ ka3 kb3
 simp only [valC, List.headD_cons, List.append_nil, List.cons_append, List.nil_append] at q3
 cases t3 with
 | false =>
  have e3 : ¬ (.lst la3) = (U.lst lb3) := fun h => by simpa using e3.2 h
  refine ⟨false, by simp only [U.st.injEq, List.cons.injEq, e3, and_false, false_and, Bool.false_eq_true], ?_⟩
  apply Ret.eq
  rw [op196]
  simp [code196, Tryz.f196, valC, q1, q2, q3, oa1, oa2, oa3, ob1, ob2, ob3]
 | true =>
 have e3 := e3.1 rfl
 refine ⟨true, by simp only [e1, e2, e3], ?_⟩
 apply Ret.eq
 rw [op196]
 simp [code196, Tryz.f196, valC, q1, q2, q3, oa1, oa2, oa3, ob1, ob2, ob3]
theorem eq_ClassS : EqFn 104 (.slice shClass) :=
 eqSlc (f := 104) (g := 196) (tS := 67) (tE := 232) (F := Tryz.f104) (op_ren (c := code104) (by kernel_rfl) op104) rfl ord104_6 ty67 (by rw [ty232]; rfl) (by rw [ty232]; rfl) (by rw [ty232]; decide) eq_Class
theorem eq_Tree : EqFn 37 shTree := by
 intro H cs ds u w h h'
 replace h := At_st.1 h
 obtain ⟨usa, rfl, h⟩ := h
 replace h := Ats_cons.1 h
 obtain ⟨ca0, da0, ua0, rra0, rfl, rfl, ha0, h⟩ := h
 replace h := Ats_cons.1 h
 obtain ⟨ca1, da1, ua1, rra1, rfl, rfl, ha1, h⟩ := h
 replace h := Ats_nil.1 h
 obtain ⟨rfl, rfl⟩ := h
 have ka0 := ha0
 replace ha0 := At_slice.1 ha0
 obtain ⟨va0, la0, rfl, rfl, wa0, hva0⟩ := ha0
 have oa0 := hva0.one
 have ka1 := ha1
 replace ha1 := At_slice.1 ha1
 obtain ⟨va1, la1, rfl, rfl, wa1, hva1⟩ := ha1
 have oa1 := hva1.one
 replace h' := At_st.1 h'
 obtain ⟨usb, rfl, h'⟩ := h'
 replace h' := Ats_cons.1 h'
 obtain ⟨cb0, db0, ub0, rrb0, rfl, rfl, hb0, h'⟩ := h'
 replace h' := Ats_cons.1 h'
 obtain ⟨cb1, db1, ub1, rrb1, rfl, rfl, hb1, h'⟩ := h'
 replace h' := Ats_nil.1 h'
 obtain ⟨rfl, rfl⟩ := h'
 have kb0 := hb0
 replace hb0 := At_slice.1 hb0
 obtain ⟨vb0, lb0, rfl, rfl, wb0, hvb0⟩ := hb0
 have ob0 := hvb0.one
 have kb1 := hb1
 replace hb1 := At_slice.1 hb1
 obtain ⟨vb1, lb1, rfl, rfl, wb1, hvb1⟩ := hb1
 have ob1 := hvb1.one
 obtain ⟨t0, e0, q0⟩ := eq_ClassS H _ _ _ _ ka0 kb0
 simp only [valC, List.headD_cons, List.append_nil, List.cons_append, List.nil_append] at q0
 cases t0 with
 | false =>
  have e0 : ¬ (.lst la0) = (U.lst lb0) := fun h => by simpa using e0.2 h
  refine ⟨false, by simp only [U.st.injEq, List.cons.injEq, e0, and_false, false_and, Bool.false_eq_true], ?_⟩
  apply Ret.eq
  rw [op37]
  simp [code37, Tryz.f37, valC, q0, oa0, oa1, ob0, ob1]
 | true =>
 have e0 := e0.1 rfl
 obtain ⟨t1, e1, q1⟩ := eq_EntryS H _ _ _ _ ka1 kb1
 simp only [valC, List.headD_cons, List.append_nil, List.cons_append, List.nil_append] at q1
 cases t1 with
 | false =>
  have e1 : ¬ (.lst la1) = (U.lst lb1) := fun h => by simpa using e1.2 h
  refine ⟨false, by simp only [U.st.injEq, List.cons.injEq, e1, and_false, false_and, Bool.false_eq_true], ?_⟩
  apply Ret.eq
  rw [op37]
  simp [code37, Tryz.f37, valC, q0, q1, oa0, oa1, ob0, ob1]
 | true =>
 have e1 := e1.1 rfl
 refine ⟨true, by simp only [e0, e1], ?_⟩
 apply Ret.eq
 rw [op37]
 simp [code37, Tryz.f37, valC, q0, q1, oa0, oa1, ob0, ob1]
theorem eq_Node : EqFn 106 shNode := by
 intro H cs ds u w h h'
 replace h := At_st.1 h
 obtain ⟨usa, rfl, h⟩ := h
 replace h := Ats_cons.1 h
 obtain ⟨ca0, da0, ua0, rra0, rfl, rfl, ha0, h⟩ := h
 replace h := Ats_cons.1 h
 obtain ⟨ca1, da1, ua1, rra1, rfl, rfl, ha1, h⟩ := h
 replace h := Ats_cons.1 h
 obtain ⟨ca2, da2, ua2, rra2, rfl, rfl, ha2, h⟩ := h
 replace h := Ats_cons.1 h
 obtain ⟨ca3, da3, ua3, rra3, rfl, rfl, ha3, h⟩ := h
 replace h := Ats_nil.1 h
 obtain ⟨rfl, rfl⟩ := h
 replace ha0 := At_int.1 ha0
 obtain ⟨na0, rfl, rfl, wa0⟩ := ha0
 replace ha1 := At_str.1 ha1
 obtain ⟨sa1, rfl, rfl, wa1⟩ := ha1
 replace ha2 := At_str.1 ha2
 obtain ⟨sa2, rfl, rfl, wa2⟩ := ha2
 replace ha3 := At_int.1 ha3
 obtain ⟨na3, rfl, rfl, wa3⟩ := ha3
 replace h' := At_st.1 h'
 obtain ⟨usb, rfl, h'⟩ := h'
 replace h' := Ats_cons.1 h'
 obtain ⟨cb0, db0, ub0, rrb0, rfl, rfl, hb0, h'⟩ := h'
 replace h' := Ats_cons.1 h'
 obtain ⟨cb1, db1, ub1, rrb1, rfl, rfl, hb1, h'⟩ := h'
 replace h' := Ats_cons.1 h'
 obtain ⟨cb2, db2, ub2, rrb2, rfl, rfl, hb2, h'⟩ := h'
 replace h' := Ats_cons.1 h'
 obtain ⟨cb3, db3, ub3, rrb3, rfl, rfl, hb3, h'⟩ := h'
 replace h' := Ats_nil.1 h'
 obtain ⟨rfl, rfl⟩ := h'
 replace hb0 := At_int.1 hb0
 obtain ⟨nb0, rfl, rfl, wb0⟩ := hb0
 replace hb1 := At_str.1 hb1
 obtain ⟨sb1, rfl, rfl, wb1⟩ := hb1
 replace hb2 := At_str.1 hb2
 obtain ⟨sb2, rfl, rfl, wb2⟩ := hb2
 replace hb3 := At_int.1 hb3
 obtain ⟨nb3, rfl, rfl, wb3⟩ := hb3
 by_cases e0 : na0 = nb0
 rotate_left
 ·refine ⟨false, by simp [e0], ?_⟩
  apply Ret.eq
  rw [op106]
  simp [code106, Tryz.f106, valC, e0]
 subst e0
 by_cases e1 : sa1 = sb1
 rotate_left
 ·refine ⟨false, by simp [e1], ?_⟩
  apply Ret.eq
  rw [op106]
  simp [code106, Tryz.f106, valC, e1]
 subst e1
 by_cases e2 : sa2 = sb2
 rotate_left
 ·refine ⟨false, by simp [e2], ?_⟩
  apply Ret.eq
  rw [op106]
  simp [code106, Tryz.f106, valC, e2]
 subst e2
 by_cases e3 : na3 = nb3
 rotate_left
 ·refine ⟨false, by simp [e3], ?_⟩
  apply Ret.eq
  rw [op106]
  simp [code106, Tryz.f106, valC, e3]
 subst e3
 refine ⟨true, by simp only [], ?_⟩
 apply Ret.eq
 rw [op106]
 simp [code106, Tryz.f106, valC]
theorem eq_NodeS : EqFn 39 (.slice shNode) :=
 eqSlc (f := 39) (g := 106) (tS := 36) (tE := 146) (F := Tryz.f39) (op_ren (c := code39) (by kernel_rfl) op39) rfl ord39_6 ty36 (by rw [ty146]; rfl) (by rw [ty146]; rfl) (by rw [ty146]; decide) eq_Node
theorem eq_Part : EqFn 149 shPart := by
 intro H cs ds u w h h'
 replace h := At_st.1 h
 obtain ⟨usa, rfl, h⟩ := h
 replace h := Ats_cons.1 h
 obtain ⟨ca0, da0, ua0, rra0, rfl, rfl, ha0, h⟩ := h
 replace h := Ats_cons.1 h
 obtain ⟨ca1, da1, ua1, rra1, rfl, rfl, ha1, h⟩ := h
 replace h := Ats_cons.1 h
 obtain ⟨ca2, da2, ua2, rra2, rfl, rfl, ha2, h⟩ := h
 replace h := Ats_nil.1 h
 obtain ⟨rfl, rfl⟩ := h
 replace ha0 := At_int.1 ha0
 obtain ⟨na0, rfl, rfl, wa0⟩ := ha0
 replace ha1 := At_str.1 ha1
 obtain ⟨sa1, rfl, rfl, wa1⟩ := ha1
 replace ha2 := At_int.1 ha2
 obtain ⟨na2, rfl, rfl, wa2⟩ := ha2
 replace h' := At_st.1 h'
 obtain ⟨usb, rfl, h'⟩ := h'
 replace h' := Ats_cons.1 h'
 obtain ⟨cb0, db0, ub0, rrb0, rfl, rfl, hb0, h'⟩ := h'
 replace h' := Ats_cons.1 h'
 obtain ⟨cb1, db1, ub1, rrb1, rfl, rfl, hb1, h'⟩ := h'
 replace h' := Ats_cons.1 h'
 obtain ⟨cb2, db2, ub2, rrb2, rfl, rfl, hb2, h'⟩ := h'
 replace h' := Ats_nil.1 h'
 obtain ⟨rfl, rfl⟩ := h'
 replace hb0 := At_int.1 hb0
 obtain ⟨nb0, rfl, rfl, wb0⟩ := hb0
 replace hb1 := At_str.1 hb1
 obtain ⟨sb1, rfl, rfl, wb1⟩ := hb1
 replace hb2 := At_int.1 hb2
 obtain ⟨nb2, rfl, rfl, wb2⟩ := hb2
 by_cases e0 : na0 = nb0
 rotate_left
 ·refine ⟨false, by simp [e0], ?_⟩
  apply Ret.eq
  rw [op149]
  simp [code149, Tryz.f149, valC, e0]
 subst e0
 by_cases e1 : sa1 = sb1
 rotate_left
 ·refine ⟨false, by simp [e1], ?_⟩
  apply Ret.eq
  rw [op149]
  simp [code149, Tryz.f149, valC, e1]
 subst e1
 by_cases e2 : na2 = nb2
 rotate_left
 ·refine ⟨false, by simp [e2], ?_⟩
  apply Ret.eq
  rw [op149]
  simp [code149, Tryz.f149, valC, e2]
 subst e2
 refine ⟨true, by simp only [], ?_⟩
 apply Ret.eq
 rw [op149]
 simp [code149, Tryz.f149, valC]
theorem eq_PartS : EqFn 68 (.slice shPart) :=
 eqSlc (f := 68) (g := 149) (tS := 37) (tE := 186) (F := Tryz.f68) (op_ren (c := code68) (by kernel_rfl) op68) rfl ord68_6 ty37 (by rw [ty186]; rfl) (by rw [ty186]; rfl) (by rw [ty186]; decide) eq_Part
theorem eq_Flow : EqFn 17 shFlow := by
 intro H cs ds u w h h'
 replace h := At_st.1 h
 obtain ⟨usa, rfl, h⟩ := h
 replace h := Ats_cons.1 h
 obtain ⟨ca0, da0, ua0, rra0, rfl, rfl, ha0, h⟩ := h
 replace h := Ats_cons.1 h
 obtain ⟨ca1, da1, ua1, rra1, rfl, rfl, ha1, h⟩ := h
 replace h := Ats_cons.1 h
 obtain ⟨ca2, da2, ua2, rra2, rfl, rfl, ha2, h⟩ := h
 replace h := Ats_cons.1 h
 obtain ⟨ca3, da3, ua3, rra3, rfl, rfl, ha3, h⟩ := h
 replace h := Ats_cons.1 h
 obtain ⟨ca4, da4, ua4, rra4, rfl, rfl, ha4, h⟩ := h
 replace h := Ats_cons.1 h
 obtain ⟨ca5, da5, ua5, rra5, rfl, rfl, ha5, h⟩ := h
 replace h := Ats_nil.1 h
 obtain ⟨rfl, rfl⟩ := h
 have ka0 := ha0
 replace ha0 := At_slice.1 ha0
 obtain ⟨va0, la0, rfl, rfl, wa0, hva0⟩ := ha0
 have oa0 := hva0.one
 have ka1 := ha1
 replace ha1 := At_slice.1 ha1
 obtain ⟨va1, la1, rfl, rfl, wa1, hva1⟩ := ha1
 have oa1 := hva1.one
 have ka2 := ha2
 replace ha2 := At_slice.1 ha2
 obtain ⟨va2, la2, rfl, rfl, wa2, hva2⟩ := ha2
 have oa2 := hva2.one
 have ka3 := ha3
 replace ha3 := At_slice.1 ha3
 obtain ⟨va3, la3, rfl, rfl, wa3, hva3⟩ := ha3
 have oa3 := hva3.one
 have ka4 := ha4
 replace ha4 := At_slice.1 ha4
 obtain ⟨va4, la4, rfl, rfl, wa4, hva4⟩ := ha4
 have oa4 := hva4.one
 replace ha5 := At_bool.1 ha5
 obtain ⟨ba5, rfl, rfl⟩ := ha5
 replace h' := At_st.1 h'
 obtain ⟨usb, rfl, h'⟩ := h'
 replace h' := Ats_cons.1 h'
 obtain ⟨cb0, db0, ub0, rrb0, rfl, rfl, hb0, h'⟩ := h'
 replace h' := Ats_cons.1 h'
 obtain ⟨cb1, db1, ub1, rrb1, rfl, rfl, hb1, h'⟩ := h'
 replace h' := Ats_cons.1 h'
 obtain ⟨cb2, db2, ub2, rrb2, rfl, rfl, hb2, h'⟩ := h'
 replace h' := Ats_cons.1 h'
 obtain ⟨cb3, db3, ub3, rrb3, rfl, rfl, hb3, h'⟩ := h'
 replace h' := Ats_cons.1 h'
 obtain ⟨cb4, db4, ub4, rrb4, rfl, rfl, hb4, h'⟩ := h'
 replace h' := Ats_cons.1 h'
 obtain ⟨cb5, db5, ub5, rrb5, rfl, rfl, hb5, h'⟩ := h'
 replace h' := Ats_nil.1 h'
 obtain ⟨rfl, rfl⟩ := h'
 have kb0 := hb0
 replace hb0 := At_slice.1 hb0
 obtain ⟨vb0, lb0, rfl, rfl, wb0, hvb0⟩ := hb0
 have ob0 := hvb0.one
 have kb1 := hb1
 replace hb1 := At_slice.1 hb1
 obtain ⟨vb1, lb1, rfl, rfl, wb1, hvb1⟩ := hb1
 have ob1 := hvb1.one
 have kb2 := hb2
 replace hb2 := At_slice.1 hb2
 obtain ⟨vb2, lb2, rfl, rfl, wb2, hvb2⟩ := hb2
 have ob2 := hvb2.one
 have kb3 := hb3
 replace hb3 := At_slice.1 hb3
 obtain ⟨vb3, lb3, rfl, rfl, wb3, hvb3⟩ := hb3
 have ob3 := hvb3.one
 have kb4 := hb4
 replace hb4 := At_slice.1 hb4
 obtain ⟨vb4, lb4, rfl, rfl, wb4, hvb4⟩ := hb4
 have ob4 := hvb4.one
 replace hb5 := At_bool.1 hb5
 obtain ⟨bb5, rfl, rfl⟩ := hb5
 obtain ⟨t0, e0, q0⟩ := eq_RdnS H _ _ _ _ ka0 kb0
 simp only [valC, List.headD_cons, List.append_nil, List.cons_append, List.nil_append] at q0
 cases t0 with
 | false =>
  have e0 : ¬ (.lst la0) = (U.lst lb0) := fun h => by simpa using e0.2 h
  refine ⟨false, by simp only [U.st.injEq, List.cons.injEq, e0, and_false, false_and, Bool.false_eq_true], ?_⟩
  apply Ret.eq
  rw [op17]
  simp [code17, Tryz.f17, valC, q0, oa0, oa1, oa2, oa3, oa4, ob0, ob1, ob2, ob3, ob4]
 | true =>
 have e0 := e0.1 rfl
 obtain ⟨t1, e1, q1⟩ := eq_NodeS H _ _ _ _ ka1 kb1
 simp only [valC, List.headD_cons, List.append_nil, List.cons_append, List.nil_append] at q1
 cases t1 with
 | false =>
  have e1 : ¬ (.lst la1) = (U.lst lb1) := fun h => by simpa using e1.2 h
  refine ⟨false, by simp only [U.st.injEq, List.cons.injEq, e1, and_false, false_and, Bool.false_eq_true], ?_⟩
  apply Ret.eq
  rw [op17]
  simp [code17, Tryz.f17, valC, q0, q1, oa0, oa1, oa2, oa3, oa4, ob0, ob1, ob2, ob3, ob4]
 | true =>
 have e1 := e1.1 rfl
 obtain ⟨t2, e2, q2⟩ := eq_PartS H _ _ _ _ ka2 kb2
 simp only [valC, List.headD_cons, List.append_nil, List.cons_append, List.nil_append] at q2
 cases t2 with
 | false =>
  have e2 : ¬ (.lst la2) = (U.lst lb2) := fun h => by simpa using e2.2 h
  refine ⟨false, by simp only [U.st.injEq, List.cons.injEq, e2, and_false, false_and, Bool.false_eq_true], ?_⟩
  apply Ret.eq
  rw [op17]
  simp [code17, Tryz.f17, valC, q0, q1, q2, oa0, oa1, oa2, oa3, oa4, ob0, ob1, ob2, ob3, ob4]
 | true =>
 have e2 := e2.1 rfl
 obtain ⟨t3, e3, q3⟩ := eq_PartS H _ _ _ _ ka3 kb3
 simp only [valC, List.headD_cons, List.append_nil, List.cons_append, List.nil_append] at q3
 cases t3 with
 | false =>
  have e3 : ¬ (.lst la3) = (U.lst lb3) := fun h => by simpa using e3.2 h
  refine ⟨false, by simp only [U.st.injEq, List.cons.injEq, e3, and_false, false_and, Bool.false_eq_true], ?_⟩
  apply Ret.eq
  rw [op17]
  simp [code17, Tryz.f17, valC, q0, q1, q2, q3, oa0, oa1, oa2, oa3, oa4, ob0, ob1, ob2, ob3, ob4]
 | true =>
 have e3 := e3.1 rfl
 obtain ⟨t4, e4, q4⟩ := eq_PartS H _ _ _ _ ka4 kb4
 simp only [valC, List.headD_cons, List.append_nil, List.cons_append, List.nil_append] at q4
 cases t4 with
 | false =>
  have e4 : ¬ (.lst la4) = (U.lst lb4) := fun h => by simpa using e4.2 h
  refine ⟨false, by simp only [U.st.injEq, List.cons.injEq, e4, and_false, false_and, Bool.false_eq_true], ?_⟩
  apply Ret.eq
  rw [op17]
  simp [code17, Tryz.f17, valC, q0, q1, q2, q3, q4, oa0, oa1, oa2, oa3, oa4, ob0, ob1, ob2, ob3, ob4]
 | true =>
 have e4 := e4.1 rfl
 by_cases e5 : ba5 = bb5
 rotate_left
 ·refine ⟨false, by simp [e5], ?_⟩
  apply Ret.eq
  rw [op17]
  simp [code17, Tryz.f17, valC, q0, q1, q2, q3, q4, e5, oa0, oa1, oa2, oa3, oa4, ob0, ob1, ob2, ob3, ob4]
 subst e5
 refine ⟨true, by simp only [e0, e1, e2, e3, e4], ?_⟩
 apply Ret.eq
 rw [op17]
 simp [code17, Tryz.f17, valC, q0, q1, q2, q3, q4, oa0, oa1, oa2, oa3, oa4, ob0, ob1, ob2, ob3, ob4]
def ToFn (f : Nat) (sh : Sh) : Prop := ∀ (H : List Ob) (cs : List V) (u : U), At H sh cs u → wt u ≤ 1048576 →
 ∃ T cs' F, callW C f [valC sh cs] H = some (valC sh cs', H ++ T) ∧ AtF (H ++ T) sh cs' u F ∧ F.Nodup ∧ ∀ id ∈ F, H.length ≤ id
theorem Ret.to {f : Nat} {sh : Sh} {a : List V} {H : List Ob} {u : U} (h : Ret C f a H fun r H' => ∃ T cs' F, H' = H ++ T ∧ r = valC sh cs' ∧ AtF (H ++ T) sh cs' u F ∧ F.Nodup ∧ ∀ id ∈ F, H.length ≤ id) :
  ∃ T cs' F, callW C f a H = some (valC sh cs', H ++ T) ∧ AtF (H ++ T) sh cs' u F ∧ F.Nodup ∧ ∀ id ∈ F, H.length ≤ id := by
 obtain ⟨r, H', hc, T, cs', F, rfl, rfl, h1, h2, h3⟩ := h
 exact ⟨T, cs', F, hc, h1, h2, h3⟩
theorem to_StringS : ToFn 15 (.slice .str) := by
 intro H cs u h hwt
 obtain ⟨v, l, rfl, rfl, hlen, hv⟩ := At_slice.1 h
 apply Ret.to
 rw [op15]
 simp only [wt] at hwt
 have b1 : (l.length : Int) * 16 ≤ 1099511627776 := by omega
 have b2 : (l.length : Int) ≤ 1099511627776 := by omega
 simp [code15, Tryz.f15, valC, elemT, St.new, maxMade, b1, b2, hv.len]
 refine WP_loop (fun k σ => ∃ (i : Nat) (r : Nat → R) (G : List Ob), i + k = l.length ∧ σ = ⟨r, 0, G⟩ ∧ ToI H .str l i G ∧ r 0 = .val v ∧ r 3 = .val (.slc (some (H.length, 0)) l.length) ∧ r 4 = .val (.int .i64 i)) ?_ l.length _ ⟨0, _, _, by simp, rfl, ToI.init (by simp [zerosL]), by simp, by simp, by simp⟩
 rintro k σ ⟨i, r, G, hik, rfl, hI, r0, r3, r4⟩
 cases k with
 | zero =>
  have hi : i = l.length := by omega
  subst hi
  obtain ⟨T, F, rfl, h1, h2, h3, h4⟩ := hI.done hlen
  simp [r0, r3, r4, hv.len]
  exact ⟨[_], rfl, F, h1, h2, h3⟩
 | succ k =>
  have hi : i < l.length := by omega
  obtain ⟨x, hx⟩ : ∃ x, l[i]? = some x := ⟨l[i], by simp [hi]⟩
  have hI' := hI
  obtain ⟨T0, _, _, hG, _⟩ := hI'
  have hvG : Sl G Sh.str.size (At G .str) v l := by rw [hG]; exact hv.map up_append fun _ _ h => h.ext
  clear hG
  obtain ⟨eid, o, own, cells, e1, e2, e3, e0⟩ := hvG.idx hx (by decide)
  obtain ⟨s, e4, rfl, e5⟩ := At_str.1 e0
  simp only [Sh.size_str] at e1
  have c0 : cells[o]? = some (.str s) := by simpa using cells_get e4 (j := 0) rfl
  have ld := load1 e2 c0
  obtain ⟨cells2, g1, g2, g3, g4⟩ := hI.step (T := []) hx (c := [.str s]) (F := []) (AtF_str.2 ⟨⟨s, rfl, rfl, e5⟩, rfl⟩) (by simp) (by simp)
  simp only [List.append_nil, Sh.size_str, Nat.mul_one, List.length_singleton] at g1 g2 g4
  rw [setRange_one (by omega)] at g4
  have st := store1 (v := .str s) (o := i) g1 (by omega) rfl rfl
  have hw : IntKind.i64.wrap ((i : Int) + 1) = ((i + 1 : Nat) : Int) := by rw [wrap_i64 (by omega) (by omega)]; omega
  simp [r0, r3, r4, hi, hv.len, e1, ld, st, hw]
  exact ⟨k, by omega, i + 1, by omega, _, _, ⟨rfl, rfl⟩, g4, by simp [r0], by simp [r3], by simp⟩
theorem toSlc {f g tS tE tS2 tE2 b : Nat} {zs zs2 zs3 : List V} {d' : List (Nat × Nat)} {fs : List Sh} {F : Func} (hop : ∀ {a : List V} {H : List Ob} {R : V → List Ob → Prop}, Ret C f a H R ↔ WP C f (ren [(22, tS), (99, tE), (35, tS2), (102, tE2)] [(47, g)] code33) ⟨initRegs a, 0, H⟩ (finQ C F H R))
  (hF : F.results = #[.tmp 2]) (hS : C.ty tS = ⟨.slice tE, 1, 24, zs⟩) (hE : (C.ty tE).size = (Sh.st fs).size) (hE2 : (C.ty tE).isAgg = true) (hE0 : (C.ty tE).size ≠ 0) (hb : b ≤ 1048576)
  (hS2 : C.ty tS2 = ⟨.slice tE2, 1, 24, zs2⟩) (hT2 : C.ty tE2 = ⟨.struct d', (Sh.st fs).size, b, zs3⟩) (hz : zs3.length = (Sh.st fs).size) (hg : ToFn g (.st fs)) : ToFn f (.slice (.st fs)) := by
 intro H cs u h hwt
 obtain ⟨v, l, rfl, rfl, hlen, hv⟩ := At_slice.1 h
 apply Ret.to
 rw [hop]
 simp only [wt] at hwt
 have b1 : (l.length : Int) * b ≤ 1099511627776 := by
  have : l.length * b ≤ 1048576 * 1048576 := Nat.mul_le_mul (by omega) hb
  omega
 have b2 : (l.length : Int) ≤ 1099511627776 := by omega
 have hs0 : 0 < Sh.sizes fs := by have := hE ▸ hE0; simp at this; omega
 have hs1 : ¬ Sh.sizes fs = 0 := by omega
 simp only [Sh.size_st] at hE hT2 hz
 simp [code33, Tryz.f33, ren, renO, renP, renX, sub, valC, elemT, St.new, maxMade, hS, hS2, hT2, hz, b1, b2, hs0, hv.len]
 refine WP_loop (fun k σ => ∃ (i : Nat) (r : Nat → R) (G : List Ob), i + k = l.length ∧ σ = ⟨r, 0, G⟩ ∧ ToI H (.st fs) l i G ∧ r 0 = .val v ∧ r 3 = .val (.slc (some (H.length, 0)) l.length) ∧ r 4 = .val (.int .i64 i)) ?_ l.length _ ⟨0, _, _, by simp, rfl, ToI.init (by rw [zerosL_len, hz]; rfl), by simp, by simp, by simp⟩
 rintro k σ ⟨i, r, G, hik, rfl, hI, r0, r3, r4⟩
 cases k with
 | zero =>
  have hi : i = l.length := by omega
  subst hi
  obtain ⟨T, F, rfl, h1, h2, h3, h4⟩ := hI.done hlen
  simp [r0, r3, r4, hS, hv.len, hF]
  exact ⟨[_], rfl, F, h1, h2, h3⟩
 | succ k =>
  have hi : i < l.length := by omega
  obtain ⟨x, hx⟩ : ∃ x, l[i]? = some x := ⟨l[i], by simp [hi]⟩
  have hI' := hI
  obtain ⟨T0, _, _, hG, _⟩ := hI'
  have hvG : Sl G (Sh.st fs).size (At G (.st fs)) v l := by rw [hG]; exact hv.map up_append fun _ _ h => h.ext
  clear hG
  obtain ⟨eid, o, own, cells, e1, e2, e3, e4⟩ := hvG.idx hx (by simp; omega)
  have e1 := fun (k : IntKind) => e1 tE 1 24 zs C.ty k hE
  have ld := load_agg (T := C.ty tE) e2 (by rw [hE]; exact e3) rfl hE0 hE2
  rw [hE] at ld
  have hwx : wt x ≤ 1048576 := by have := wts_get hx; omega
  obtain ⟨T1, c, F1, hc, g5, g6, g7⟩ := hg G _ x e4 hwx
  obtain ⟨cells2, g1, g2, g3, g4⟩ := hI.step hx g5 g6 g7
  simp only [valC, Sh.size_st] at hc g1 g2 g3 g4
  have st := storeN g1 g2 (by intro h0; subst h0; simp at g3; omega) (At.ones _ (AtF.at _ g5)) (C.ty tE2) (by rw [hT2, g3]; exact ⟨rfl, rfl⟩)
  rw [hT2] at st
  have hw : IntKind.i64.wrap ((i : Int) + 1) = ((i + 1 : Nat) : Int) := by rw [wrap_i64 (by omega) (by omega)]; omega
  simp [r0, r3, r4, hi, hS, hS2, hT2, hs0, hs1, hv.len, e1, ld, hc, st, hw, -setRange]
  exact ⟨k, by omega, i + 1, by omega, _, _, ⟨rfl, rfl⟩, g4, by simp [r0], by simp [r3], by simp⟩
theorem to_Rdn : ToFn 47 shRdn := by
 intro H cs u h hwt
 replace h := At_st.1 h
 obtain ⟨us, rfl, h⟩ := h
 replace h := Ats_cons.1 h
 obtain ⟨c0, d0, u0, rr0, rfl, rfl, h0, h⟩ := h
 replace h := Ats_cons.1 h
 obtain ⟨c1, d1, u1, rr1, rfl, rfl, h1, h⟩ := h
 replace h := Ats_nil.1 h
 obtain ⟨rfl, rfl⟩ := h
 replace h0 := At_str.1 h0
 obtain ⟨s0, rfl, rfl, w0⟩ := h0
 replace h1 := At_str.1 h1
 obtain ⟨s1, rfl, rfl, w1⟩ := h1
 simp only [wt_st, wts_cons, wts_nil, wt_str, wt_int, wt_bool] at hwt
 have hA : AtF H shRdn _ _ _ := AtF_st.2 ⟨_, rfl, AtsF_cons.2 ⟨[_], _, _, _, [], [], rfl, rfl, rfl, AtF_str.2 ⟨⟨_, rfl, rfl, w0⟩, rfl⟩, AtsF_cons.2 ⟨[_], _, _, _, [], [], rfl, rfl, rfl, AtF_str.2 ⟨⟨_, rfl, rfl, w1⟩, rfl⟩, AtsF_nil.2 ⟨rfl, rfl, rfl⟩⟩⟩⟩
 apply Ret.to
 rw [op47]
 simp [code47, Tryz.f47, valC]
 exact ⟨[], by simpa using hA, by simp, by simp⟩
theorem to_RdnS : ToFn 33 (.slice shRdn) :=
 toSlc (f := 33) (g := 47) (tS := 22) (tE := 99) (tS2 := 35) (tE2 := 102) (F := Tryz.f33) (op_ren (c := code33) (by kernel_rfl) op33) rfl ty22 (by rw [ty99]; rfl) (by rw [ty99]; rfl) (by rw [ty99]; decide) (by decide) ty35 ty102 rfl to_Rdn
theorem to_Attr : ToFn 139 shAttr := by
 intro H cs u h hwt
 replace h := At_st.1 h
 obtain ⟨us, rfl, h⟩ := h
 replace h := Ats_cons.1 h
 obtain ⟨c0, d0, u0, rr0, rfl, rfl, h0, h⟩ := h
 replace h := Ats_cons.1 h
 obtain ⟨c1, d1, u1, rr1, rfl, rfl, h1, h⟩ := h
 replace h := Ats_nil.1 h
 obtain ⟨rfl, rfl⟩ := h
 replace h0 := At_str.1 h0
 obtain ⟨s0, rfl, rfl, w0⟩ := h0
 have k1 := h1
 replace h1 := At_slice.1 h1
 obtain ⟨v1, l1, rfl, rfl, w1, hv1⟩ := h1
 have o1 := hv1.one
 simp only [wt_st, wts_cons, wts_nil, wt_str, wt_int, wt_bool] at hwt
 obtain ⟨T1, x1, G1, q1, a1, m1, g1⟩ := to_StringS (H) _ _ (k1) (by omega)
 have y1 := a1
 obtain ⟨z1, _, rfl, zz1, _, _⟩ := AtF_slice.1 y1
 cases zz1
 have oz1 := (At_slice.1 (AtF.at _ a1))
 obtain ⟨_, _, x1, x2, _, oz1⟩ := oz1
 cases x1
 cases x2
 have oz1 := oz1.one
 simp only [valC, List.headD_cons, List.append_nil, List.cons_append, List.nil_append, List.append_assoc] at q1
 have hA : AtF (H ++ T1) shAttr _ _ _ := AtF_st.2 ⟨_, rfl, AtsF_cons.2 ⟨[_], _, _, _, [], _, rfl, rfl, rfl, AtF_str.2 ⟨⟨_, rfl, rfl, w0⟩, rfl⟩, AtsF_cons.2 ⟨[_], _, _, _, G1, _, rfl, rfl, rfl, (a1), AtsF_nil.2 ⟨rfl, rfl, rfl⟩⟩⟩⟩
 simp only [List.append_assoc, List.nil_append, List.append_nil] at hA
 skip
 have hge : ∀ q ∈ G1, H.length ≤ q := by
  intro q hq
  try simp only [List.mem_append] at hq
  ·have := g1 q hq; omega
 have hnd : (G1).Nodup := by
  have b1 := AtF.mem _ a1
  exact m1
 obtain ⟨T, hT, hA⟩ := gcH_to hA hge
 simp only [List.cons_append, List.nil_append, List.append_nil] at hT
 apply Ret.to
 rw [op139]
 simp [code139, Tryz.f139, valC, hT, q1, o1, oz1]
 exact ⟨_, hA, hnd, hge⟩
theorem to_AttrS : ToFn 62 (.slice shAttr) :=
 toSlc (f := 62) (g := 139) (tS := 27) (tE := 178) (tS2 := 41) (tE2 := 188) (F := Tryz.f62) (op_ren (c := code62) (by kernel_rfl) op62) rfl ty27 (by rw [ty178]; rfl) (by rw [ty178]; rfl) (by rw [ty178]; decide) (by decide) ty41 ty188 rfl to_Attr
theorem to_Entry : ToFn 14 shEntry := by
 intro H cs u h hwt
 replace h := At_st.1 h
 obtain ⟨us, rfl, h⟩ := h
 replace h := Ats_cons.1 h
 obtain ⟨c0, d0, u0, rr0, rfl, rfl, h0, h⟩ := h
 replace h := Ats_cons.1 h
 obtain ⟨c1, d1, u1, rr1, rfl, rfl, h1, h⟩ := h
 replace h := Ats_nil.1 h
 obtain ⟨rfl, rfl⟩ := h
 have k0 := h0
 replace h0 := At_slice.1 h0
 obtain ⟨v0, l0, rfl, rfl, w0, hv0⟩ := h0
 have o0 := hv0.one
 have k1 := h1
 replace h1 := At_slice.1 h1
 obtain ⟨v1, l1, rfl, rfl, w1, hv1⟩ := h1
 have o1 := hv1.one
 simp only [wt_st, wts_cons, wts_nil, wt_str, wt_int, wt_bool] at hwt
 obtain ⟨T0, x0, G0, q0, a0, m0, g0⟩ := to_RdnS (H) _ _ (k0) (by omega)
 have y0 := a0
 obtain ⟨z0, _, rfl, zz0, _, _⟩ := AtF_slice.1 y0
 cases zz0
 have oz0 := (At_slice.1 (AtF.at _ a0))
 obtain ⟨_, _, x1, x2, _, oz0⟩ := oz0
 cases x1
 cases x2
 have oz0 := oz0.one
 simp only [valC, List.headD_cons, List.append_nil, List.cons_append, List.nil_append, List.append_assoc] at q0
 obtain ⟨T1, x1, G1, q1, a1, m1, g1⟩ := to_AttrS (H ++ T0) _ _ (k1.ext) (by omega)
 have y1 := a1
 obtain ⟨z1, _, rfl, zz1, _, _⟩ := AtF_slice.1 y1
 cases zz1
 have oz1 := (At_slice.1 (AtF.at _ a1))
 obtain ⟨_, _, x1, x2, _, oz1⟩ := oz1
 cases x1
 cases x2
 have oz1 := oz1.one
 simp only [valC, List.headD_cons, List.append_nil, List.cons_append, List.nil_append, List.append_assoc] at q1
 have hA : AtF (H ++ T0 ++ T1) shEntry _ _ _ := AtF_st.2 ⟨_, rfl, AtsF_cons.2 ⟨[_], _, _, _, G0, _, rfl, rfl, rfl, (a0.app), AtsF_cons.2 ⟨[_], _, _, _, G1, _, rfl, rfl, rfl, (a1), AtsF_nil.2 ⟨rfl, rfl, rfl⟩⟩⟩⟩
 simp only [List.append_assoc, List.nil_append, List.append_nil] at hA
 simp only [List.length_append] at g0 g1
 have hge : ∀ q ∈ G0 ++ (G1), H.length ≤ q := by
  intro q hq
  try simp only [List.mem_append] at hq
  rcases hq with hq | hq
  ·have := g0 q hq; omega
  ·have := g1 q hq; omega
 have hnd : (G0 ++ (G1)).Nodup := by
  have b0 := AtF.mem _ a0
  have b1 := AtF.mem _ a1
  simp only [List.length_append] at b0 b1
  refine List.nodup_append.2 ⟨m0, ?_, fun x hx y hy e => ?_⟩
  rotate_left
  ·subst e
   have := b0 x hx
   try simp only [List.mem_append] at hy
   ·have := g1 x hy; omega
  exact m1
 obtain ⟨T, hT, hA⟩ := gcH_to hA hge
 simp only [List.cons_append, List.nil_append, List.append_nil] at hT
 apply Ret.to
 rw [op14]
 simp [code14, Tryz.f14, valC, hT, q0, q1, o0, o1, oz0, oz1]
 exact ⟨_, hA, hnd, hge⟩
theorem to_EntryS : ToFn 95 (.slice shEntry) :=
 toSlc (f := 95) (g := 14) (tS := 56) (tE := 29) (tS2 := 68) (tE2 := 43) (F := Tryz.f95) (op_ren (c := code95) (by kernel_rfl) op95) rfl ty56 (by rw [ty29]; rfl) (by rw [ty29]; rfl) (by rw [ty29]; decide) (by decide) ty68 ty43 rfl to_Entry
theorem to_Class : ToFn 189 shClass := by
 intro H cs u h hwt
 replace h := At_st.1 h
 obtain ⟨us, rfl, h⟩ := h
 replace h := Ats_cons.1 h
 obtain ⟨c0, d0, u0, rr0, rfl, rfl, h0, h⟩ := h
 replace h := Ats_cons.1 h
 obtain ⟨c1, d1, u1, rr1, rfl, rfl, h1, h⟩ := h
 replace h := Ats_cons.1 h
 obtain ⟨c2, d2, u2, rr2, rfl, rfl, h2, h⟩ := h
 replace h := Ats_cons.1 h
 obtain ⟨c3, d3, u3, rr3, rfl, rfl, h3, h⟩ := h
 replace h := Ats_nil.1 h
 obtain ⟨rfl, rfl⟩ := h
 replace h0 := At_str.1 h0
 obtain ⟨s0, rfl, rfl, w0⟩ := h0
 have k1 := h1
 replace h1 := At_slice.1 h1
 obtain ⟨v1, l1, rfl, rfl, w1, hv1⟩ := h1
 have o1 := hv1.one
 have k2 := h2
 replace h2 := At_slice.1 h2
 obtain ⟨v2, l2, rfl, rfl, w2, hv2⟩ := h2
 have o2 := hv2.one
 have k3 := h3
 replace h3 := At_slice.1 h3
 obtain ⟨v3, l3, rfl, rfl, w3, hv3⟩ := h3
 have o3 := hv3.one
 simp only [wt_st, wts_cons, wts_nil, wt_str, wt_int, wt_bool] at hwt
 obtain ⟨T1, x1, G1, q1, a1, m1, g1⟩ := to_StringS (H) _ _ (k1) (by omega)
 have y1 := a1
 obtain ⟨z1, _, rfl, zz1, _, _⟩ := AtF_slice.1 y1
 cases zz1
 have oz1 := (At_slice.1 (AtF.at _ a1))
 obtain ⟨_, _, x1, x2, _, oz1⟩ := oz1
 cases x1
 cases x2
 have oz1 := oz1.one
 simp only [valC, List.headD_cons, List.append_nil, List.cons_append, List.nil_append, List.append_assoc] at q1
 obtain ⟨T2, x2, G2, q2, a2, m2, g2⟩ := to_StringS (H ++ T1) _ _ (k2.ext) (by omega)
 have y2 := a2
 obtain ⟨z2, _, rfl, zz2, _, _⟩ := AtF_slice.1 y2
 cases zz2
 have oz2 := (At_slice.1 (AtF.at _ a2))
 obtain ⟨_, _, x1, x2, _, oz2⟩ := oz2
 cases x1
 cases x2
 have oz2 := oz2.one
 simp only [valC, List.headD_cons, List.append_nil, List.cons_append, List.nil_append, List.append_assoc] at q2
 obtain ⟨T3, x3, G3, q3, a3, m3, g3⟩ := to_StringS (H ++ T1 ++ T2) _ _ (k3.ext.ext) (by omega)
 have y3 := a3
 obtain ⟨z3, _, rfl, zz3, _, _⟩ := AtF_slice.1 y3
 cases zz3
 have oz3 := (At_slice.1 (AtF.at _ a3))
 obtain ⟨_, _, x1, x2, _, oz3⟩ := oz3
 cases x1
 cases x2
 have oz3 := oz3.one
 simp only [valC, List.headD_cons, List.append_nil, List.cons_append, List.nil_append, List.append_assoc] at q3
 have hA : AtF (H ++ T1 ++ T2 ++ T3) shClass _ _ _ := AtF_st.2 ⟨_, rfl, AtsF_cons.2 ⟨[_], _, _, _, [], _, rfl, rfl, rfl, AtF_str.2 ⟨⟨_, rfl, rfl, w0⟩, rfl⟩, AtsF_cons.2 ⟨[_], _, _, _, G1, _, rfl, rfl, rfl, (a1.app.app), AtsF_cons.2 ⟨[_], _, _, _, G2, _, rfl, rfl, rfl, (a2.app), AtsF_cons.2 ⟨[_], _, _, _, G3, _, rfl, rfl, rfl, (a3), AtsF_nil.2 ⟨rfl, rfl, rfl⟩⟩⟩⟩⟩⟩
 simp only [List.append_assoc, List.nil_append, List.append_nil] at hA
 simp only [List.length_append] at g1 g2 g3
 have hge : ∀ q ∈ G1 ++ (G2 ++ (G3)), H.length ≤ q := by
  intro q hq
  try simp only [List.mem_append] at hq
  rcases hq with hq | hq | hq
  ·have := g1 q hq; omega
  ·have := g2 q hq; omega
  ·have := g3 q hq; omega
 have hnd : (G1 ++ (G2 ++ (G3))).Nodup := by
  have b1 := AtF.mem _ a1
  have b2 := AtF.mem _ a2
  have b3 := AtF.mem _ a3
  simp only [List.length_append] at b1 b2 b3
  refine List.nodup_append.2 ⟨m1, ?_, fun x hx y hy e => ?_⟩
  rotate_left
  ·subst e
   have := b1 x hx
   try simp only [List.mem_append] at hy
   rcases hy with hy | hy
   ·have := g2 x hy; omega
   ·have := g3 x hy; omega
  refine List.nodup_append.2 ⟨m2, ?_, fun x hx y hy e => ?_⟩
  rotate_left
  ·subst e
   have := b2 x hx
   try simp only [List.mem_append] at hy
   ·have := g3 x hy; omega
  exact m3
 obtain ⟨T, hT, hA⟩ := gcH_to hA hge
 simp only [List.cons_append, List.nil_append, List.append_nil] at hT
 apply Ret.to
 rw [op189]
 simp [code189, Tryz.f189, valC, hT, q1, q2, q3, o1, o2, o3, oz1, oz2, oz3]
 exact ⟨_, hA, hnd, hge⟩
theorem to_ClassS : ToFn 94 (.slice shClass) :=
 toSlc (f := 94) (g := 189) (tS := 55) (tE := 227) (tS2 := 67) (tE2 := 232) (F := Tryz.f94) (op_ren (c := code94) (by kernel_rfl) op94) rfl ty55 (by rw [ty227]; rfl) (by rw [ty227]; rfl) (by rw [ty227]; decide) (by decide) ty67 ty232 rfl to_Class
theorem to_Tree : ToFn 32 shTree := by
 intro H cs u h hwt
 replace h := At_st.1 h
 obtain ⟨us, rfl, h⟩ := h
 replace h := Ats_cons.1 h
 obtain ⟨c0, d0, u0, rr0, rfl, rfl, h0, h⟩ := h
 replace h := Ats_cons.1 h
 obtain ⟨c1, d1, u1, rr1, rfl, rfl, h1, h⟩ := h
 replace h := Ats_nil.1 h
 obtain ⟨rfl, rfl⟩ := h
 have k0 := h0
 replace h0 := At_slice.1 h0
 obtain ⟨v0, l0, rfl, rfl, w0, hv0⟩ := h0
 have o0 := hv0.one
 have k1 := h1
 replace h1 := At_slice.1 h1
 obtain ⟨v1, l1, rfl, rfl, w1, hv1⟩ := h1
 have o1 := hv1.one
 simp only [wt_st, wts_cons, wts_nil, wt_str, wt_int, wt_bool] at hwt
 obtain ⟨T0, x0, G0, q0, a0, m0, g0⟩ := to_ClassS (H) _ _ (k0) (by omega)
 have y0 := a0
 obtain ⟨z0, _, rfl, zz0, _, _⟩ := AtF_slice.1 y0
 cases zz0
 have oz0 := (At_slice.1 (AtF.at _ a0))
 obtain ⟨_, _, x1, x2, _, oz0⟩ := oz0
 cases x1
 cases x2
 have oz0 := oz0.one
 simp only [valC, List.headD_cons, List.append_nil, List.cons_append, List.nil_append, List.append_assoc] at q0
 obtain ⟨T1, x1, G1, q1, a1, m1, g1⟩ := to_EntryS (H ++ T0) _ _ (k1.ext) (by omega)
 have y1 := a1
 obtain ⟨z1, _, rfl, zz1, _, _⟩ := AtF_slice.1 y1
 cases zz1
 have oz1 := (At_slice.1 (AtF.at _ a1))
 obtain ⟨_, _, x1, x2, _, oz1⟩ := oz1
 cases x1
 cases x2
 have oz1 := oz1.one
 simp only [valC, List.headD_cons, List.append_nil, List.cons_append, List.nil_append, List.append_assoc] at q1
 have hA : AtF (H ++ T0 ++ T1) shTree _ _ _ := AtF_st.2 ⟨_, rfl, AtsF_cons.2 ⟨[_], _, _, _, G0, _, rfl, rfl, rfl, (a0.app), AtsF_cons.2 ⟨[_], _, _, _, G1, _, rfl, rfl, rfl, (a1), AtsF_nil.2 ⟨rfl, rfl, rfl⟩⟩⟩⟩
 simp only [List.append_assoc, List.nil_append, List.append_nil] at hA
 simp only [List.length_append] at g0 g1
 have hge : ∀ q ∈ G0 ++ (G1), H.length ≤ q := by
  intro q hq
  try simp only [List.mem_append] at hq
  rcases hq with hq | hq
  ·have := g0 q hq; omega
  ·have := g1 q hq; omega
 have hnd : (G0 ++ (G1)).Nodup := by
  have b0 := AtF.mem _ a0
  have b1 := AtF.mem _ a1
  simp only [List.length_append] at b0 b1
  refine List.nodup_append.2 ⟨m0, ?_, fun x hx y hy e => ?_⟩
  rotate_left
  ·subst e
   have := b0 x hx
   try simp only [List.mem_append] at hy
   ·have := g1 x hy; omega
  exact m1
 obtain ⟨T, hT, hA⟩ := gcH_to hA hge
 simp only [List.cons_append, List.nil_append, List.append_nil] at hT
 apply Ret.to
 rw [op32]
 simp [code32, Tryz.f32, valC, hT, q0, q1, o0, o1, oz0, oz1]
 exact ⟨_, hA, hnd, hge⟩
theorem to_Node : ToFn 96 shNode := by
 intro H cs u h hwt
 replace h := At_st.1 h
 obtain ⟨us, rfl, h⟩ := h
 replace h := Ats_cons.1 h
 obtain ⟨c0, d0, u0, rr0, rfl, rfl, h0, h⟩ := h
 replace h := Ats_cons.1 h
 obtain ⟨c1, d1, u1, rr1, rfl, rfl, h1, h⟩ := h
 replace h := Ats_cons.1 h
 obtain ⟨c2, d2, u2, rr2, rfl, rfl, h2, h⟩ := h
 replace h := Ats_cons.1 h
 obtain ⟨c3, d3, u3, rr3, rfl, rfl, h3, h⟩ := h
 replace h := Ats_nil.1 h
 obtain ⟨rfl, rfl⟩ := h
 replace h0 := At_int.1 h0
 obtain ⟨n0, rfl, rfl, w0⟩ := h0
 replace h1 := At_str.1 h1
 obtain ⟨s1, rfl, rfl, w1⟩ := h1
 replace h2 := At_str.1 h2
 obtain ⟨s2, rfl, rfl, w2⟩ := h2
 replace h3 := At_int.1 h3
 obtain ⟨n3, rfl, rfl, w3⟩ := h3
 simp only [wt_st, wts_cons, wts_nil, wt_str, wt_int, wt_bool] at hwt
 have hA : AtF H shNode _ _ _ := AtF_st.2 ⟨_, rfl, AtsF_cons.2 ⟨[_], _, _, _, [], [], rfl, rfl, rfl, AtF_int.2 ⟨⟨_, rfl, rfl, w0⟩, rfl⟩, AtsF_cons.2 ⟨[_], _, _, _, [], [], rfl, rfl, rfl, AtF_str.2 ⟨⟨_, rfl, rfl, w1⟩, rfl⟩, AtsF_cons.2 ⟨[_], _, _, _, [], [], rfl, rfl, rfl, AtF_str.2 ⟨⟨_, rfl, rfl, w2⟩, rfl⟩, AtsF_cons.2 ⟨[_], _, _, _, [], [], rfl, rfl, rfl, AtF_int.2 ⟨⟨_, rfl, rfl, w3⟩, rfl⟩, AtsF_nil.2 ⟨rfl, rfl, rfl⟩⟩⟩⟩⟩⟩
 apply Ret.to
 rw [op96]
 simp [code96, Tryz.f96, valC]
 exact ⟨[], by simpa using hA, by simp, by simp⟩
theorem to_NodeS : ToFn 34 (.slice shNode) :=
 toSlc (f := 34) (g := 96) (tS := 23) (tE := 139) (tS2 := 36) (tE2 := 146) (F := Tryz.f34) (op_ren (c := code34) (by kernel_rfl) op34) rfl ty23 (by rw [ty139]; rfl) (by rw [ty139]; rfl) (by rw [ty139]; decide) (by decide) ty36 ty146 rfl to_Node
theorem to_Part : ToFn 138 shPart := by
 intro H cs u h hwt
 replace h := At_st.1 h
 obtain ⟨us, rfl, h⟩ := h
 replace h := Ats_cons.1 h
 obtain ⟨c0, d0, u0, rr0, rfl, rfl, h0, h⟩ := h
 replace h := Ats_cons.1 h
 obtain ⟨c1, d1, u1, rr1, rfl, rfl, h1, h⟩ := h
 replace h := Ats_cons.1 h
 obtain ⟨c2, d2, u2, rr2, rfl, rfl, h2, h⟩ := h
 replace h := Ats_nil.1 h
 obtain ⟨rfl, rfl⟩ := h
 replace h0 := At_int.1 h0
 obtain ⟨n0, rfl, rfl, w0⟩ := h0
 replace h1 := At_str.1 h1
 obtain ⟨s1, rfl, rfl, w1⟩ := h1
 replace h2 := At_int.1 h2
 obtain ⟨n2, rfl, rfl, w2⟩ := h2
 simp only [wt_st, wts_cons, wts_nil, wt_str, wt_int, wt_bool] at hwt
 have hA : AtF H shPart _ _ _ := AtF_st.2 ⟨_, rfl, AtsF_cons.2 ⟨[_], _, _, _, [], [], rfl, rfl, rfl, AtF_int.2 ⟨⟨_, rfl, rfl, w0⟩, rfl⟩, AtsF_cons.2 ⟨[_], _, _, _, [], [], rfl, rfl, rfl, AtF_str.2 ⟨⟨_, rfl, rfl, w1⟩, rfl⟩, AtsF_cons.2 ⟨[_], _, _, _, [], [], rfl, rfl, rfl, AtF_int.2 ⟨⟨_, rfl, rfl, w2⟩, rfl⟩, AtsF_nil.2 ⟨rfl, rfl, rfl⟩⟩⟩⟩⟩
 apply Ret.to
 rw [op138]
 simp [code138, Tryz.f138, valC]
 exact ⟨[], by simpa using hA, by simp, by simp⟩
theorem to_PartS : ToFn 61 (.slice shPart) :=
 toSlc (f := 61) (g := 138) (tS := 24) (tE := 175) (tS2 := 37) (tE2 := 186) (F := Tryz.f61) (op_ren (c := code61) (by kernel_rfl) op61) rfl ty24 (by rw [ty175]; rfl) (by rw [ty175]; rfl) (by rw [ty175]; decide) (by decide) ty37 ty186 rfl to_Part
theorem to_Flow : ToFn 13 shFlow := by
 intro H cs u h hwt
 replace h := At_st.1 h
 obtain ⟨us, rfl, h⟩ := h
 replace h := Ats_cons.1 h
 obtain ⟨c0, d0, u0, rr0, rfl, rfl, h0, h⟩ := h
 replace h := Ats_cons.1 h
 obtain ⟨c1, d1, u1, rr1, rfl, rfl, h1, h⟩ := h
 replace h := Ats_cons.1 h
 obtain ⟨c2, d2, u2, rr2, rfl, rfl, h2, h⟩ := h
 replace h := Ats_cons.1 h
 obtain ⟨c3, d3, u3, rr3, rfl, rfl, h3, h⟩ := h
 replace h := Ats_cons.1 h
 obtain ⟨c4, d4, u4, rr4, rfl, rfl, h4, h⟩ := h
 replace h := Ats_cons.1 h
 obtain ⟨c5, d5, u5, rr5, rfl, rfl, h5, h⟩ := h
 replace h := Ats_nil.1 h
 obtain ⟨rfl, rfl⟩ := h
 have k0 := h0
 replace h0 := At_slice.1 h0
 obtain ⟨v0, l0, rfl, rfl, w0, hv0⟩ := h0
 have o0 := hv0.one
 have k1 := h1
 replace h1 := At_slice.1 h1
 obtain ⟨v1, l1, rfl, rfl, w1, hv1⟩ := h1
 have o1 := hv1.one
 have k2 := h2
 replace h2 := At_slice.1 h2
 obtain ⟨v2, l2, rfl, rfl, w2, hv2⟩ := h2
 have o2 := hv2.one
 have k3 := h3
 replace h3 := At_slice.1 h3
 obtain ⟨v3, l3, rfl, rfl, w3, hv3⟩ := h3
 have o3 := hv3.one
 have k4 := h4
 replace h4 := At_slice.1 h4
 obtain ⟨v4, l4, rfl, rfl, w4, hv4⟩ := h4
 have o4 := hv4.one
 replace h5 := At_bool.1 h5
 obtain ⟨b5, rfl, rfl⟩ := h5
 simp only [wt_st, wts_cons, wts_nil, wt_str, wt_int, wt_bool] at hwt
 obtain ⟨T0, x0, G0, q0, a0, m0, g0⟩ := to_RdnS (H) _ _ (k0) (by omega)
 have y0 := a0
 obtain ⟨z0, _, rfl, zz0, _, _⟩ := AtF_slice.1 y0
 cases zz0
 have oz0 := (At_slice.1 (AtF.at _ a0))
 obtain ⟨_, _, x1, x2, _, oz0⟩ := oz0
 cases x1
 cases x2
 have oz0 := oz0.one
 simp only [valC, List.headD_cons, List.append_nil, List.cons_append, List.nil_append, List.append_assoc] at q0
 obtain ⟨T1, x1, G1, q1, a1, m1, g1⟩ := to_NodeS (H ++ T0) _ _ (k1.ext) (by omega)
 have y1 := a1
 obtain ⟨z1, _, rfl, zz1, _, _⟩ := AtF_slice.1 y1
 cases zz1
 have oz1 := (At_slice.1 (AtF.at _ a1))
 obtain ⟨_, _, x1, x2, _, oz1⟩ := oz1
 cases x1
 cases x2
 have oz1 := oz1.one
 simp only [valC, List.headD_cons, List.append_nil, List.cons_append, List.nil_append, List.append_assoc] at q1
 obtain ⟨T2, x2, G2, q2, a2, m2, g2⟩ := to_PartS (H ++ T0 ++ T1) _ _ (k2.ext.ext) (by omega)
 have y2 := a2
 obtain ⟨z2, _, rfl, zz2, _, _⟩ := AtF_slice.1 y2
 cases zz2
 have oz2 := (At_slice.1 (AtF.at _ a2))
 obtain ⟨_, _, x1, x2, _, oz2⟩ := oz2
 cases x1
 cases x2
 have oz2 := oz2.one
 simp only [valC, List.headD_cons, List.append_nil, List.cons_append, List.nil_append, List.append_assoc] at q2
 obtain ⟨T3, x3, G3, q3, a3, m3, g3⟩ := to_PartS (H ++ T0 ++ T1 ++ T2) _ _ (k3.ext.ext.ext) (by omega)
 have y3 := a3
 obtain ⟨z3, _, rfl, zz3, _, _⟩ := AtF_slice.1 y3
 cases zz3
 have oz3 := (At_slice.1 (AtF.at _ a3))
 obtain ⟨_, _, x1, x2, _, oz3⟩ := oz3
 cases x1
 cases x2
 have oz3 := oz3.one
 simp only [valC, List.headD_cons, List.append_nil, List.cons_append, List.nil_append, List.append_assoc] at q3
 obtain ⟨T4, x4, G4, q4, a4, m4, g4⟩ := to_PartS (H ++ T0 ++ T1 ++ T2 ++ T3) _ _ (k4.ext.ext.ext.ext) (by omega)
 have y4 := a4
 obtain ⟨z4, _, rfl, zz4, _, _⟩ := AtF_slice.1 y4
 cases zz4
 have oz4 := (At_slice.1 (AtF.at _ a4))
 obtain ⟨_, _, x1, x2, _, oz4⟩ := oz4
 cases x1
 cases x2
 have oz4 := oz4.one
 simp only [valC, List.headD_cons, List.append_nil, List.cons_append, List.nil_append, List.append_assoc] at q4
 have hA : AtF (H ++ T0 ++ T1 ++ T2 ++ T3 ++ T4) shFlow _ _ _ := AtF_st.2 ⟨_, rfl, AtsF_cons.2 ⟨[_], _, _, _, G0, _, rfl, rfl, rfl, (a0.app.app.app.app), AtsF_cons.2 ⟨[_], _, _, _, G1, _, rfl, rfl, rfl, (a1.app.app.app), AtsF_cons.2 ⟨[_], _, _, _, G2, _, rfl, rfl, rfl, (a2.app.app), AtsF_cons.2 ⟨[_], _, _, _, G3, _, rfl, rfl, rfl, (a3.app), AtsF_cons.2 ⟨[_], _, _, _, G4, _, rfl, rfl, rfl, (a4), AtsF_cons.2 ⟨[_], _, _, _, [], _, rfl, rfl, rfl, AtF_bool.2 ⟨⟨b5, rfl, rfl⟩, rfl⟩, AtsF_nil.2 ⟨rfl, rfl, rfl⟩⟩⟩⟩⟩⟩⟩⟩
 simp only [List.append_assoc, List.nil_append, List.append_nil] at hA
 simp only [List.length_append] at g0 g1 g2 g3 g4
 have hge : ∀ q ∈ G0 ++ (G1 ++ (G2 ++ (G3 ++ (G4)))), H.length ≤ q := by
  intro q hq
  try simp only [List.mem_append] at hq
  rcases hq with hq | hq | hq | hq | hq
  ·have := g0 q hq; omega
  ·have := g1 q hq; omega
  ·have := g2 q hq; omega
  ·have := g3 q hq; omega
  ·have := g4 q hq; omega
 have hnd : (G0 ++ (G1 ++ (G2 ++ (G3 ++ (G4))))).Nodup := by
  have b0 := AtF.mem _ a0
  have b1 := AtF.mem _ a1
  have b2 := AtF.mem _ a2
  have b3 := AtF.mem _ a3
  have b4 := AtF.mem _ a4
  simp only [List.length_append] at b0 b1 b2 b3 b4
  refine List.nodup_append.2 ⟨m0, ?_, fun x hx y hy e => ?_⟩
  rotate_left
  ·subst e
   have := b0 x hx
   try simp only [List.mem_append] at hy
   rcases hy with hy | hy | hy | hy
   ·have := g1 x hy; omega
   ·have := g2 x hy; omega
   ·have := g3 x hy; omega
   ·have := g4 x hy; omega
  refine List.nodup_append.2 ⟨m1, ?_, fun x hx y hy e => ?_⟩
  rotate_left
  ·subst e
   have := b1 x hx
   try simp only [List.mem_append] at hy
   rcases hy with hy | hy | hy
   ·have := g2 x hy; omega
   ·have := g3 x hy; omega
   ·have := g4 x hy; omega
  refine List.nodup_append.2 ⟨m2, ?_, fun x hx y hy e => ?_⟩
  rotate_left
  ·subst e
   have := b2 x hx
   try simp only [List.mem_append] at hy
   rcases hy with hy | hy
   ·have := g3 x hy; omega
   ·have := g4 x hy; omega
  refine List.nodup_append.2 ⟨m3, ?_, fun x hx y hy e => ?_⟩
  rotate_left
  ·subst e
   have := b3 x hx
   try simp only [List.mem_append] at hy
   ·have := g4 x hy; omega
  exact m4
 obtain ⟨T, hT, hA⟩ := gcH_to hA hge
 simp only [List.cons_append, List.nil_append, List.append_nil] at hT
 apply Ret.to
 rw [op13]
 simp [code13, Tryz.f13, valC, hT, q0, q1, q2, q3, q4, o0, o1, o2, o3, o4, oz0, oz1, oz2, oz3, oz4]
 exact ⟨_, hA, hnd, hge⟩
theorem markText {H : List Ob} {k : Nat} (hk : k ≤ 100000000) : callW C 109 [.int .i64 k] H = some (.str (markStr k), H) := by
 apply Ret.eq
 rw [op109]
 by_cases h0 : k = 0
 ·subst h0
  simp [code109, Tryz.f109, markStr]
 ·have hp : ¬ ((k : Int) ≤ 0) := by omega
  simp [code109, Tryz.f109, hp, h0]
  refine WP_loop (fun m σ => ∃ (r : Nat → R) (out : Str) (G T : List Ob), G = H ++ T ∧ σ = ⟨r, 0, G⟩ ∧ r 0 = .val (.int .i64 m) ∧ r 3 = .val (.str out) ∧ markLoop k [] = markLoop m out ∧ m ≤ 100000000 ∧ out.length + m ≤ 100000000) ?_ k _ ⟨_, [], H, [], by simp, rfl, by simp, by simp, rfl, hk, by simpa using hk⟩
  rintro m σ ⟨r, out, G, T, hG, rfl, r0, r3, hm, m1, m2⟩
  by_cases hz : m = 0
  ·subst hz
   rw [markLoop_zero] at hm
   have hl : out.length + 1 ≤ maxStr := by unfold maxStr; omega
   have hl' : 1 + out.length ≤ maxStr := by unfold maxStr; omega
   subst hG
   simp [r0, r3, markStr, h0, hm, hl, hl']
  ·have hpm : (0 : Int) < (m : Int) := by omega
   have hr : ((m : Int).tmod 10) = (m : Int) % 10 := by rw [Int.tmod_eq_emod_of_nonneg (by omega)]
   have hw : IntKind.i64.wrap (48 + (m : Int) % 10) = 48 + (m : Int) % 10 := wrap_i64 (by omega) (by omega)
   have hu : IntKind.u8.wrap (48 + (m : Int) % 10) = 48 + (m : Int) % 10 := by unfold IntKind.wrap; simp [IntKind.bits, IntKind.signed]; omega
   have hn : (48 + (m : Int) % 10).toNat = 48 + m % 10 := by omega
   have hq : ((m : Int).tdiv 10) = (m : Int) / 10 := by rw [Int.tdiv_eq_ediv_of_nonneg (by omega)]
   have hw2 : IntKind.i64.wrap ((m : Int) / 10) = (m : Int) / 10 := wrap_i64 (by omega) (by omega)
   have hl' : 1 + out.length ≤ maxStr := by unfold maxStr; omega
   have hmp : 0 < m := by omega
   simp [r0, r3, hpm, elemT, hz, hr, hw, hq, hw2, hu, hn, hl', hmp, fillL, zerosL, slcCells, isByte, byteOfV]
   refine ⟨m / 10, by omega, _, (48 + UInt8.ofNat (m % 10)) :: out, _, ⟨T ++ _, by rw [hG, List.append_assoc]⟩, ⟨rfl, rfl⟩, by simp, by simp, ?_, by omega, by simp; omega⟩
   rw [hm, markLoop_step hz]
theorem mark_ok {k : Nat} (h : k ≤ 50000000) : (markStr k).length ≤ maxLen := by
 have := markStr_len (k := k)
 unfold maxLen
 omega
def MkFn (f : Nat) (sh : Sh) : Prop := ∀ (H : List Ob) (cs : List V) (u : U) (F : List Nat) (k : Nat), AtF H sh cs u F → F.Nodup → k + cntV u ≤ 50000000 →
 ∃ H', callW C f [valC sh cs, .int .i64 k] H = some (.int .i64 ((k + cntV u : Nat) : Int), H') ∧ H'.length = H.length ∧ (∀ q, q ∉ F → H'[q]? = H[q]?) ∧ AtF H' sh cs (mkV u k) F
theorem Ret.mark {f : Nat} {a : List V} {H : List Ob} {n : Int} {P : List Ob → Prop} (h : Ret C f a H fun r H' => r = .int .i64 n ∧ P H') : ∃ H', callW C f a H = some (.int .i64 n, H') ∧ P H' := by
 obtain ⟨r, H', hc, rfl, h⟩ := h
 exact ⟨H', hc, h⟩
theorem gcH_len {H H' : List Ob} {r : V} (h : H'.length = H.length) : gcH H H' r = H' := by
 unfold gcH
 split
 ·rename_i hc
  obtain ⟨⟨T, rfl⟩, _⟩ := hc
  simp at h
  rw [h, List.append_nil]
 ·rfl
theorem mk_StringS : MkFn 128 (.slice .str) := by
 intro H cs u F k h hn hk
 obtain ⟨v, l, rfl, rfl, hlen, hv⟩ := AtF_slice.1 h
 have hv := (AtF_slice.2 ⟨v, l, rfl, rfl, hlen, hv⟩).at
 obtain ⟨_, _, hx1, hx2, _, hv⟩ := At_slice.1 hv
 cases hx1; cases hx2
 apply Ret.mark
 rw [op128]
 simp only [cntV] at hk
 have hl64 : l.length ≤ 9223372036854775807 := hlen
 simp [code128, Tryz.f128, valC, -setRange]
 refine WP_loop (fun m σ => ∃ (i : Nat) (r : Nat → R) (G : List Ob), i + m = l.length ∧ σ = ⟨r, 0, G⟩ ∧ r 0 = .val v ∧ r 1 = .val (.int .i64 ((k + cntPs (l.take i) : Nat) : Int)) ∧ r 5 = .val (.int .i64 i) ∧ G.length = H.length ∧ (∀ q, q ∉ F → G[q]? = H[q]?) ∧ AtF G (.slice .str) [v] (.lst (mkPs (l.take i) k ++ l.drop i)) F) ?_ l.length _ ⟨0, _, H, by simp, rfl, by simp, by simp [cntPs], by simp, rfl, fun _ _ => rfl, by simpa [mkPs] using h⟩
 rintro m σ ⟨i, r, G, him, rfl, r0, r1, r5, g1, g2, g3⟩
 cases m with
 | zero =>
  have hi : i = l.length := by omega
  subst hi
  simp at g3
  simp [r0, r1, r5, hv.len, gcH_len g1, cntV, mkV]
  exact ⟨g1, g2, g3⟩
 | succ m =>
  have hi : i < l.length := by omega
  obtain ⟨x, hx⟩ : ∃ x, l[i]? = some x := ⟨l[i], by simp [hi]⟩
  obtain ⟨id, off, cells, K, e0, e1, e2, e3, e4, e5, e6, e7, e8⟩ := AtF.elem g3 hn (i := i) (x := x) (by rw [mk_get hi, hx])
  have hL : (mkPs (l.take i) k ++ l.drop i).length = l.length := by simp [mkPs_len]; omega
  rw [hL] at e0
  subst e0
  obtain ⟨⟨s, e3, rfl, _⟩, rfl⟩ := AtF_str.1 e3
  have hcnt := cntPs_take hx
  have hle := cntPs_take_le (l := l) (i := i + 1)
  simp only [cntP] at hcnt
  have hm := markText (H := G) (k := k + cntPs (l.take i)) (by omega)
  simp only [Sh.size_str, Nat.mul_one] at e1 e2 e8
  have st := store1 (v := .str (markStr (k + cntPs (l.take i)))) (o := off + i) e1 (by omega) rfl rfl
  have hre := e8 (G.set id (.mk true 1 (cells.set (off + i) (.str (markStr (k + cntPs (l.take i))))))) [.str (markStr (k + cntPs (l.take i)))] (.str (markStr (k + cntPs (l.take i)))) rfl
   (by rw [List.getElem?_set_self (List.getElem?_eq_some_iff.1 e1).1, setRange_one (by omega)]) (fun q _ hq _ => by rw [List.getElem?_set_ne (Ne.symm hq)]) (AtF_str.2 ⟨⟨_, rfl, rfl, mark_ok (by omega)⟩, rfl⟩)
  have hmk := mk_set (k := k) hx
  simp only [mkP] at hmk
  rw [hmk] at hre
  have hw : IntKind.i64.wrap ((i : Int) + 1) = ((i : Int) + 1) := wrap_i64 (by omega) (by omega)
  have hw2 : IntKind.i64.wrap ((k : Int) + cntPs (l.take i) + 1) = (k : Int) + cntPs (l.take i) + 1 := wrap_i64 (by omega) (by omega)
  simp only [Int.natCast_add] at hm r1
  simp [r0, r1, r5, hi, hm, st, hw, hw2, -setRange]
  exact ⟨m, by omega, i + 1, by omega, _, _, ⟨rfl, rfl⟩, by simp [r0], by simp; omega, by simp, by simpa using g1, fun q hq => by rw [List.getElem?_set_ne (by rintro rfl; exact hq e6)]; exact g2 q hq, hre⟩
def HeldFn (f : Nat) (sh : Sh) : Prop := ∀ (H : List Ob) (cs : List V) (u : U) (k : Nat), At H sh cs (mkV u k) → k + cntV u ≤ 50000000 →
 callW C f [valC sh cs, .int .i64 k] H = some (.int .i64 ((k + cntV u : Nat) : Int), H)
theorem held_StringS : HeldFn 278 (.slice .str) := by
 intro H cs u k h hk
 obtain ⟨v, l', rfl, hu, hlen, hv⟩ := At_slice.1 h
 obtain ⟨l, rfl, rfl⟩ := mkV_lst hu
 apply Ret.eq
 rw [op278]
 simp only [cntV] at hk ⊢
 have hl64 : (mkPs l k).length ≤ 9223372036854775807 := hlen
 rw [mkPs_len] at hl64
 have hvl := fun {e s b : Nat} {z : List V} => hv.len (e := e) (s := s) (b := b) (z := z)
 simp only [mkPs_len] at hvl
 simp [code278, Tryz.f278, valC]
 refine WP_loop (fun m σ => ∃ (i : Nat) (r : Nat → R), i + m = l.length ∧ σ = ⟨r, 0, H⟩ ∧ r 0 = .val v ∧ r 1 = .val (.int .i64 ((k + cntPs (l.take i) : Nat) : Int)) ∧ r 5 = .val (.int .i64 i)) ?_ l.length _ ⟨0, _, by simp, rfl, by simp, by simp [cntPs], by simp⟩
 rintro m σ ⟨i, r, him, rfl, r0, r1, r5⟩
 cases m with
 | zero =>
  have hi : i = l.length := by omega
  subst hi
  simp at r1
  simp [r0, r1, r5, hvl]
 | succ m =>
  have hi : i < l.length := by omega
  obtain ⟨x, hx⟩ : ∃ x, l[i]? = some x := ⟨l[i], by simp [hi]⟩
  obtain ⟨eid, o, own, cells, e1, e2, e3, e0⟩ := hv.idx (mkPs_get hx) (by decide)
  obtain ⟨s, e4, e5, e6⟩ := At_str.1 e0
  obtain ⟨⟨t, rfl⟩, rfl⟩ := mkP_str e5
  simp only [Sh.size_str] at e1
  have c0 : cells[o]? = some (.str (markStr (k + cntPs (l.take i)))) := by simpa using cells_get e4 (j := 0) rfl
  have ld := load1 e2 c0
  have hid : eid < H.length := (List.getElem?_eq_some_iff.1 e2).1
  have hcnt := cntPs_take hx
  have hle := cntPs_take_le (l := l) (i := i + 1)
  simp only [cntP] at hcnt
  have hm := markText (H := H) (k := k + cntPs (l.take i)) (by omega)
  have hw : IntKind.i64.wrap ((i : Int) + 1) = ((i : Int) + 1) := wrap_i64 (by omega) (by omega)
  have hw2 : IntKind.i64.wrap ((k : Int) + cntPs (l.take i) + 1) = (k : Int) + cntPs (l.take i) + 1 := wrap_i64 (by omega) (by omega)
  simp only [Int.natCast_add] at hm r1
  simp [r0, r1, r5, hi, hvl, e1, ld, hid, hm, hw, hw2]
  exact ⟨m, by omega, i + 1, by omega, by omega, by omega⟩
end Go.Proofs.Try1
end
