/- Part 09 of the proof of a law: the interpreter, its soundness, and what functions of the program compute over it. Conditions: none but those that each theorem names. -/
import Derived.Test.YtamgeahibepfnaaGreatDoorQ08
import Derived.Test.YtamgeahibepfnaaGreatDoorQ07
import Derived.Test.YtamgeahibepfnaaGreatDoorQ06
import Derived.Test.YtamgeahibepfnaaGreatDoorQ05
import Derived.Lib.Bytealg

set_option linter.all false
set_option maxRecDepth 20000
set_option maxHeartbeats 40000000
section
namespace Go.Proofs.Try1
open Go Go.Lite
theorem aF6 : avq 105 shRdn := by
 intro H cs ds u w h h'
 replace h := aqj.1 h
 obtain ⟨usa, rfl, h⟩ := h
 replace h := akp.1 h
 obtain ⟨ca0, da0, ua0, rra0, rfl, rfl, ha0, h⟩ := h
 replace h := akp.1 h
 obtain ⟨ca1, da1, ua1, rra1, rfl, rfl, ha1, h⟩ := h
 replace h := apW.1 h
 obtain ⟨rfl, rfl⟩ := h
 replace ha0 := ap1.1 ha0
 obtain ⟨sa0, rfl, rfl, wa0⟩ := ha0
 replace ha1 := ap1.1 ha1
 obtain ⟨sa1, rfl, rfl, wa1⟩ := ha1
 replace h' := aqj.1 h'
 obtain ⟨usb, rfl, h'⟩ := h'
 replace h' := akp.1 h'
 obtain ⟨cb0, db0, ub0, rrb0, rfl, rfl, hb0, h'⟩ := h'
 replace h' := akp.1 h'
 obtain ⟨cb1, db1, ub1, rrb1, rfl, rfl, hb1, h'⟩ := h'
 replace h' := apW.1 h'
 obtain ⟨rfl, rfl⟩ := h'
 replace hb0 := ap1.1 hb0
 obtain ⟨sb0, rfl, rfl, wb0⟩ := hb0
 replace hb1 := ap1.1 hb1
 obtain ⟨sb1, rfl, rfl, wb1⟩ := hb1
 by_cases e0 : sa0 = sb0
 rotate_left
 ·refine ⟨false, by simp [e0], ?_⟩
  apply Ret.eq
  rw [aDJ]
  simp [avo, Tryz.f105, apU, e0]
 subst e0
 by_cases e1 : sa1 = sb1
 rotate_left
 ·refine ⟨false, by simp [e1], ?_⟩
  apply Ret.eq
  rw [aDJ]
  simp [avo, Tryz.f105, apU, e1]
 subst e1
 refine ⟨true, by simp only [], ?_⟩
 apply Ret.eq
 rw [aDJ]
 simp [avo, Tryz.f105, apU]
theorem aB1 : avq 38 (.slice shRdn) :=
 aCp (f := 38) (g := 105) (tS := 35) (tE := 102) (F := Tryz.f38) (ass (c := av2) (by kernel_rfl) aQY) rfl aFp aKT (by rw [aCB]; rfl) (by rw [aCB]; rfl) (by rw [aCB]; decide) aF6
theorem aEN : avq 150 shAttr := by
 intro H cs ds u w h h'
 replace h := aqj.1 h
 obtain ⟨usa, rfl, h⟩ := h
 replace h := akp.1 h
 obtain ⟨ca0, da0, ua0, rra0, rfl, rfl, ha0, h⟩ := h
 replace h := akp.1 h
 obtain ⟨ca1, da1, ua1, rra1, rfl, rfl, ha1, h⟩ := h
 replace h := apW.1 h
 obtain ⟨rfl, rfl⟩ := h
 replace ha0 := ap1.1 ha0
 obtain ⟨sa0, rfl, rfl, wa0⟩ := ha0
 have ka1 := ha1
 replace ha1 := apM.1 ha1
 obtain ⟨va1, la1, rfl, rfl, wa1, hva1⟩ := ha1
 have oa1 := hva1.one
 replace h' := aqj.1 h'
 obtain ⟨usb, rfl, h'⟩ := h'
 replace h' := akp.1 h'
 obtain ⟨cb0, db0, ub0, rrb0, rfl, rfl, hb0, h'⟩ := h'
 replace h' := akp.1 h'
 obtain ⟨cb1, db1, ub1, rrb1, rfl, rfl, hb1, h'⟩ := h'
 replace h' := apW.1 h'
 obtain ⟨rfl, rfl⟩ := h'
 replace hb0 := ap1.1 hb0
 obtain ⟨sb0, rfl, rfl, wb0⟩ := hb0
 have kb1 := hb1
 replace hb1 := apM.1 hb1
 obtain ⟨vb1, lb1, rfl, rfl, wb1, hvb1⟩ := hb1
 have ob1 := hvb1.one
 by_cases e0 : sa0 = sb0
 rotate_left
 ·refine ⟨false, by simp [e0], ?_⟩
  apply Ret.eq
  rw [aD4]
  simp [avj, Tryz.f150, apU, e0, oa1, ob1]
 subst e0
 obtain ⟨t1, e1, q1⟩ := aAR H _ _ _ _ ka1 kb1
 simp only [apU, List.headD_cons, List.append_nil, List.cons_append, List.nil_append] at q1
 cases t1 with
 | false =>
  have e1 : ¬ (.lst la1) = (U.lst lb1) := fun h => by simpa using e1.2 h
  refine ⟨false, by simp only [U.st.injEq, List.cons.injEq, e1, and_false, false_and, Bool.false_eq_true], ?_⟩
  apply Ret.eq
  rw [aD4]
  simp [avj, Tryz.f150, apU, q1, oa1, ob1]
 | true =>
 have e1 := e1.1 rfl
 refine ⟨true, by simp only [e1], ?_⟩
 apply Ret.eq
 rw [aD4]
 simp [avj, Tryz.f150, apU, q1, oa1, ob1]
theorem aD7 : avq 69 (.slice shAttr) :=
 aCp (f := 69) (g := 150) (tS := 41) (tE := 188) (F := Tryz.f69) (ass (c := aAJ) (by kernel_rfl) aSh) rfl aEX aGI (by rw [aCu]; rfl) (by rw [aCu]; rfl) (by rw [aCu]; decide) aEN
theorem aEI : avq 18 shEntry := by
 intro H cs ds u w h h'
 replace h := aqj.1 h
 obtain ⟨usa, rfl, h⟩ := h
 replace h := akp.1 h
 obtain ⟨ca0, da0, ua0, rra0, rfl, rfl, ha0, h⟩ := h
 replace h := akp.1 h
 obtain ⟨ca1, da1, ua1, rra1, rfl, rfl, ha1, h⟩ := h
 replace h := apW.1 h
 obtain ⟨rfl, rfl⟩ := h
 have ka0 := ha0
 replace ha0 := apM.1 ha0
 obtain ⟨va0, la0, rfl, rfl, wa0, hva0⟩ := ha0
 have oa0 := hva0.one
 have ka1 := ha1
 replace ha1 := apM.1 ha1
 obtain ⟨va1, la1, rfl, rfl, wa1, hva1⟩ := ha1
 have oa1 := hva1.one
 replace h' := aqj.1 h'
 obtain ⟨usb, rfl, h'⟩ := h'
 replace h' := akp.1 h'
 obtain ⟨cb0, db0, ub0, rrb0, rfl, rfl, hb0, h'⟩ := h'
 replace h' := akp.1 h'
 obtain ⟨cb1, db1, ub1, rrb1, rfl, rfl, hb1, h'⟩ := h'
 replace h' := apW.1 h'
 obtain ⟨rfl, rfl⟩ := h'
 have kb0 := hb0
 replace hb0 := apM.1 hb0
 obtain ⟨vb0, lb0, rfl, rfl, wb0, hvb0⟩ := hb0
 have ob0 := hvb0.one
 have kb1 := hb1
 replace hb1 := apM.1 hb1
 obtain ⟨vb1, lb1, rfl, rfl, wb1, hvb1⟩ := hb1
 have ob1 := hvb1.one
 obtain ⟨t0, e0, q0⟩ := aB1 H _ _ _ _ ka0 kb0
 simp only [apU, List.headD_cons, List.append_nil, List.cons_append, List.nil_append] at q0
 cases t0 with
 | false =>
  have e0 : ¬ (.lst la0) = (U.lst lb0) := fun h => by simpa using e0.2 h
  refine ⟨false, by simp only [U.st.injEq, List.cons.injEq, e0, and_false, false_and, Bool.false_eq_true], ?_⟩
  apply Ret.eq
  rw [aGb]
  simp [awR, Tryz.f18, apU, q0, oa0, oa1, ob0, ob1]
 | true =>
 have e0 := e0.1 rfl
 obtain ⟨t1, e1, q1⟩ := aD7 H _ _ _ _ ka1 kb1
 simp only [apU, List.headD_cons, List.append_nil, List.cons_append, List.nil_append] at q1
 cases t1 with
 | false =>
  have e1 : ¬ (.lst la1) = (U.lst lb1) := fun h => by simpa using e1.2 h
  refine ⟨false, by simp only [U.st.injEq, List.cons.injEq, e1, and_false, false_and, Bool.false_eq_true], ?_⟩
  apply Ret.eq
  rw [aGb]
  simp [awR, Tryz.f18, apU, q0, q1, oa0, oa1, ob0, ob1]
 | true =>
 have e1 := e1.1 rfl
 refine ⟨true, by simp only [e0, e1], ?_⟩
 apply Ret.eq
 rw [aGb]
 simp [awR, Tryz.f18, apU, q0, q1, oa0, oa1, ob0, ob1]
theorem aE8 : avq 106 shNode := by
 intro H cs ds u w h h'
 replace h := aqj.1 h
 obtain ⟨usa, rfl, h⟩ := h
 replace h := akp.1 h
 obtain ⟨ca0, da0, ua0, rra0, rfl, rfl, ha0, h⟩ := h
 replace h := akp.1 h
 obtain ⟨ca1, da1, ua1, rra1, rfl, rfl, ha1, h⟩ := h
 replace h := akp.1 h
 obtain ⟨ca2, da2, ua2, rra2, rfl, rfl, ha2, h⟩ := h
 replace h := akp.1 h
 obtain ⟨ca3, da3, ua3, rra3, rfl, rfl, ha3, h⟩ := h
 replace h := apW.1 h
 obtain ⟨rfl, rfl⟩ := h
 replace ha0 := aqp.1 ha0
 obtain ⟨na0, rfl, rfl, wa0⟩ := ha0
 replace ha1 := ap1.1 ha1
 obtain ⟨sa1, rfl, rfl, wa1⟩ := ha1
 replace ha2 := ap1.1 ha2
 obtain ⟨sa2, rfl, rfl, wa2⟩ := ha2
 replace ha3 := aqp.1 ha3
 obtain ⟨na3, rfl, rfl, wa3⟩ := ha3
 replace h' := aqj.1 h'
 obtain ⟨usb, rfl, h'⟩ := h'
 replace h' := akp.1 h'
 obtain ⟨cb0, db0, ub0, rrb0, rfl, rfl, hb0, h'⟩ := h'
 replace h' := akp.1 h'
 obtain ⟨cb1, db1, ub1, rrb1, rfl, rfl, hb1, h'⟩ := h'
 replace h' := akp.1 h'
 obtain ⟨cb2, db2, ub2, rrb2, rfl, rfl, hb2, h'⟩ := h'
 replace h' := akp.1 h'
 obtain ⟨cb3, db3, ub3, rrb3, rfl, rfl, hb3, h'⟩ := h'
 replace h' := apW.1 h'
 obtain ⟨rfl, rfl⟩ := h'
 replace hb0 := aqp.1 hb0
 obtain ⟨nb0, rfl, rfl, wb0⟩ := hb0
 replace hb1 := ap1.1 hb1
 obtain ⟨sb1, rfl, rfl, wb1⟩ := hb1
 replace hb2 := ap1.1 hb2
 obtain ⟨sb2, rfl, rfl, wb2⟩ := hb2
 replace hb3 := aqp.1 hb3
 obtain ⟨nb3, rfl, rfl, wb3⟩ := hb3
 by_cases e0 : na0 = nb0
 rotate_left
 ·refine ⟨false, by simp [e0], ?_⟩
  apply Ret.eq
  rw [azY]
  simp [atH, Tryz.f106, apU, e0]
 subst e0
 by_cases e1 : sa1 = sb1
 rotate_left
 ·refine ⟨false, by simp [e1], ?_⟩
  apply Ret.eq
  rw [azY]
  simp [atH, Tryz.f106, apU, e1]
 subst e1
 by_cases e2 : sa2 = sb2
 rotate_left
 ·refine ⟨false, by simp [e2], ?_⟩
  apply Ret.eq
  rw [azY]
  simp [atH, Tryz.f106, apU, e2]
 subst e2
 by_cases e3 : na3 = nb3
 rotate_left
 ·refine ⟨false, by simp [e3], ?_⟩
  apply Ret.eq
  rw [azY]
  simp [atH, Tryz.f106, apU, e3]
 subst e3
 refine ⟨true, by simp only [], ?_⟩
 apply Ret.eq
 rw [azY]
 simp [atH, Tryz.f106, apU]
theorem aEp : avq 39 (.slice shNode) :=
 aCp (f := 39) (g := 106) (tS := 36) (tE := 146) (F := Tryz.f39) (ass (c := aAW) (by kernel_rfl) aRS) rfl aE0 aIE (by rw [aB7]; rfl) (by rw [aB7]; rfl) (by rw [aB7]; decide) aE8
theorem aEV : avq 149 shPart := by
 intro H cs ds u w h h'
 replace h := aqj.1 h
 obtain ⟨usa, rfl, h⟩ := h
 replace h := akp.1 h
 obtain ⟨ca0, da0, ua0, rra0, rfl, rfl, ha0, h⟩ := h
 replace h := akp.1 h
 obtain ⟨ca1, da1, ua1, rra1, rfl, rfl, ha1, h⟩ := h
 replace h := akp.1 h
 obtain ⟨ca2, da2, ua2, rra2, rfl, rfl, ha2, h⟩ := h
 replace h := apW.1 h
 obtain ⟨rfl, rfl⟩ := h
 replace ha0 := aqp.1 ha0
 obtain ⟨na0, rfl, rfl, wa0⟩ := ha0
 replace ha1 := ap1.1 ha1
 obtain ⟨sa1, rfl, rfl, wa1⟩ := ha1
 replace ha2 := aqp.1 ha2
 obtain ⟨na2, rfl, rfl, wa2⟩ := ha2
 replace h' := aqj.1 h'
 obtain ⟨usb, rfl, h'⟩ := h'
 replace h' := akp.1 h'
 obtain ⟨cb0, db0, ub0, rrb0, rfl, rfl, hb0, h'⟩ := h'
 replace h' := akp.1 h'
 obtain ⟨cb1, db1, ub1, rrb1, rfl, rfl, hb1, h'⟩ := h'
 replace h' := akp.1 h'
 obtain ⟨cb2, db2, ub2, rrb2, rfl, rfl, hb2, h'⟩ := h'
 replace h' := apW.1 h'
 obtain ⟨rfl, rfl⟩ := h'
 replace hb0 := aqp.1 hb0
 obtain ⟨nb0, rfl, rfl, wb0⟩ := hb0
 replace hb1 := ap1.1 hb1
 obtain ⟨sb1, rfl, rfl, wb1⟩ := hb1
 replace hb2 := aqp.1 hb2
 obtain ⟨nb2, rfl, rfl, wb2⟩ := hb2
 by_cases e0 : na0 = nb0
 rotate_left
 ·refine ⟨false, by simp [e0], ?_⟩
  apply Ret.eq
  rw [aCs]
  simp [auy, Tryz.f149, apU, e0]
 subst e0
 by_cases e1 : sa1 = sb1
 rotate_left
 ·refine ⟨false, by simp [e1], ?_⟩
  apply Ret.eq
  rw [aCs]
  simp [auy, Tryz.f149, apU, e1]
 subst e1
 by_cases e2 : na2 = nb2
 rotate_left
 ·refine ⟨false, by simp [e2], ?_⟩
  apply Ret.eq
  rw [aCs]
  simp [auy, Tryz.f149, apU, e2]
 subst e2
 refine ⟨true, by simp only [], ?_⟩
 apply Ret.eq
 rw [aCs]
 simp [auy, Tryz.f149, apU]
theorem axb : avq 68 (.slice shPart) :=
 aCp (f := 68) (g := 149) (tS := 37) (tE := 186) (F := Tryz.f68) (ass (c := aBW) (by kernel_rfl) aPV) rfl aES aNq (by rw [aB3]; rfl) (by rw [aB3]; rfl) (by rw [aB3]; decide) aEV
theorem aEK : avq 17 ar4 := by
 intro H cs ds u w h h'
 replace h := aqj.1 h
 obtain ⟨usa, rfl, h⟩ := h
 replace h := akp.1 h
 obtain ⟨ca0, da0, ua0, rra0, rfl, rfl, ha0, h⟩ := h
 replace h := akp.1 h
 obtain ⟨ca1, da1, ua1, rra1, rfl, rfl, ha1, h⟩ := h
 replace h := akp.1 h
 obtain ⟨ca2, da2, ua2, rra2, rfl, rfl, ha2, h⟩ := h
 replace h := akp.1 h
 obtain ⟨ca3, da3, ua3, rra3, rfl, rfl, ha3, h⟩ := h
 replace h := akp.1 h
 obtain ⟨ca4, da4, ua4, rra4, rfl, rfl, ha4, h⟩ := h
 replace h := akp.1 h
 obtain ⟨ca5, da5, ua5, rra5, rfl, rfl, ha5, h⟩ := h
 replace h := apW.1 h
 obtain ⟨rfl, rfl⟩ := h
 have ka0 := ha0
 replace ha0 := apM.1 ha0
 obtain ⟨va0, la0, rfl, rfl, wa0, hva0⟩ := ha0
 have oa0 := hva0.one
 have ka1 := ha1
 replace ha1 := apM.1 ha1
 obtain ⟨va1, la1, rfl, rfl, wa1, hva1⟩ := ha1
 have oa1 := hva1.one
 have ka2 := ha2
 replace ha2 := apM.1 ha2
 obtain ⟨va2, la2, rfl, rfl, wa2, hva2⟩ := ha2
 have oa2 := hva2.one
 have ka3 := ha3
 replace ha3 := apM.1 ha3
 obtain ⟨va3, la3, rfl, rfl, wa3, hva3⟩ := ha3
 have oa3 := hva3.one
 have ka4 := ha4
 replace ha4 := apM.1 ha4
 obtain ⟨va4, la4, rfl, rfl, wa4, hva4⟩ := ha4
 have oa4 := hva4.one
 replace ha5 := as5.1 ha5
 obtain ⟨ba5, rfl, rfl⟩ := ha5
 replace h' := aqj.1 h'
 obtain ⟨usb, rfl, h'⟩ := h'
 replace h' := akp.1 h'
 obtain ⟨cb0, db0, ub0, rrb0, rfl, rfl, hb0, h'⟩ := h'
 replace h' := akp.1 h'
 obtain ⟨cb1, db1, ub1, rrb1, rfl, rfl, hb1, h'⟩ := h'
 replace h' := akp.1 h'
 obtain ⟨cb2, db2, ub2, rrb2, rfl, rfl, hb2, h'⟩ := h'
 replace h' := akp.1 h'
 obtain ⟨cb3, db3, ub3, rrb3, rfl, rfl, hb3, h'⟩ := h'
 replace h' := akp.1 h'
 obtain ⟨cb4, db4, ub4, rrb4, rfl, rfl, hb4, h'⟩ := h'
 replace h' := akp.1 h'
 obtain ⟨cb5, db5, ub5, rrb5, rfl, rfl, hb5, h'⟩ := h'
 replace h' := apW.1 h'
 obtain ⟨rfl, rfl⟩ := h'
 have kb0 := hb0
 replace hb0 := apM.1 hb0
 obtain ⟨vb0, lb0, rfl, rfl, wb0, hvb0⟩ := hb0
 have ob0 := hvb0.one
 have kb1 := hb1
 replace hb1 := apM.1 hb1
 obtain ⟨vb1, lb1, rfl, rfl, wb1, hvb1⟩ := hb1
 have ob1 := hvb1.one
 have kb2 := hb2
 replace hb2 := apM.1 hb2
 obtain ⟨vb2, lb2, rfl, rfl, wb2, hvb2⟩ := hb2
 have ob2 := hvb2.one
 have kb3 := hb3
 replace hb3 := apM.1 hb3
 obtain ⟨vb3, lb3, rfl, rfl, wb3, hvb3⟩ := hb3
 have ob3 := hvb3.one
 have kb4 := hb4
 replace hb4 := apM.1 hb4
 obtain ⟨vb4, lb4, rfl, rfl, wb4, hvb4⟩ := hb4
 have ob4 := hvb4.one
 replace hb5 := as5.1 hb5
 obtain ⟨bb5, rfl, rfl⟩ := hb5
 obtain ⟨t0, e0, q0⟩ := aB1 H _ _ _ _ ka0 kb0
 simp only [apU, List.headD_cons, List.append_nil, List.cons_append, List.nil_append] at q0
 cases t0 with
 | false =>
  have e0 : ¬ (.lst la0) = (U.lst lb0) := fun h => by simpa using e0.2 h
  refine ⟨false, by simp only [U.st.injEq, List.cons.injEq, e0, and_false, false_and, Bool.false_eq_true], ?_⟩
  apply Ret.eq
  rw [aBK]
  simp [atP, Tryz.f17, apU, q0, oa0, oa1, oa2, oa3, oa4, ob0, ob1, ob2, ob3, ob4]
 | true =>
 have e0 := e0.1 rfl
 obtain ⟨t1, e1, q1⟩ := aEp H _ _ _ _ ka1 kb1
 simp only [apU, List.headD_cons, List.append_nil, List.cons_append, List.nil_append] at q1
 cases t1 with
 | false =>
  have e1 : ¬ (.lst la1) = (U.lst lb1) := fun h => by simpa using e1.2 h
  refine ⟨false, by simp only [U.st.injEq, List.cons.injEq, e1, and_false, false_and, Bool.false_eq_true], ?_⟩
  apply Ret.eq
  rw [aBK]
  simp [atP, Tryz.f17, apU, q0, q1, oa0, oa1, oa2, oa3, oa4, ob0, ob1, ob2, ob3, ob4]
 | true =>
 have e1 := e1.1 rfl
 obtain ⟨t2, e2, q2⟩ := axb H _ _ _ _ ka2 kb2
 simp only [apU, List.headD_cons, List.append_nil, List.cons_append, List.nil_append] at q2
 cases t2 with
 | false =>
  have e2 : ¬ (.lst la2) = (U.lst lb2) := fun h => by simpa using e2.2 h
  refine ⟨false, by simp only [U.st.injEq, List.cons.injEq, e2, and_false, false_and, Bool.false_eq_true], ?_⟩
  apply Ret.eq
  rw [aBK]
  simp [atP, Tryz.f17, apU, q0, q1, q2, oa0, oa1, oa2, oa3, oa4, ob0, ob1, ob2, ob3, ob4]
 | true =>
 have e2 := e2.1 rfl
 obtain ⟨t3, e3, q3⟩ := axb H _ _ _ _ ka3 kb3
 simp only [apU, List.headD_cons, List.append_nil, List.cons_append, List.nil_append] at q3
 cases t3 with
 | false =>
  have e3 : ¬ (.lst la3) = (U.lst lb3) := fun h => by simpa using e3.2 h
  refine ⟨false, by simp only [U.st.injEq, List.cons.injEq, e3, and_false, false_and, Bool.false_eq_true], ?_⟩
  apply Ret.eq
  rw [aBK]
  simp [atP, Tryz.f17, apU, q0, q1, q2, q3, oa0, oa1, oa2, oa3, oa4, ob0, ob1, ob2, ob3, ob4]
 | true =>
 have e3 := e3.1 rfl
 obtain ⟨t4, e4, q4⟩ := axb H _ _ _ _ ka4 kb4
 simp only [apU, List.headD_cons, List.append_nil, List.cons_append, List.nil_append] at q4
 cases t4 with
 | false =>
  have e4 : ¬ (.lst la4) = (U.lst lb4) := fun h => by simpa using e4.2 h
  refine ⟨false, by simp only [U.st.injEq, List.cons.injEq, e4, and_false, false_and, Bool.false_eq_true], ?_⟩
  apply Ret.eq
  rw [aBK]
  simp [atP, Tryz.f17, apU, q0, q1, q2, q3, q4, oa0, oa1, oa2, oa3, oa4, ob0, ob1, ob2, ob3, ob4]
 | true =>
 have e4 := e4.1 rfl
 by_cases e5 : ba5 = bb5
 rotate_left
 ·refine ⟨false, by simp [e5], ?_⟩
  apply Ret.eq
  rw [aBK]
  simp [atP, Tryz.f17, apU, q0, q1, q2, q3, q4, e5, oa0, oa1, oa2, oa3, oa4, ob0, ob1, ob2, ob3, ob4]
 subst e5
 refine ⟨true, by simp only [e0, e1, e2, e3, e4], ?_⟩
 apply Ret.eq
 rw [aBK]
 simp [atP, Tryz.f17, apU, q0, q1, q2, q3, q4, oa0, oa1, oa2, oa3, oa4, ob0, ob1, ob2, ob3, ob4]
def au3 (f : Nat) (sh : Sh) : Prop := ∀ (H : List Ob) (cs : List V) (u : U), At H sh cs u → wt u ≤ 1048576 →
 ∃ T cs' F, callW C f [apU sh cs] H = some (apU sh cs', H ++ T) ∧ AtF (H ++ T) sh cs' u F ∧ F.Nodup ∧ ∀ id ∈ F, H.length ≤ id
theorem Ret.to {f : Nat} {sh : Sh} {a : List V} {H : List Ob} {u : U} (h : Ret C f a H fun r H' => ∃ T cs' F, H' = H ++ T ∧ r = apU sh cs' ∧ AtF (H ++ T) sh cs' u F ∧ F.Nodup ∧ ∀ id ∈ F, H.length ≤ id) :
  ∃ T cs' F, callW C f a H = some (apU sh cs', H ++ T) ∧ AtF (H ++ T) sh cs' u F ∧ F.Nodup ∧ ∀ id ∈ F, H.length ≤ id := by
 obtain ⟨r, H', hc, T, cs', F, rfl, rfl, h1, h2, h3⟩ := h
 exact ⟨T, cs', F, hc, h1, h2, h3⟩
theorem aBA : au3 15 (.slice .str) := by
 intro H cs u h hwt
 obtain ⟨v, l, rfl, rfl, hlen, hv⟩ := apM.1 h
 apply Ret.to
 rw [aPp]
 simp only [wt] at hwt
 have b1 : (l.length : Int) * 16 ≤ 1099511627776 := by omega
 have b2 : (l.length : Int) ≤ 1099511627776 := by omega
 simp [aBM, Tryz.f15, apU, apR, St.new, ap0, b1, b2, hv.len]
 refine apT (fun k σ => ∃ (i : Nat) (r : Nat → R) (G : List Ob), i + k = l.length ∧ σ = ⟨r, 0, G⟩ ∧ ToI H .str l i G ∧ r 0 = .val v ∧ r 3 = .val (.slc (some (H.length, 0)) l.length) ∧ r 4 = .val (.int .i64 i)) ?_ l.length _ ⟨0, _, _, by simp, rfl, ToI.init (by simp [apG]), by simp, by simp, by simp⟩
 rintro k σ ⟨i, r, G, hik, rfl, hI, r0, r3, r4⟩
 cases k with
 | zero =>
  have hi : i = l.length := by omega
  subst hi
  obtain ⟨T, F, rfl, h1, h2, h3, h4⟩ := hI.done hlen
  simp [r0, r3, r4, hv.len]
  exact ⟨[_], rfl, F, h1, h2, h3⟩
 | succ k =>
  have hi : i < l.length := by omega
  obtain ⟨x, hx⟩ : ∃ x, l[i]? = some x := ⟨l[i], by simp [hi]⟩
  have hI' := hI
  obtain ⟨T0, _, _, hG, _⟩ := hI'
  have hvG : Sl G Sh.str.size (At G .str) v l := by rw [hG]; exact hv.map aqf fun _ _ h => h.ext
  clear hG
  obtain ⟨eid, o, own, cells, e1, e2, e3, e0⟩ := hvG.idx hx (by decide)
  obtain ⟨s, e4, rfl, e5⟩ := ap1.1 e0
  simp only [Sh.size_str] at e1
  have c0 : cells[o]? = some (.str s) := by simpa using aqh e4 (j := 0) rfl
  have ld := aqt e2 c0
  obtain ⟨cells2, g1, g2, g3, g4⟩ := hI.step (T := []) hx (c := [.str s]) (F := []) (asa.2 ⟨⟨s, rfl, rfl, e5⟩, rfl⟩) (by simp) (by simp)
  simp only [List.append_nil, Sh.size_str, Nat.mul_one, List.length_singleton] at g1 g2 g4
  rw [atN (by omega)] at g4
  have st := store1 (v := .str s) (o := i) g1 (by omega) rfl rfl
  have hw : IntKind.i64.wrap ((i : Int) + 1) = ((i + 1 : Nat) : Int) := by rw [wrap_i64 (by omega) (by omega)]; omega
  simp [r0, r3, r4, hi, hv.len, e1, ld, st, hw]
  exact ⟨k, by omega, i + 1, by omega, _, _, ⟨rfl, rfl⟩, g4, by simp [r0], by simp [r3], by simp⟩
theorem aCk {f g tS tE tS2 tE2 b : Nat} {zs zs2 zs3 : List V} {d' : List (Nat × Nat)} {fs : List Sh} {F : Func} (hop : ∀ {a : List V} {H : List Ob} {R : V → List Ob → Prop}, Ret C f a H R ↔ WP C f (ren [(22, tS), (99, tE), (35, tS2), (102, tE2)] [(47, g)] axg) ⟨apD a, 0, H⟩ (apS C F H R))
  (hF : F.results = #[.tmp 2]) (hS : C.ty tS = ⟨.slice tE, 1, 24, zs⟩) (hE : (C.ty tE).size = (Sh.st fs).size) (hE2 : (C.ty tE).isAgg = true) (hE0 : (C.ty tE).size ≠ 0) (hb : b ≤ 1048576)
  (hS2 : C.ty tS2 = ⟨.slice tE2, 1, 24, zs2⟩) (hT2 : C.ty tE2 = ⟨.struct d', (Sh.st fs).size, b, zs3⟩) (hz : zs3.length = (Sh.st fs).size) (hg : au3 g (.st fs)) : au3 f (.slice (.st fs)) := by
 intro H cs u h hwt
 obtain ⟨v, l, rfl, rfl, hlen, hv⟩ := apM.1 h
 apply Ret.to
 rw [hop]
 simp only [wt] at hwt
 have b1 : (l.length : Int) * b ≤ 1099511627776 := by
  have : l.length * b ≤ 1048576 * 1048576 := Nat.mul_le_mul (by omega) hb
  omega
 have b2 : (l.length : Int) ≤ 1099511627776 := by omega
 have hs0 : 0 < Sh.sizes fs := by have := hE ▸ hE0; simp at this; omega
 have hs1 : ¬ Sh.sizes fs = 0 := by omega
 simp only [Sh.size_st] at hE hT2 hz
 simp [axg, Tryz.f33, ren, aC5, aC6, asW, sub, apU, apR, St.new, ap0, hS, hS2, hT2, hz, b1, b2, hs0, hv.len]
 refine apT (fun k σ => ∃ (i : Nat) (r : Nat → R) (G : List Ob), i + k = l.length ∧ σ = ⟨r, 0, G⟩ ∧ ToI H (.st fs) l i G ∧ r 0 = .val v ∧ r 3 = .val (.slc (some (H.length, 0)) l.length) ∧ r 4 = .val (.int .i64 i)) ?_ l.length _ ⟨0, _, _, by simp, rfl, ToI.init (by rw [aAM, hz]; rfl), by simp, by simp, by simp⟩
 rintro k σ ⟨i, r, G, hik, rfl, hI, r0, r3, r4⟩
 cases k with
 | zero =>
  have hi : i = l.length := by omega
  subst hi
  obtain ⟨T, F, rfl, h1, h2, h3, h4⟩ := hI.done hlen
  simp [r0, r3, r4, hS, hv.len, hF]
  exact ⟨[_], rfl, F, h1, h2, h3⟩
 | succ k =>
  have hi : i < l.length := by omega
  obtain ⟨x, hx⟩ : ∃ x, l[i]? = some x := ⟨l[i], by simp [hi]⟩
  have hI' := hI
  obtain ⟨T0, _, _, hG, _⟩ := hI'
  have hvG : Sl G (Sh.st fs).size (At G (.st fs)) v l := by rw [hG]; exact hv.map aqf fun _ _ h => h.ext
  clear hG
  obtain ⟨eid, o, own, cells, e1, e2, e3, e4⟩ := hvG.idx hx (by simp; omega)
  have e1 := fun (k : IntKind) => e1 tE 1 24 zs C.ty k hE
  have ld := aua (T := C.ty tE) e2 (by rw [hE]; exact e3) rfl hE0 hE2
  rw [hE] at ld
  have hwx : wt x ≤ 1048576 := by have := aCi hx; omega
  obtain ⟨T1, c, F1, hc, g5, g6, g7⟩ := hg G _ x e4 hwx
  obtain ⟨cells2, g1, g2, g3, g4⟩ := hI.step hx g5 g6 g7
  simp only [apU, Sh.size_st] at hc g1 g2 g3 g4
  have st := aEG g1 g2 (by intro h0; subst h0; simp at g3; omega) (At.ones _ (AtF.at _ g5)) (C.ty tE2) (by rw [hT2, g3]; exact ⟨rfl, rfl⟩)
  rw [hT2] at st
  have hw : IntKind.i64.wrap ((i : Int) + 1) = ((i + 1 : Nat) : Int) := by rw [wrap_i64 (by omega) (by omega)]; omega
  simp [r0, r3, r4, hi, hS, hS2, hT2, hs0, hs1, hv.len, e1, ld, hc, st, hw, -setRange]
  exact ⟨k, by omega, i + 1, by omega, _, _, ⟨rfl, rfl⟩, g4, by simp [r0], by simp [r3], by simp⟩
theorem aGf : au3 47 shRdn := by
 intro H cs u h hwt
 replace h := aqj.1 h
 obtain ⟨us, rfl, h⟩ := h
 replace h := akp.1 h
 obtain ⟨c0, d0, u0, rr0, rfl, rfl, h0, h⟩ := h
 replace h := akp.1 h
 obtain ⟨c1, d1, u1, rr1, rfl, rfl, h1, h⟩ := h
 replace h := apW.1 h
 obtain ⟨rfl, rfl⟩ := h
 replace h0 := ap1.1 h0
 obtain ⟨s0, rfl, rfl, w0⟩ := h0
 replace h1 := ap1.1 h1
 obtain ⟨s1, rfl, rfl, w1⟩ := h1
 simp only [aqJ, ap4, aqb, aqo, aqn, aqa] at hwt
 have hA : AtF H shRdn _ _ _ := atg.2 ⟨_, rfl, ap6.2 ⟨[_], _, _, _, [], [], rfl, rfl, rfl, asa.2 ⟨⟨_, rfl, rfl, w0⟩, rfl⟩, ap6.2 ⟨[_], _, _, _, [], [], rfl, rfl, rfl, asa.2 ⟨⟨_, rfl, rfl, w1⟩, rfl⟩, asN.2 ⟨rfl, rfl, rfl⟩⟩⟩⟩
 apply Ret.to
 rw [aSp]
 simp [aAG, Tryz.f47, apU]
 exact ⟨[], by simpa using hA, by simp, by simp⟩
theorem aCh : au3 33 (.slice shRdn) :=
 aCk (f := 33) (g := 47) (tS := 22) (tE := 99) (tS2 := 35) (tE2 := 102) (F := Tryz.f33) (ass (c := axg) (by kernel_rfl) aQI) rfl aGB (by rw [aCR]; rfl) (by rw [aCR]; rfl) (by rw [aCR]; decide) (by decide) aKT aCB rfl aGf
theorem aFy : au3 139 shAttr := by
 intro H cs u h hwt
 replace h := aqj.1 h
 obtain ⟨us, rfl, h⟩ := h
 replace h := akp.1 h
 obtain ⟨c0, d0, u0, rr0, rfl, rfl, h0, h⟩ := h
 replace h := akp.1 h
 obtain ⟨c1, d1, u1, rr1, rfl, rfl, h1, h⟩ := h
 replace h := apW.1 h
 obtain ⟨rfl, rfl⟩ := h
 replace h0 := ap1.1 h0
 obtain ⟨s0, rfl, rfl, w0⟩ := h0
 have k1 := h1
 replace h1 := apM.1 h1
 obtain ⟨v1, l1, rfl, rfl, w1, hv1⟩ := h1
 have o1 := hv1.one
 simp only [aqJ, ap4, aqb, aqo, aqn, aqa] at hwt
 obtain ⟨T1, x1, G1, q1, a1, m1, g1⟩ := aBA (H) _ _ (k1) (by omega)
 have y1 := a1
 obtain ⟨z1, _, rfl, zz1, _, _⟩ := aqr.1 y1
 cases zz1
 have oz1 := (apM.1 (AtF.at _ a1))
 obtain ⟨_, _, x1, x2, _, oz1⟩ := oz1
 cases x1
 cases x2
 have oz1 := oz1.one
 simp only [apU, List.headD_cons, List.append_nil, List.cons_append, List.nil_append, List.append_assoc] at q1
 have hA : AtF (H ++ T1) shAttr _ _ _ := atg.2 ⟨_, rfl, ap6.2 ⟨[_], _, _, _, [], _, rfl, rfl, rfl, asa.2 ⟨⟨_, rfl, rfl, w0⟩, rfl⟩, ap6.2 ⟨[_], _, _, _, G1, _, rfl, rfl, rfl, (a1), asN.2 ⟨rfl, rfl, rfl⟩⟩⟩⟩
 simp only [List.append_assoc, List.nil_append, List.append_nil] at hA
 skip
 have hge : ∀ q ∈ G1, H.length ≤ q := by
  intro q hq
  try simp only [List.mem_append] at hq
  ·have := g1 q hq; omega
 have hnd : (G1).Nodup := by
  have b1 := AtF.mem _ a1
  exact m1
 obtain ⟨T, hT, hA⟩ := aA7 hA hge
 simp only [List.cons_append, List.nil_append, List.append_nil] at hT
 apply Ret.to
 rw [aI5]
 simp [ayr, Tryz.f139, apU, hT, q1, o1, oz1]
 exact ⟨_, hA, hnd, hge⟩
theorem aDV : au3 62 (.slice shAttr) :=
 aCk (f := 62) (g := 139) (tS := 27) (tE := 178) (tS2 := 41) (tE2 := 188) (F := Tryz.f62) (ass (c := aBI) (by kernel_rfl) aQt) rfl aJm (by rw [axU]; rfl) (by rw [axU]; rfl) (by rw [axU]; decide) (by decide) aGI aCu rfl aFy
theorem axp : au3 14 shEntry := by
 intro H cs u h hwt
 replace h := aqj.1 h
 obtain ⟨us, rfl, h⟩ := h
 replace h := akp.1 h
 obtain ⟨c0, d0, u0, rr0, rfl, rfl, h0, h⟩ := h
 replace h := akp.1 h
 obtain ⟨c1, d1, u1, rr1, rfl, rfl, h1, h⟩ := h
 replace h := apW.1 h
 obtain ⟨rfl, rfl⟩ := h
 have k0 := h0
 replace h0 := apM.1 h0
 obtain ⟨v0, l0, rfl, rfl, w0, hv0⟩ := h0
 have o0 := hv0.one
 have k1 := h1
 replace h1 := apM.1 h1
 obtain ⟨v1, l1, rfl, rfl, w1, hv1⟩ := h1
 have o1 := hv1.one
 simp only [aqJ, ap4, aqb, aqo, aqn, aqa] at hwt
 obtain ⟨T0, x0, G0, q0, a0, m0, g0⟩ := aCh (H) _ _ (k0) (by omega)
 have y0 := a0
 obtain ⟨z0, _, rfl, zz0, _, _⟩ := aqr.1 y0
 cases zz0
 have oz0 := (apM.1 (AtF.at _ a0))
 obtain ⟨_, _, x1, x2, _, oz0⟩ := oz0
 cases x1
 cases x2
 have oz0 := oz0.one
 simp only [apU, List.headD_cons, List.append_nil, List.cons_append, List.nil_append, List.append_assoc] at q0
 obtain ⟨T1, x1, G1, q1, a1, m1, g1⟩ := aDV (H ++ T0) _ _ (k1.ext) (by omega)
 have y1 := a1
 obtain ⟨z1, _, rfl, zz1, _, _⟩ := aqr.1 y1
 cases zz1
 have oz1 := (apM.1 (AtF.at _ a1))
 obtain ⟨_, _, x1, x2, _, oz1⟩ := oz1
 cases x1
 cases x2
 have oz1 := oz1.one
 simp only [apU, List.headD_cons, List.append_nil, List.cons_append, List.nil_append, List.append_assoc] at q1
 have hA : AtF (H ++ T0 ++ T1) shEntry _ _ _ := atg.2 ⟨_, rfl, ap6.2 ⟨[_], _, _, _, G0, _, rfl, rfl, rfl, (a0.app), ap6.2 ⟨[_], _, _, _, G1, _, rfl, rfl, rfl, (a1), asN.2 ⟨rfl, rfl, rfl⟩⟩⟩⟩
 simp only [List.append_assoc, List.nil_append, List.append_nil] at hA
 simp only [List.length_append] at g0 g1
 have hge : ∀ q ∈ G0 ++ (G1), H.length ≤ q := by
  intro q hq
  try simp only [List.mem_append] at hq
  rcases hq with hq | hq
  ·have := g0 q hq; omega
  ·have := g1 q hq; omega
 have hnd : (G0 ++ (G1)).Nodup := by
  have b0 := AtF.mem _ a0
  have b1 := AtF.mem _ a1
  simp only [List.length_append] at b0 b1
  refine List.nodup_append.2 ⟨m0, ?_, fun x hx y hy e => ?_⟩
  rotate_left
  ·subst e
   have := b0 x hx
   try simp only [List.mem_append] at hy
   ·have := g1 x hy; omega
  exact m1
 obtain ⟨T, hT, hA⟩ := aA7 hA hge
 simp only [List.cons_append, List.nil_append, List.append_nil] at hT
 apply Ret.to
 rw [aSi]
 simp [aAX, Tryz.f14, apU, hT, q0, q1, o0, o1, oz0, oz1]
 exact ⟨_, hA, hnd, hge⟩
theorem aEW : au3 96 shNode := by
 intro H cs u h hwt
 replace h := aqj.1 h
 obtain ⟨us, rfl, h⟩ := h
 replace h := akp.1 h
 obtain ⟨c0, d0, u0, rr0, rfl, rfl, h0, h⟩ := h
 replace h := akp.1 h
 obtain ⟨c1, d1, u1, rr1, rfl, rfl, h1, h⟩ := h
 replace h := akp.1 h
 obtain ⟨c2, d2, u2, rr2, rfl, rfl, h2, h⟩ := h
 replace h := akp.1 h
 obtain ⟨c3, d3, u3, rr3, rfl, rfl, h3, h⟩ := h
 replace h := apW.1 h
 obtain ⟨rfl, rfl⟩ := h
 replace h0 := aqp.1 h0
 obtain ⟨n0, rfl, rfl, w0⟩ := h0
 replace h1 := ap1.1 h1
 obtain ⟨s1, rfl, rfl, w1⟩ := h1
 replace h2 := ap1.1 h2
 obtain ⟨s2, rfl, rfl, w2⟩ := h2
 replace h3 := aqp.1 h3
 obtain ⟨n3, rfl, rfl, w3⟩ := h3
 simp only [aqJ, ap4, aqb, aqo, aqn, aqa] at hwt
 have hA : AtF H shNode _ _ _ := atg.2 ⟨_, rfl, ap6.2 ⟨[_], _, _, _, [], [], rfl, rfl, rfl, auv.2 ⟨⟨_, rfl, rfl, w0⟩, rfl⟩, ap6.2 ⟨[_], _, _, _, [], [], rfl, rfl, rfl, asa.2 ⟨⟨_, rfl, rfl, w1⟩, rfl⟩, ap6.2 ⟨[_], _, _, _, [], [], rfl, rfl, rfl, asa.2 ⟨⟨_, rfl, rfl, w2⟩, rfl⟩, ap6.2 ⟨[_], _, _, _, [], [], rfl, rfl, rfl, auv.2 ⟨⟨_, rfl, rfl, w3⟩, rfl⟩, asN.2 ⟨rfl, rfl, rfl⟩⟩⟩⟩⟩⟩
 apply Ret.to
 rw [aRp]
 simp [aAP, Tryz.f96, apU]
 exact ⟨[], by simpa using hA, by simp, by simp⟩
theorem aEq : au3 34 (.slice shNode) :=
 aCk (f := 34) (g := 96) (tS := 23) (tE := 139) (tS2 := 36) (tE2 := 146) (F := Tryz.f34) (ass (c := aA1) (by kernel_rfl) aPy) rfl aJy (by rw [ayi]; rfl) (by rw [ayi]; rfl) (by rw [ayi]; decide) (by decide) aIE aB7 rfl aEW
theorem aFw : au3 138 shPart := by
 intro H cs u h hwt
 replace h := aqj.1 h
 obtain ⟨us, rfl, h⟩ := h
 replace h := akp.1 h
 obtain ⟨c0, d0, u0, rr0, rfl, rfl, h0, h⟩ := h
 replace h := akp.1 h
 obtain ⟨c1, d1, u1, rr1, rfl, rfl, h1, h⟩ := h
 replace h := akp.1 h
 obtain ⟨c2, d2, u2, rr2, rfl, rfl, h2, h⟩ := h
 replace h := apW.1 h
 obtain ⟨rfl, rfl⟩ := h
 replace h0 := aqp.1 h0
 obtain ⟨n0, rfl, rfl, w0⟩ := h0
 replace h1 := ap1.1 h1
 obtain ⟨s1, rfl, rfl, w1⟩ := h1
 replace h2 := aqp.1 h2
 obtain ⟨n2, rfl, rfl, w2⟩ := h2
 simp only [aqJ, ap4, aqb, aqo, aqn, aqa] at hwt
 have hA : AtF H shPart _ _ _ := atg.2 ⟨_, rfl, ap6.2 ⟨[_], _, _, _, [], [], rfl, rfl, rfl, auv.2 ⟨⟨_, rfl, rfl, w0⟩, rfl⟩, ap6.2 ⟨[_], _, _, _, [], [], rfl, rfl, rfl, asa.2 ⟨⟨_, rfl, rfl, w1⟩, rfl⟩, ap6.2 ⟨[_], _, _, _, [], [], rfl, rfl, rfl, auv.2 ⟨⟨_, rfl, rfl, w2⟩, rfl⟩, asN.2 ⟨rfl, rfl, rfl⟩⟩⟩⟩⟩
 apply Ret.to
 rw [aKV]
 simp [aze, Tryz.f138, apU]
 exact ⟨[], by simpa using hA, by simp, by simp⟩
theorem axq : au3 61 (.slice shPart) :=
 aCk (f := 61) (g := 138) (tS := 24) (tE := 175) (tS2 := 37) (tE2 := 186) (F := Tryz.f61) (ass (c := aBU) (by kernel_rfl) aSA) rfl aLQ (by rw [ayf]; rfl) (by rw [ayf]; rfl) (by rw [ayf]; decide) (by decide) aNq aB3 rfl aFw
theorem ay3 : au3 13 ar4 := by
 intro H cs u h hwt
 replace h := aqj.1 h
 obtain ⟨us, rfl, h⟩ := h
 replace h := akp.1 h
 obtain ⟨c0, d0, u0, rr0, rfl, rfl, h0, h⟩ := h
 replace h := akp.1 h
 obtain ⟨c1, d1, u1, rr1, rfl, rfl, h1, h⟩ := h
 replace h := akp.1 h
 obtain ⟨c2, d2, u2, rr2, rfl, rfl, h2, h⟩ := h
 replace h := akp.1 h
 obtain ⟨c3, d3, u3, rr3, rfl, rfl, h3, h⟩ := h
 replace h := akp.1 h
 obtain ⟨c4, d4, u4, rr4, rfl, rfl, h4, h⟩ := h
 replace h := akp.1 h
 obtain ⟨c5, d5, u5, rr5, rfl, rfl, h5, h⟩ := h
 replace h := apW.1 h
 obtain ⟨rfl, rfl⟩ := h
 have k0 := h0
 replace h0 := apM.1 h0
 obtain ⟨v0, l0, rfl, rfl, w0, hv0⟩ := h0
 have o0 := hv0.one
 have k1 := h1
 replace h1 := apM.1 h1
 obtain ⟨v1, l1, rfl, rfl, w1, hv1⟩ := h1
 have o1 := hv1.one
 have k2 := h2
 replace h2 := apM.1 h2
 obtain ⟨v2, l2, rfl, rfl, w2, hv2⟩ := h2
 have o2 := hv2.one
 have k3 := h3
 replace h3 := apM.1 h3
 obtain ⟨v3, l3, rfl, rfl, w3, hv3⟩ := h3
 have o3 := hv3.one
 have k4 := h4
 replace h4 := apM.1 h4
 obtain ⟨v4, l4, rfl, rfl, w4, hv4⟩ := h4
 have o4 := hv4.one
 replace h5 := as5.1 h5
 obtain ⟨b5, rfl, rfl⟩ := h5
 simp only [aqJ, ap4, aqb, aqo, aqn, aqa] at hwt
 obtain ⟨T0, x0, G0, q0, a0, m0, g0⟩ := aCh (H) _ _ (k0) (by omega)
 have y0 := a0
 obtain ⟨z0, _, rfl, zz0, _, _⟩ := aqr.1 y0
 cases zz0
 have oz0 := (apM.1 (AtF.at _ a0))
 obtain ⟨_, _, x1, x2, _, oz0⟩ := oz0
 cases x1
 cases x2
 have oz0 := oz0.one
 simp only [apU, List.headD_cons, List.append_nil, List.cons_append, List.nil_append, List.append_assoc] at q0
 obtain ⟨T1, x1, G1, q1, a1, m1, g1⟩ := aEq (H ++ T0) _ _ (k1.ext) (by omega)
 have y1 := a1
 obtain ⟨z1, _, rfl, zz1, _, _⟩ := aqr.1 y1
 cases zz1
 have oz1 := (apM.1 (AtF.at _ a1))
 obtain ⟨_, _, x1, x2, _, oz1⟩ := oz1
 cases x1
 cases x2
 have oz1 := oz1.one
 simp only [apU, List.headD_cons, List.append_nil, List.cons_append, List.nil_append, List.append_assoc] at q1
 obtain ⟨T2, x2, G2, q2, a2, m2, g2⟩ := axq (H ++ T0 ++ T1) _ _ (k2.ext.ext) (by omega)
 have y2 := a2
 obtain ⟨z2, _, rfl, zz2, _, _⟩ := aqr.1 y2
 cases zz2
 have oz2 := (apM.1 (AtF.at _ a2))
 obtain ⟨_, _, x1, x2, _, oz2⟩ := oz2
 cases x1
 cases x2
 have oz2 := oz2.one
 simp only [apU, List.headD_cons, List.append_nil, List.cons_append, List.nil_append, List.append_assoc] at q2
 obtain ⟨T3, x3, G3, q3, a3, m3, g3⟩ := axq (H ++ T0 ++ T1 ++ T2) _ _ (k3.ext.ext.ext) (by omega)
 have y3 := a3
 obtain ⟨z3, _, rfl, zz3, _, _⟩ := aqr.1 y3
 cases zz3
 have oz3 := (apM.1 (AtF.at _ a3))
 obtain ⟨_, _, x1, x2, _, oz3⟩ := oz3
 cases x1
 cases x2
 have oz3 := oz3.one
 simp only [apU, List.headD_cons, List.append_nil, List.cons_append, List.nil_append, List.append_assoc] at q3
 obtain ⟨T4, x4, G4, q4, a4, m4, g4⟩ := axq (H ++ T0 ++ T1 ++ T2 ++ T3) _ _ (k4.ext.ext.ext.ext) (by omega)
 have y4 := a4
 obtain ⟨z4, _, rfl, zz4, _, _⟩ := aqr.1 y4
 cases zz4
 have oz4 := (apM.1 (AtF.at _ a4))
 obtain ⟨_, _, x1, x2, _, oz4⟩ := oz4
 cases x1
 cases x2
 have oz4 := oz4.one
 simp only [apU, List.headD_cons, List.append_nil, List.cons_append, List.nil_append, List.append_assoc] at q4
 have hA : AtF (H ++ T0 ++ T1 ++ T2 ++ T3 ++ T4) ar4 _ _ _ := atg.2 ⟨_, rfl, ap6.2 ⟨[_], _, _, _, G0, _, rfl, rfl, rfl, (a0.app.app.app.app), ap6.2 ⟨[_], _, _, _, G1, _, rfl, rfl, rfl, (a1.app.app.app), ap6.2 ⟨[_], _, _, _, G2, _, rfl, rfl, rfl, (a2.app.app), ap6.2 ⟨[_], _, _, _, G3, _, rfl, rfl, rfl, (a3.app), ap6.2 ⟨[_], _, _, _, G4, _, rfl, rfl, rfl, (a4), ap6.2 ⟨[_], _, _, _, [], _, rfl, rfl, rfl, awQ.2 ⟨⟨b5, rfl, rfl⟩, rfl⟩, asN.2 ⟨rfl, rfl, rfl⟩⟩⟩⟩⟩⟩⟩⟩
 simp only [List.append_assoc, List.nil_append, List.append_nil] at hA
 simp only [List.length_append] at g0 g1 g2 g3 g4
 have hge : ∀ q ∈ G0 ++ (G1 ++ (G2 ++ (G3 ++ (G4)))), H.length ≤ q := by
  intro q hq
  try simp only [List.mem_append] at hq
  rcases hq with hq | hq | hq | hq | hq
  ·have := g0 q hq; omega
  ·have := g1 q hq; omega
  ·have := g2 q hq; omega
  ·have := g3 q hq; omega
  ·have := g4 q hq; omega
 have hnd : (G0 ++ (G1 ++ (G2 ++ (G3 ++ (G4))))).Nodup := by
  have b0 := AtF.mem _ a0
  have b1 := AtF.mem _ a1
  have b2 := AtF.mem _ a2
  have b3 := AtF.mem _ a3
  have b4 := AtF.mem _ a4
  simp only [List.length_append] at b0 b1 b2 b3 b4
  refine List.nodup_append.2 ⟨m0, ?_, fun x hx y hy e => ?_⟩
  rotate_left
  ·subst e
   have := b0 x hx
   try simp only [List.mem_append] at hy
   rcases hy with hy | hy | hy | hy
   ·have := g1 x hy; omega
   ·have := g2 x hy; omega
   ·have := g3 x hy; omega
   ·have := g4 x hy; omega
  refine List.nodup_append.2 ⟨m1, ?_, fun x hx y hy e => ?_⟩
  rotate_left
  ·subst e
   have := b1 x hx
   try simp only [List.mem_append] at hy
   rcases hy with hy | hy | hy
   ·have := g2 x hy; omega
   ·have := g3 x hy; omega
   ·have := g4 x hy; omega
  refine List.nodup_append.2 ⟨m2, ?_, fun x hx y hy e => ?_⟩
  rotate_left
  ·subst e
   have := b2 x hx
   try simp only [List.mem_append] at hy
   rcases hy with hy | hy
   ·have := g3 x hy; omega
   ·have := g4 x hy; omega
  refine List.nodup_append.2 ⟨m3, ?_, fun x hx y hy e => ?_⟩
  rotate_left
  ·subst e
   have := b3 x hx
   try simp only [List.mem_append] at hy
   ·have := g4 x hy; omega
  exact m4
 obtain ⟨T, hT, hA⟩ := aA7 hA hge
 simp only [List.cons_append, List.nil_append, List.append_nil] at hT
 apply Ret.to
 rw [aRF]
 simp [aBB, Tryz.f13, apU, hT, q0, q1, q2, q3, q4, o0, o1, o2, o3, o4, oz0, oz1, oz2, oz3, oz4]
 exact ⟨_, hA, hnd, hge⟩



end Go.Proofs.Try1
end
section
namespace Go.Lite
open Go
def Le (G G' : List Ob) : Prop := ∃ S, G' = G ++ S
def Up (G G' : List Ob) : Prop := ∀ (q : Nat) o, G[q]? = some o → G'[q]? = some o
section
variable {A B D G G' : List Ob} {sh : Sh} {cs : List V} {u : U} {F : List Nat} {b e : Nat}
theorem Le.refl : Le A A := ⟨[], by simp⟩
theorem Le.app {T : List Ob} : Le A (A ++ T) := ⟨T, rfl⟩
theorem Le.trans (h : Le A B) (k : Le B D) : Le A D := by
 obtain ⟨S, rfl⟩ := h
 obtain ⟨T, rfl⟩ := k
 exact ⟨S ++ T, by rw [List.append_assoc]⟩
theorem Le.len (h : Le A B) : A.length ≤ B.length := by obtain ⟨S, rfl⟩ := h; simp
theorem Le.up (h : Le A B) : Up A B := by obtain ⟨S, rfl⟩ := h; exact aqf
theorem Up.refl : Up A A := fun _ _ h => h
theorem Up.trans (h : Up A B) (k : Up B D) : Up A D := fun q o hq => k q o (h q o hq)
theorem At.Up (h : At A sh cs u) (k : Up A B) : At B sh cs u := At.up k sh h
theorem At.Le (h : At A sh cs u) (k : Le A B) : At B sh cs u := At.up k.up sh h
theorem New.Le (h : New b e A sh cs u) (k : Le A B) : New b e B sh cs u := by obtain ⟨S, rfl⟩ := k; exact h.ext
theorem Up.frame (h : ∀ q, q < A.length → B[q]? = A[q]?) : Up A B := fun q o hq => by
 rw [h q (List.getElem?_eq_some_iff.1 hq).1]; exact hq
theorem as9 {v : V} (h : ap5 v = true) : cellsOf v = some [v] := by cases v <;> first | rfl | simp [ap5] at h
theorem asl (h : At A sh cs u) : ∀ x ∈ cs, ap5 x = true ∧ cellsOf x = some [x] := fun x hx => by
 have := List.all_eq_true.1 (At.ones _ h) x hx
 exact ⟨this, as9 this⟩
theorem aCz {α : Type} {l : List α} (h : l.length = 2) : ∃ a b, l = [a, b] := by
 match l, h with
 | [a, b], _ => exact ⟨a, b, rfl⟩
theorem aB4 {α : Type} {l : List α} (h : l.length = 6) : ∃ a b c d e f, l = [a, b, c, d, e, f] := by
 match l, h with
 | [a, b, c, d, e, f], _ => exact ⟨a, b, c, d, e, f, rfl⟩
end
theorem Sl.each {H : List Ob} {n : Nat} {R : List V → U → Prop} {v : V} {l : List U} (h : Sl H n R v l) : ∀ u ∈ l, ∃ cs, R cs u := by
 intro u hu
 rcases h with ⟨_, rfl⟩ | ⟨id, off, own, cells, _, _, _, h4⟩
 ·cases hu
 ·obtain ⟨i, hi, rfl⟩ := List.getElem_of_mem hu
  exact ⟨_, h4 i _ (List.getElem?_eq_getElem hi)⟩
end Go.Lite
end
section
namespace Go.Proofs.Try1
open Go Go.Lite
section
variable {f k b e : Nat} {sh : Sh} {H : List Ob} {cs ds : List V} {u : U}
theorem toN (hf : au3 f sh) (h : At H sh cs u) (hw : wt u ≤ 1048576) : ∃ G cs', callW C f [apU sh cs] H = some (apU sh cs', G) ∧ Le H G ∧ New H.length G.length G sh cs' u := by
 obtain ⟨S, cs', F, c1, a1, n1, g1⟩ := hf H cs u h hw
 exact ⟨_, cs', c1, ⟨S, rfl⟩, F, a1, n1, fun q hq => ⟨g1 q hq, AtF.mem _ a1 q hq⟩⟩
theorem eqN (hf : avq f sh) (h : At H sh cs u) (h' : At H sh ds u) : callW C f [apU sh cs, apU sh ds] H = some (.bool true, H) := by
 obtain ⟨t, ht, c⟩ := hf H cs ds u u h h'
 obtain rfl := ht.2 rfl
 exact c
end
end Go.Proofs.Try1
end
section
namespace Go.Lite
open Go
def aCt (Q : Ex → St → Prop) : Option St → Prop
 | some σ => Q .norm σ
 | none => False
theorem aq6 {Q : Ex → St → Prop} {σ : St} : aCt Q (some σ) ↔ Q .norm σ := Iff.rfl
theorem aq9 {Q : Ex → St → Prop} : aCt Q none ↔ False := Iff.rfl
theorem arb {C : Ctx} {f id : Nat} {ops : Array Oper} {draw : Bool} {σ : St} {Q : Ex → St → Prop} : WP C f (.region id ops draw) σ Q ↔ aCt Q (aqs C (callW C) f id ops draw σ) := by
 rw [aqY]
 cases aqs C (callW C) f id ops draw σ with
 | none => simp [aCt]
 | some σ1 => exact ⟨fun ⟨_, h, hq⟩ => by cases h; exact hq, fun h => ⟨σ1, rfl, h⟩⟩
def awT (C : Ctx) (f : Nat) (a b : Code) (σ : St) (Q : Ex → St → Prop) (o : Option V) : Prop := ∃ t, o = some (.bool t) ∧ if t = true then WP C f a σ Q else WP C f b σ Q
theorem arN {C : Ctx} {f : Nat} {c : Operand} {a b : Code} {σ : St} {Q : Ex → St → Prop} : WP C f (.cond c a b) σ Q ↔ awT C f a b σ Q (ev σ c) := arP
theorem aq7 {C : Ctx} {f : Nat} {a b : Code} {σ : St} {Q : Ex → St → Prop} : awT C f a b σ Q (some (.bool true)) ↔ WP C f a σ Q := by simp [awT]
theorem aqQ {C : Ctx} {f : Nat} {a b : Code} {σ : St} {Q : Ex → St → Prop} : awT C f a b σ Q (some (.bool false)) ↔ WP C f b σ Q := by simp [awT]
theorem ara {C : Ctx} {f : Nat} {a b : Code} {σ : St} {Q : Ex → St → Prop} {t : Bool} : awT C f a b σ Q (some (.bool t)) ↔ if t = true then WP C f a σ Q else WP C f b σ Q := by simp [awT]
section
variable {σ : St} {C : Ctx}
end
end Go.Lite
end
section
namespace Go.Proofs.Try1
open Go Go.Lite
attribute [-simp] aqY arP
attribute [local simp] arb arN aq6 aq9 aq7 aqQ
attribute [local simp low] ara
theorem au8 {H : List Ob} {c0 : List V} {u0 : U} {c1 : List V} {u1 : U}  {rV : V} (h0 : At H ar4 c0 u0) (h1 : At H shEntry c1 u1)
  (hS : ∀ (G : List Ob) (x0 x1 : List V), At G ar4 x0 u0 → At G shEntry x1 u1 → ∃ G', callW C 20 [apU ar4 x0, apU shEntry x1] G = some (rV, G') ∧ Le G G')
  (hI : ∀ (G : List Ob) (x0 x1 : List V), At G ar4 x0 u0 → At G shEntry x1 u1 → ∃ G', callW C 21 [apU ar4 x0, apU shEntry x1] G = some (rV, G') ∧ Le G G')
  (hR : ∃ a b c d n, rV = .agg [.str a, .str b, .str c, .str d, .int .i64 n]) : Ret C 4 [apU ar4 c0, apU shEntry c1] H fun r _ => r = .bool true := by
 obtain ⟨wa, wb, wc, wd, wn, rfl⟩ := hR
 have kW : ∀ G : List Ob, callW C 22 [.agg [.str wa, .str wb, .str wc, .str wd, .int .i64 wn], .agg [.str wa, .str wb, .str wc, .str wd, .int .i64 wn]] G = some (.bool true, G) := fun G => by
  apply Ret.eq
  rw [aSj]
  simp [aBP, Tryz.f22]
 rw [op4]
 obtain ⟨c0_0, c0_1, c0_2, c0_3, c0_4, c0_5, rfl⟩ := aB4 (At.len _ h0 : _ = 6)
 have on0 := asl h0
 simp only [List.mem_cons, List.not_mem_nil, or_false, forall_eq_or_imp, forall_eq] at on0
 obtain ⟨c1_0, c1_1, rfl⟩ := aCz (At.len _ h1 : _ = 2)
 have on1 := asl h1
 simp only [List.mem_cons, List.not_mem_nil, or_false, forall_eq_or_imp, forall_eq] at on1
 simp only [apU, List.headD_cons]
 have b0 := aFl H [c0_0, c0_1, c0_2, c0_3, c0_4, c0_5] _ (1048576) h0 (by omega)
 simp only [apU, List.headD_cons] at b0
 by_cases g0 : wt u0 ≤ 1048576
 rotate_left
 ·rw [if_neg g0] at b0
  simp at b0
  simp [azP, Tryz.f4, on0, on1, kW, b0]
 rw [if_pos g0] at b0
 have hw0 : wt u0 ≤ 1048576 := by omega
 have p0 : ¬ (((1048576 - wt u0 : Nat) : Int) < 0) := by omega
 obtain ⟨LL0, hLL0⟩ : ∃ n, n = 1048576 - wt u0 := ⟨_, rfl⟩
 rw [← hLL0] at b0 p0
 have q0 : LL0 + wt u0 = 1048576 := by omega
 have b1 := aDB H [c1_0, c1_1] _ (LL0) h1 (by omega)
 simp only [apU, List.headD_cons] at b1
 by_cases g1 : wt u1 ≤ LL0
 rotate_left
 ·rw [if_neg g1] at b1
  simp at b0 b1
  simp [azP, Tryz.f4, on0, on1, kW, b0, p0, b1]
 rw [if_pos g1] at b1
 have hw1 : wt u1 ≤ 1048576 := by omega
 have p1 : ¬ (((LL0 - wt u1 : Nat) : Int) < 0) := by omega
 obtain ⟨LL1, hLL1⟩ : ∃ n, n = LL0 - wt u1 := ⟨_, rfl⟩
 rw [← hLL1] at b1 p1
 have q1 : LL1 + wt u1 = LL0 := by omega
 have L0 : Le H H := Le.refl
 obtain ⟨G1, y0, k1, s1, n1⟩ := toN ay3 (h0.Le L0) hw0
 have l1 := s1.len
 have L1 := L0.trans s1
 obtain ⟨y0_0, y0_1, y0_2, y0_3, y0_4, y0_5, rfl⟩ := aB4 (At.len _ n1.at : _ = 6)
 have o1 := asl n1.at
 simp only [List.mem_cons, List.not_mem_nil, or_false, forall_eq_or_imp, forall_eq] at o1
 simp only [apU, List.headD_cons] at k1
 obtain ⟨G2, y1, k2, s2, n2⟩ := toN axp (h1.Le L1) hw1
 have l2 := s2.len
 have L2 := L1.trans s2
 obtain ⟨y1_0, y1_1, rfl⟩ := aCz (At.len _ n2.at : _ = 2)
 have o2 := asl n2.at
 simp only [List.mem_cons, List.not_mem_nil, or_false, forall_eq_or_imp, forall_eq] at o2
 simp only [apU, List.headD_cons] at k2
 obtain ⟨G3, k3, s3⟩ := hS _ [y0_0, y0_1, y0_2, y0_3, y0_4, y0_5] [y1_0, y1_1] (n1.at.Le s2) (n2.at.Le Le.refl)
 have l3 := s3.len
 have L3 := L2.trans s3
 simp only [apU, List.headD_cons] at k3
 obtain ⟨G4, z0, k4, s4, n4⟩ := toN ay3 (h0.Le L3) hw0
 have l4 := s4.len
 have L4 := L3.trans s4
 obtain ⟨z0_0, z0_1, z0_2, z0_3, z0_4, z0_5, rfl⟩ := aB4 (At.len _ n4.at : _ = 6)
 have o4 := asl n4.at
 simp only [List.mem_cons, List.not_mem_nil, or_false, forall_eq_or_imp, forall_eq] at o4
 simp only [apU, List.headD_cons] at k4
 obtain ⟨G5, z1, k5, s5, n5⟩ := toN axp (h1.Le L4) hw1
 have l5 := s5.len
 have L5 := L4.trans s5
 obtain ⟨z1_0, z1_1, rfl⟩ := aCz (At.len _ n5.at : _ = 2)
 have o5 := asl n5.at
 simp only [List.mem_cons, List.not_mem_nil, or_false, forall_eq_or_imp, forall_eq] at o5
 simp only [apU, List.headD_cons] at k5
 obtain ⟨G6, k6, s6⟩ := hI _ [z0_0, z0_1, z0_2, z0_3, z0_4, z0_5] [z1_0, z1_1] (n4.at.Le s5) (n5.at.Le Le.refl)
 have l6 := s6.len
 have L6 := L5.trans s6
 simp only [apU, List.headD_cons] at k6
 obtain ⟨G7, v0, k7, s7, n7⟩ := toN ay3 (h0.Le L6) hw0
 have l7 := s7.len
 have L7 := L6.trans s7
 obtain ⟨v0_0, v0_1, v0_2, v0_3, v0_4, v0_5, rfl⟩ := aB4 (At.len _ n7.at : _ = 6)
 have o7 := asl n7.at
 simp only [List.mem_cons, List.not_mem_nil, or_false, forall_eq_or_imp, forall_eq] at o7
 simp only [apU, List.headD_cons] at k7
 have k8 := eqN aEK (n4.at.Le (Le.trans (Le.trans s5 s6) s7)) n7.at
 simp only [apU, List.headD_cons] at k8
 obtain ⟨G8, v1, k9, s8, n8⟩ := toN axp (h1.Le L7) hw1
 have l8 := s8.len
 have L8 := L7.trans s8
 obtain ⟨v1_0, v1_1, rfl⟩ := aCz (At.len _ n8.at : _ = 2)
 have o8 := asl n8.at
 simp only [List.mem_cons, List.not_mem_nil, or_false, forall_eq_or_imp, forall_eq] at o8
 simp only [apU, List.headD_cons] at k9
 have k10 := eqN aEI (n5.at.Le (Le.trans (Le.trans s6 s7) s8)) n8.at
 simp only [apU, List.headD_cons] at k10
 simp at b0
 simp (maxSteps := 2000000) [azP, Tryz.f4, on0, on1, kW, b0, p0, b1, p1, k1, o1, k2, o2, k3, k4, o4, k5, o5, k6, k7, o7, k8, k9, o8, k10, aiB, akl, List.lookup]
end Go.Proofs.Try1
end
section
namespace Go.Proofs.Try1
open Go Go.Lite
theorem aB5 {t : Str} {H : List Ob} (ht : t.length ≤ 1000) : callW C 324 [.str t] H = some (.bool (dec (Plain t)), H) := by
 apply Ret.dec
 rw [aKq]
 simp [ay9, Tryz.f324]
 refine apT (fun k σ => ∃ (i : Nat) (r : Nat → R), i + k = t.length ∧ σ = ⟨r, 0, H⟩ ∧ r 0 = .val (.str t) ∧ r 3 = .val (.int .i64 i) ∧ ∀ j, j < i → ∀ c, t[j]? = some c → axx c) ?_ t.length _ ⟨0, _, by simp, rfl, by simp, by simp, by simp⟩
 rintro k σ ⟨i, r, hik, rfl, r0, r3, hall⟩
 cases k with
 | zero =>
  have hi : i = t.length := by omega
  subst hi
  simp [r0, r3]
  intro j c hc
  exact hall j (List.getElem?_eq_some_iff.1 hc).1 c hc
 | succ k =>
  have hi : i < t.length := by omega
  obtain ⟨c, hc⟩ : ∃ c, t[i]? = some c := ⟨t[i], by simp [hi]⟩
  have hc' : t[i] = c := (List.getElem?_eq_some_iff.1 hc).2
  have hw : IntKind.i64.wrap ((i : Int) + 1) = ((i : Int) + 1) := wrap_i64 (by omega) (by omega)
  by_cases h1 : (c.toNat : Int) < 32
  ·simp [r0, r3, hi, hc', h1]
   intro hp
   have := (hp i c hc).1
   omega
  ·by_cases h2 : (c.toNat : Int) > 126
   ·simp [r0, r3, hi, hc', h1, h2]
    intro hp
    have := (hp i c hc).2
    omega
   ·simp [r0, r3, hi, hc', h1, h2, hw]
    exact ⟨k, by omega, i + 1, by omega, by omega, awO (P := fun _ c => axx c) hall hc ⟨by omega, by omega⟩⟩
theorem aB0 {t : Str} {H : List Ob} (ht : t.length ≤ 1000) : callW C 289 [.str t] H = some (.bool (dec (Plain t)), H) := by
 apply Ret.dec
 rw [aKs]
 simp [ayK, Tryz.f289]
 refine apT (fun k σ => ∃ (i : Nat) (r : Nat → R), i + k = t.length ∧ σ = ⟨r, 0, H⟩ ∧ r 0 = .val (.str t) ∧ r 5 = .val (.int .i64 t.length) ∧ r 6 = .val (.int .i64 i) ∧ ∀ j, j < i → ∀ c, t[j]? = some c → axx c) ?_ t.length _ ⟨0, _, by simp, rfl, by simp, by simp, by simp, by simp⟩
 rintro k σ ⟨i, r, hik, rfl, r0, r5, r6, hall⟩
 cases k with
 | zero =>
  have hi : i = t.length := by omega
  subst hi
  simp [r0, r5, r6]
  intro j c hc
  exact hall j (List.getElem?_eq_some_iff.1 hc).1 c hc
 | succ k =>
  have hi : i < t.length := by omega
  obtain ⟨c, hc⟩ : ∃ c, t[i]? = some c := ⟨t[i], by simp [hi]⟩
  have hc' : t[i] = c := (List.getElem?_eq_some_iff.1 hc).2
  have hw : IntKind.i64.wrap ((i : Int) + 1) = ((i : Int) + 1) := wrap_i64 (by omega) (by omega)
  by_cases h1 : (c.toNat : Int) < 32
  ·simp [r0, r5, r6, hi, hc', h1]
   intro hp
   have := (hp i c hc).1
   omega
  ·by_cases h2 : (c.toNat : Int) > 126
   ·simp [r0, r5, r6, hi, hc', h1, h2]
    intro hp
    have := (hp i c hc).2
    omega
   ·simp [r0, r5, r6, hi, hc', h1, h2, hw]
    exact ⟨k, by omega, i + 1, by omega, by omega, awO (P := fun _ c => axx c) hall hc ⟨by omega, by omega⟩⟩
theorem axd {t : Str} {H : List Ob} : callW C 77 [.str t] H = some (.bool (dec (apV t)), H) := by
 apply Ret.dec
 rw [aQG]
 by_cases g1 : (t.length : Int) < 1
 ·have g2 : ¬ apV t := fun h => by have := h.1; omega
  simp [awZ, Tryz.f77, g1, g2]
 by_cases g2 : (t.length : Int) > 20
 ·have g3 : ¬ apV t := fun h => by have := h.2.1; omega
  simp [awZ, Tryz.f77, g1, g2, g3]
 simp [awZ, Tryz.f77, g1, g2]
 refine apT (fun k σ => ∃ (i : Nat) (r : Nat → R), i + k = t.length ∧ σ = ⟨r, 0, H⟩ ∧ r 0 = .val (.str t) ∧ r 3 = .val (.int .i64 i) ∧ ∀ j, j < i → ∀ c, t[j]? = some c → axG c ∨ (0 < j ∧ (axM c ∨ c.toNat = 95))) ?_ t.length _ ⟨0, _, by simp, rfl, by simp, by simp, by simp⟩
 rintro k σ ⟨i, r, hik, rfl, r0, r3, hall⟩
 cases k with
 | zero =>
  have hi : i = t.length := by omega
  subst hi
  have hok : apV t := ⟨by omega, by omega, fun j c hc => hall j (List.getElem?_eq_some_iff.1 hc).1 c hc⟩
  simp [r0, r3, hok]
 | succ k =>
  have hi : i < t.length := by omega
  obtain ⟨c, hc⟩ : ∃ c, t[i]? = some c := ⟨t[i], by simp [hi]⟩
  have hc' : t[i] = c := (List.getElem?_eq_some_iff.1 hc).2
  have hw : IntKind.i64.wrap ((i : Int) + 1) = ((i : Int) + 1) := wrap_i64 (by omega) (by omega)
  have hgo : axG c ∨ (0 < i ∧ (axM c ∨ c.toNat = 95)) → ∃ k', k' < k + 1 ∧ ∃ i', i' + k' = t.length ∧ (i : Int) + 1 = i' ∧ ∀ j, j < i' → ∀ c, t[j]? = some c → axG c ∨ (0 < j ∧ (axM c ∨ c.toNat = 95)) := fun h =>
   ⟨k, by omega, i + 1, by omega, by omega, awO (P := fun j c => axG c ∨ (0 < j ∧ (axM c ∨ c.toNat = 95))) hall hc h⟩
  by_cases h1 : axG c
  ·have h1a : (c.toNat : Int) ≥ 97 := by have := h1.1; omega
   have h1b : (c.toNat : Int) ≤ 122 := by have := h1.2; omega
   simp [r0, r3, hi, hc', h1a, h1b, hw]
   exact hgo (.inl h1)
  have hl : (¬ (c.toNat : Int) ≥ 97) ∨ ((c.toNat : Int) ≥ 97 ∧ ¬ (c.toNat : Int) ≤ 122) := by unfold axG at h1; omega
  have hno : ¬ (0 < i ∧ (axM c ∨ c.toNat = 95)) → ¬ apV t := fun h hk => (hk.2.2 i c hc).elim h1 h
  by_cases h2 : i = 0
  ·have hno := hno (by omega)
   subst h2
   rcases hl with hl | ⟨hl, hl2⟩
   ·simp [r0, r3, hi, hc', hl, hno]
   ·simp [r0, r3, hi, hc', hl, hl2, hno]
  have h2' : ¬ (i : Int) = 0 := by omega
  by_cases h3 : axM c
  ·have h3a : (c.toNat : Int) ≥ 48 := by have := h3.1; omega
   have h3b : (c.toNat : Int) ≤ 57 := by have := h3.2; omega
   have h3c : ¬ (c.toNat : Int) ≥ 97 := by omega
   simp [r0, r3, hi, hc', h2, h3a, h3b, h3c, hw]
   exact hgo (.inr ⟨by omega, .inl h3⟩)
  have hd : (¬ (c.toNat : Int) ≥ 48) ∨ ((c.toNat : Int) ≥ 48 ∧ ¬ (c.toNat : Int) ≤ 57) := by unfold axM at h3; omega
  by_cases h4 : c.toNat = 95
  ·have := hgo (.inr ⟨by omega, .inr h4⟩)
   simp [r0, r3, hi, hc', h2, h4, hw]
   exact this
  ·have h4' : ¬ (c.toNat : Int) = 95 := by omega
   have hno := hno (fun h => h.2.elim h3 h4)
   rcases hl with hl | ⟨hl, hl2⟩ <;> rcases hd with hd | ⟨hd, hd2⟩
   ·simp [r0, r3, hi, hc', h2, h4', hl, hd, hno]
   ·simp [r0, r3, hi, hc', h2, h4', hl, hd, hd2, hno]
   ·simp [r0, r3, hi, hc', h2, h4', hl, hl2, hd, hno]
   ·simp [r0, r3, hi, hc', h2, h4', hl, hl2, hd, hd2, hno]
theorem awF {c : UInt8} (h1 : 65 ≤ c.toNat) (h2 : c.toNat ≤ 90) : IntKind.u8.wrap ((c.toNat : Int) + 32) = ((asX c).toNat : Int) := by
 have : asX c = c + 32 := by unfold asX; rw [if_pos ⟨h1, h2⟩]
 rw [this]
 unfold IntKind.wrap
 simp [IntKind.bits, IntKind.signed, UInt8.toNat_add]
theorem ax4 {c : UInt8} (h1 : 65 ≤ c.toNat) (h2 : c.toNat ≤ 90) : (asX c).toNat = c.toNat + 32 := by
 have : asX c = c + 32 := by unfold asX; rw [if_pos ⟨h1, h2⟩]
 rw [this, UInt8.toNat_add]
 have : c.toNat + 32 < 256 := by omega
 simp
 omega
theorem awG {c : UInt8} (h : ¬ (65 ≤ c.toNat ∧ c.toNat ≤ 90)) : asX c = c := by unfold asX; rw [if_neg h]
theorem aw1 {c : UInt8} : c = 32 ↔ c.toNat = 32 := ⟨fun h => by rw [h]; rfl, fun h => UInt8.toNat_inj.1 h⟩
theorem axf {t : Str} {i : Nat} {c : UInt8} (h : t[i]? = some c) (f : Str → UInt8 → Str) (b : Str) : (t.take (i + 1)).foldl f b = f ((t.take i).foldl f b) c := by
 rw [ars h, List.foldl_append]
 rfl
theorem ar5 {b : Str} {d : UInt8} (h : b.getLast? = some d) : awd b = true ↔ d = 32 := by
 unfold awd
 rw [h]
 simp
theorem avJ {b : Str} (h : b ≠ []) : ∃ d, b.getLast? = some d := ⟨b.getLast h, List.getLast?_eq_some_getLast h⟩
theorem aBz {t : Str} {H : List Ob} : callW C 250 [.str t] H = some (.str (norm t), H) := by
 apply Ret.eq
 rw [aLb]
 by_cases g1 : (t.length : Int) > 100
 ·have : norm t = [] := by unfold norm; rw [if_neg (by omega)]
  simp [avv, Tryz.f250, g1, this]
 have hp := aB5 (t := t) (H := H) (by omega)
 by_cases g2 : Plain t
 rotate_left
 ·rw [apJ g2] at hp
  have : norm t = [] := by unfold norm; rw [apJ g2]; simp
  simp [avv, Tryz.f250, g1, hp, this]
 rw [apK g2] at hp
 have hn : norm t = axh (t.foldl aqx []) := by unfold norm; rw [if_pos ⟨by omega, apK g2⟩]
 have hbz : ∀ i, ((t.take i).foldl aqx []).length ≤ 100 := fun i => by
  have := avY (t.take i) []
  simp at this
  omega
 simp [avv, Tryz.f250, g1, hp, apR, apN, apG, St.new]
 refine apT (fun k σ => ∃ (i : Nat) (r : Nat → R) (G : List Ob) (v : V), i + k = t.length ∧ σ = ⟨r, 0, G⟩ ∧ r 0 = .val (.str t) ∧ r 3 = .val v ∧ r 4 = .val (.int .i64 i) ∧ Bs H G v ((t.take i).foldl aqx [])) ?_ t.length _ ⟨0, _, _, _, by simp, rfl, by simp, by simp, by simp, Bs.init⟩
 rintro k σ ⟨i, r, G, v, hik, rfl, r0, r3, r4, hB⟩
 have hbl := hbz i
 generalize hb : (t.take i).foldl aqx [] = b at hB hbl
 have hw1 : IntKind.i64.wrap ((b.length : Int) - 1) = (b.length : Int) - 1 := wrap_i64 (by omega) (by omega)
 cases k with
 | zero =>
  have hi : i = t.length := by omega
  subst hi
  rw [List.take_length] at hb
  rw [hb] at hn
  obtain ⟨TT, rfl⟩ := hB.ext
  by_cases hb0 : b = []
  ·subst hb0
   obtain ⟨id, rfl, hst, hsl⟩ := hB.cut (n := 0) (Nat.le_refl _)
   simp [r0, r3, r4, hsl, isByte, arD, hn, axh, awd]
  ·obtain ⟨d, hd⟩ := avJ hb0
   have hb1 : 0 < b.length := List.length_pos_iff.2 hb0
   have hb2 : 0 < (b.length : Int) := by omega
   have hb3 : (1 : Int) ≤ (b.length : Int) := by omega
   have hb5 : (b.length : Int) - 1 < (b.length : Int) := by omega
   have hb4 : ((b.length : Int) - 1).toNat = b.length - 1 := by omega
   obtain ⟨id, rfl, hld⟩ := hB.last hd
   by_cases hd32 : d = 32
   ·obtain ⟨_, hv, hst, hsl⟩ := hB.cut (n := b.length - 1) (by omega)
    cases hv
    have he : axh b = b.take (b.length - 1) := by unfold axh; rw [if_pos ((ar5 hd).2 hd32), List.dropLast_eq_take]
    have hd' : (d.toNat : Int) = 32 := by rw [hd32]; rfl
    simp [r0, r3, r4, hb0, hb1, hb2, hb3, hb4, hb5, hw1, hld, hd', hst, hsl, isByte, arD, hn, he]
   ·obtain ⟨_, hv, hst, hsl⟩ := hB.cut (n := b.length) (Nat.le_refl _)
    cases hv
    have he : axh b = b := by unfold axh; rw [if_neg (fun h => hd32 ((ar5 hd).1 h))]
    have hd' : ¬ (d.toNat : Int) = 32 := by have := mt aw1.2 hd32; omega
    rw [List.take_length] at hsl
    simp [r0, r3, r4, hb0, hb1, hb2, hb3, hb4, hb5, hw1, hld, hd', hst, hsl, isByte, arD, hn, he]
 | succ k =>
  have hi : i < t.length := by omega
  obtain ⟨c, hc⟩ : ∃ c, t[i]? = some c := ⟨t[i], by simp [hi]⟩
  have hc' : t[i] = c := (List.getElem?_eq_some_iff.1 hc).2
  have hw : IntKind.i64.wrap ((i : Int) + 1) = ((i : Int) + 1) := wrap_i64 (by omega) (by omega)
  have hfs := axf hc aqx []
  rw [hb] at hfs
  have hgo : ∀ G' v', Bs H G' v' (aqx b c) → ∃ k', k' < k + 1 ∧ ∃ i', i' + k' = t.length ∧ (i : Int) + 1 = i' ∧ Bs H G' v' ((t.take i').foldl aqx []) := fun G' v' h =>
   ⟨k, by omega, i + 1, by omega, by omega, by rw [hfs]; exact h⟩
  by_cases hup : 65 ≤ c.toNat ∧ c.toNat ≤ 90
  ·have hu1 : (c.toNat : Int) ≥ 65 := by omega
   have hu2 : (c.toNat : Int) ≤ 90 := by omega
   have hlw := awF hup.1 hup.2
   have hl32 : ¬ ((asX c).toNat : Int) = 32 := by rw [ax4 hup.1 hup.2]; omega
   have hns : aqx b c = b ++ [asX c] := by unfold aqx; rw [if_neg (fun h => hl32 (by rw [aw1.1 h.1]; rfl))]
   obtain ⟨v', G', ha, hB'⟩ := hB.push (by omega) (c := asX c) (d := .int .u8) (z := [.int .u8 0]) rfl
   rw [← hns] at hB'
   simp [r0, r3, r4, hi, hc', hu1, hu2, hlw, hl32, apR, apN, apG, St.new, arp, ha, hw]
   obtain ⟨k', q1, i', q2, q3, q4⟩ := hgo G' v' hB'
   exact ⟨k', q1, i', q2, _, _, ⟨rfl, rfl⟩, by simp [r0], _, by simp [r3], by simp [q3], q4⟩
  have hlc := awG hup
  have hu : (¬ (c.toNat : Int) ≥ 65) ∨ ((c.toNat : Int) ≥ 65 ∧ ¬ (c.toNat : Int) ≤ 90) := by omega
  by_cases h32 : c = 32
  ·have h32' : (c.toNat : Int) = 32 := by rw [h32]; rfl
   have hu1 : ¬ (c.toNat : Int) ≥ 65 := by omega
   by_cases hb0 : b = []
   ·have hns : aqx b c = b := by unfold aqx; rw [if_pos ⟨by rw [hlc, h32], .inl hb0⟩]
    rw [hns] at hgo
    have hbl0 : b.length = 0 := by rw [hb0]; rfl
    have := hgo G v hB
    simp [r0, r3, r4, hi, hc', h32', hB.len, hbl0, hw]
    obtain ⟨k', q1, i', q2, q3, q4⟩ := this
    exact ⟨k', q1, i', q2, _, _, ⟨rfl, rfl⟩, by simp [r0], _, by simp [r3], by simp [q3], q4⟩
   ·obtain ⟨d, hd⟩ := avJ hb0
    have hb1 : 0 < b.length := List.length_pos_iff.2 hb0
    have hb3 : (1 : Int) ≤ (b.length : Int) := by omega
    have hb5 : (b.length : Int) - 1 < (b.length : Int) := by omega
    have hb4 : ((b.length : Int) - 1).toNat = b.length - 1 := by omega
    obtain ⟨id, hv, hld⟩ := hB.last hd
    have hB0 := hB
    subst hv
    by_cases hd32 : d = 32
    ·have hns : aqx b c = b := by unfold aqx; rw [if_pos ⟨by rw [hlc, h32], .inr ((ar5 hd).2 hd32)⟩]
     rw [hns] at hgo
     have hd' : (d.toNat : Int) = 32 := by rw [hd32]; rfl
     have := hgo G _ hB
     simp [r0, r3, r4, hi, hc', h32', hb0, hb1, hb3, hb4, hb5, hw1, hld, hd', hw]
     obtain ⟨k', q1, i', q2, q3, q4⟩ := this
     exact ⟨k', q1, i', q2, _, _, ⟨rfl, rfl⟩, by simp [r0], _, by simp [r3], by simp [q3], q4⟩
    ·have hns : aqx b c = b ++ [c] := by unfold aqx; rw [if_neg (fun h => h.2.elim hb0 (fun h => hd32 ((ar5 hd).1 h))), hlc]
     have hd' : ¬ (d.toNat : Int) = 32 := by have := mt aw1.2 hd32; omega
     obtain ⟨v', G', ha, hB'⟩ := hB.push (by omega) (c := c) (d := .int .u8) (z := [.int .u8 0]) rfl
     rw [← hns] at hB'
     rw [h32'] at ha
     simp [r0, r3, r4, hi, hc', h32', hb0, hb1, hb3, hb4, hb5, hw1, hld, hd', apR, apN, apG, St.new, arp, ha, hw]
     obtain ⟨k', q1, i', q2, q3, q4⟩ := hgo G' v' hB'
     exact ⟨k', q1, i', q2, _, _, ⟨rfl, rfl⟩, by simp [r0], _, by simp [r3], by simp [q3], q4⟩
  ·have h32' : ¬ (c.toNat : Int) = 32 := by have := mt aw1.2 h32; omega
   have hns : aqx b c = b ++ [c] := by unfold aqx; rw [if_neg (fun h => h32 (hlc ▸ h.1)), hlc]
   obtain ⟨v', G', ha, hB'⟩ := hB.push (by omega) (c := c) (d := .int .u8) (z := [.int .u8 0]) rfl
   rw [← hns] at hB'
   have := hgo G' v' hB'
   rcases hu with hu | ⟨hu, hu2⟩
   ·simp [r0, r3, r4, hi, hc', hu, h32', apR, apN, apG, St.new, arp, ha, hw]
    obtain ⟨k', q1, i', q2, q3, q4⟩ := this
    exact ⟨k', q1, i', q2, _, _, ⟨rfl, rfl⟩, by simp [r0], _, by simp [r3], by simp [q3], q4⟩
   ·simp [r0, r3, r4, hi, hc', hu, hu2, h32', apR, apN, apG, St.new, arp, ha, hw]
    obtain ⟨k', q1, i', q2, q3, q4⟩ := this
    exact ⟨k', q1, i', q2, _, _, ⟨rfl, rfl⟩, by simp [r0], _, by simp [r3], by simp [q3], q4⟩
def asj (s w : Str) : Prop := w.length ≤ s.length ∧ s.drop (s.length - w.length) = w
theorem hasSuffix {s w : Str} {H : List Ob} (hs : s.length ≤ 1000000) (hw : w.length ≤ 1000000) : callW C 359 [.str s, .str w] H = some (.bool (dec (asj s w)), H) := by
 apply Ret.dec
 rw [aG9]
 by_cases h1 : (s.length : Int) ≥ w.length
 ·have hw1 : IntKind.i64.wrap ((s.length : Int) - w.length) = (s.length : Int) - w.length := wrap_i64 (by omega) (by omega)
  have h2 : (w.length : Int) ≤ (s.length : Int) := h1
  have h3 : ((s.length : Int) - w.length).toNat = s.length - w.length := by omega
  have h4 : (0 : Int) ≤ (s.length : Int) - w.length := by omega
  have h5 : w.length ≤ s.length := by omega
  by_cases h6 : s.drop (s.length - w.length) = w
  ·have hn : asj s w := ⟨h5, h6⟩
   simp [avt, Tryz.f359, h1, h2, h3, h4, h5, hw1, h6, hn]
  ·have hn : ¬ asj s w := fun h => h6 h.2
   simp [avt, Tryz.f359, h1, h2, h3, h4, h5, hw1, h6, hn]
 ·have hn : ¬ asj s w := fun h => h1 (by have := h.1; omega)
  simp [avt, Tryz.f359, h1, hn]
noncomputable def atA (s w : Str) : Str := if dec (asj s w) = true then s.take (s.length - w.length) else s
theorem az2 {s w : Str} {H : List Ob} (hs : s.length ≤ 1000000) (hw : w.length ≤ 1000000) : callW C 338 [.str s, .str w] H = some (.str (atA s w), H) := by
 apply Ret.eq
 rw [aJb]
 have hc := hasSuffix (H := H) hs hw
 by_cases h : asj s w
 ·rw [apK h] at hc
  have h0 := h.1
  have hw1 : IntKind.i64.wrap ((s.length : Int) - w.length) = (s.length : Int) - w.length := wrap_i64 (by omega) (by omega)
  have h2 : (w.length : Int) ≤ (s.length : Int) := by omega
  have h3 : ((s.length : Int) - w.length).toNat = s.length - w.length := by omega
  have ht : atA s w = s.take (s.length - w.length) := by unfold atA; rw [apK h]; rfl
  simp [awI, Tryz.f338, hc, hw1, h2, h3, ht]
 ·rw [apJ h] at hc
  have ht : atA s w = s := by unfold atA; rw [apJ h]; rfl
  simp [awI, Tryz.f338, hc, ht]
theorem aAY {s : Str} : atA s [32] = axh s := by
 have he : asj s [32] ↔ awd s = true := by
  unfold asj awd
  cases hl : s.getLast? with
  | none =>
   have : s = [] := by simpa using hl
   subst this
   simp
  | some d =>
   have hne : s ≠ [] := by rintro rfl; simp at hl
   have h1 : 1 ≤ s.length := List.length_pos_iff.2 hne
   rw [List.getLast?_eq_getElem?] at hl
   have h2 : s.drop (s.length - 1) = [d] := by
    apply List.ext_getElem?
    intro j
    rw [List.getElem?_drop]
    cases j with
    | zero => simpa using hl
    | succ j => simp; omega
   simp [h1, h2]
 unfold atA axh
 by_cases h : awd s = true
 ·rw [apK (he.2 h), if_pos rfl, if_pos h, List.dropLast_eq_take]
  rfl
 ·rw [apJ (mt he.1 h), if_neg (by simp), if_neg h]
theorem aFZ {s : Str} {H : List Ob} (hs : s.length ≤ 1000000) : callW C 290 [.str s, .str [32]] H = some (.str (axh s), H) := by
 apply Ret.eq
 rw [aHr]
 have hc := az2 (H := H) hs (w := [32]) (by simp)
 rw [aAY] at hc
 simp [ayx, Tryz.f290, hc]
theorem aBX {t : Str} {H : List Ob} : callW C 211 [.str t] H = some (.str (norm t), H) := by
 apply Ret.eq
 rw [aLd]
 by_cases g1 : (t.length : Int) > 100
 ·have : norm t = [] := by unfold norm; rw [if_neg (by omega)]
  simp [avr, Tryz.f211, g1, this]
 have hp := aB0 (t := t) (H := H) (by omega)
 by_cases g2 : Plain t
 rotate_left
 ·rw [apJ g2] at hp
  have : norm t = [] := by unfold norm; rw [apJ g2]; simp
  simp [avr, Tryz.f211, g1, hp, this]
 rw [apK g2] at hp
 have hn : norm t = axh (t.foldl aqx []) := by unfold norm; rw [if_pos ⟨by omega, apK g2⟩]
 have hbz : ∀ i, ((t.take i).foldl aqx []).length ≤ 100 := fun i => by
  have := avY (t.take i) []
  simp at this
  omega
 simp [avr, Tryz.f211, g1, hp, apR, apN, apG, St.new]
 refine apT (fun k σ => ∃ (i : Nat) (r : Nat → R) (G : List Ob) (v : V), i + k = t.length ∧ σ = ⟨r, 0, G⟩ ∧ r 0 = .val (.str t) ∧ r 3 = .val v ∧ r 16 = .val (.int .i64 t.length) ∧ r 17 = .val (.int .i64 i) ∧ Bs H G v ((t.take i).foldl aqx [])) ?_ t.length _ ⟨0, _, _, _, by simp, rfl, by simp, by simp, by simp, by simp, Bs.init⟩
 rintro k σ ⟨i, r, G, v, hik, rfl, r0, r3, r16, r17, hB⟩
 have hbl := hbz i
 generalize hb : (t.take i).foldl aqx [] = b at hB hbl
 have hw1 : IntKind.i64.wrap ((b.length : Int) - 1) = (b.length : Int) - 1 := wrap_i64 (by omega) (by omega)
 cases k with
 | zero =>
  have hi : i = t.length := by omega
  subst hi
  rw [List.take_length] at hb
  rw [hb] at hn
  obtain ⟨TT, rfl⟩ := hB.ext
  obtain ⟨id, rfl, hst, hsl⟩ := hB.cut (n := b.length) (Nat.le_refl _)
  rw [List.take_length] at hsl
  have hts := aFZ (s := b) (H := H ++ TT) (by omega)
  simp [r0, r3, r16, r17, hsl, isByte, arD, hn, hts]
 | succ k =>
  have hi : i < t.length := by omega
  obtain ⟨c, hc⟩ : ∃ c, t[i]? = some c := ⟨t[i], by simp [hi]⟩
  have hc' : t[i] = c := (List.getElem?_eq_some_iff.1 hc).2
  have hw : IntKind.i64.wrap ((i : Int) + 1) = ((i : Int) + 1) := wrap_i64 (by omega) (by omega)
  have hfs := axf hc aqx []
  rw [hb] at hfs
  have hgo : ∀ G' v', Bs H G' v' (aqx b c) → ∃ k', k' < k + 1 ∧ ∃ i', i' + k' = t.length ∧ (i : Int) + 1 = i' ∧ Bs H G' v' ((t.take i').foldl aqx []) := fun G' v' h =>
   ⟨k, by omega, i + 1, by omega, by omega, by rw [hfs]; exact h⟩
  by_cases hup : 65 ≤ c.toNat ∧ c.toNat ≤ 90
  ·have hu1 : (c.toNat : Int) ≥ 65 := by omega
   have hu2 : (c.toNat : Int) ≤ 90 := by omega
   have hlw := awF hup.1 hup.2
   have hl32 : ¬ ((asX c).toNat : Int) = 32 := by rw [ax4 hup.1 hup.2]; omega
   have hns : aqx b c = b ++ [asX c] := by unfold aqx; rw [if_neg (fun h => hl32 (by rw [aw1.1 h.1]; rfl))]
   obtain ⟨v', G', ha, hB'⟩ := hB.push (by omega) (c := asX c) (d := .int .u8) (z := [.int .u8 0]) rfl
   rw [← hns] at hB'
   simp [r0, r3, r16, r17, hi, hc', hu1, hu2, hlw, hl32, apR, apN, apG, St.new, arp, ha, hw]
   obtain ⟨k', q1, i', q2, q3, q4⟩ := hgo G' v' hB'
   exact ⟨k', q1, i', q2, _, _, ⟨rfl, rfl⟩, by simp [r0], _, by simp [r3], by simp [r16], by simp [q3], q4⟩
  have hlc := awG hup
  have hu : (¬ (c.toNat : Int) ≥ 65) ∨ ((c.toNat : Int) ≥ 65 ∧ ¬ (c.toNat : Int) ≤ 90) := by omega
  by_cases h32 : c = 32
  ·have h32' : (c.toNat : Int) = 32 := by rw [h32]; rfl
   have hu1 : ¬ (c.toNat : Int) ≥ 65 := by omega
   by_cases hb0 : b = []
   ·have hns : aqx b c = b := by unfold aqx; rw [if_pos ⟨by rw [hlc, h32], .inl hb0⟩]
    rw [hns] at hgo
    have hbl0 : b.length = 0 := by rw [hb0]; rfl
    simp [r0, r3, r16, r17, hi, hc', h32', hB.len, hbl0, hw]
    obtain ⟨k', q1, i', q2, q3, q4⟩ := hgo G v hB
    exact ⟨k', q1, i', q2, _, _, ⟨rfl, rfl⟩, by simp [r0], _, by simp [r3], by simp [r16], by simp [q3], q4⟩
   ·obtain ⟨d, hd⟩ := avJ hb0
    have hb1 : 0 < b.length := List.length_pos_iff.2 hb0
    have hb3 : (1 : Int) ≤ (b.length : Int) := by omega
    have hb5 : (b.length : Int) - 1 < (b.length : Int) := by omega
    have hb4 : ((b.length : Int) - 1).toNat = b.length - 1 := by omega
    obtain ⟨id, hv, hld⟩ := hB.last hd
    subst hv
    by_cases hd32 : d = 32
    ·have hns : aqx b c = b := by unfold aqx; rw [if_pos ⟨by rw [hlc, h32], .inr ((ar5 hd).2 hd32)⟩]
     rw [hns] at hgo
     have hd' : (d.toNat : Int) = 32 := by rw [hd32]; rfl
     simp [r0, r3, r16, r17, hi, hc', h32', hb0, hb1, hb3, hb4, hb5, hw1, hld, hd', hw]
     obtain ⟨k', q1, i', q2, q3, q4⟩ := hgo G _ hB
     exact ⟨k', q1, i', q2, _, _, ⟨rfl, rfl⟩, by simp [r0], _, by simp [r3], by simp [r16], by simp [q3], q4⟩
    ·have hns : aqx b c = b ++ [c] := by unfold aqx; rw [if_neg (fun h => h.2.elim hb0 (fun h => hd32 ((ar5 hd).1 h))), hlc]
     have hd' : ¬ (d.toNat : Int) = 32 := by have := mt aw1.2 hd32; omega
     obtain ⟨v', G', ha, hB'⟩ := hB.push (by omega) (c := c) (d := .int .u8) (z := [.int .u8 0]) rfl
     rw [← hns] at hB'
     rw [h32'] at ha
     simp [r0, r3, r16, r17, hi, hc', h32', hb0, hb1, hb3, hb4, hb5, hw1, hld, hd', apR, apN, apG, St.new, arp, ha, hw]
     obtain ⟨k', q1, i', q2, q3, q4⟩ := hgo G' v' hB'
     exact ⟨k', q1, i', q2, _, _, ⟨rfl, rfl⟩, by simp [r0], _, by simp [r3], by simp [r16], by simp [q3], q4⟩
  ·have h32' : ¬ (c.toNat : Int) = 32 := by have := mt aw1.2 h32; omega
   have hns : aqx b c = b ++ [c] := by unfold aqx; rw [if_neg (fun h => h32 (hlc ▸ h.1)), hlc]
   obtain ⟨v', G', ha, hB'⟩ := hB.push (by omega) (c := c) (d := .int .u8) (z := [.int .u8 0]) rfl
   rw [← hns] at hB'
   obtain ⟨k', q1, i', q2, q3, q4⟩ := hgo G' v' hB'
   rcases hu with hu | ⟨hu, hu2⟩
   ·simp [r0, r3, r16, r17, hi, hc', hu, h32', apR, apN, apG, St.new, arp, ha, hw]
    exact ⟨k', q1, i', q2, _, _, ⟨rfl, rfl⟩, by simp [r0], _, by simp [r3], by simp [r16], by simp [q3], q4⟩
   ·simp [r0, r3, r16, r17, hi, hc', hu, hu2, h32', apR, apN, apG, St.new, arp, ha, hw]
    exact ⟨k', q1, i', q2, _, _, ⟨rfl, rfl⟩, by simp [r0], _, by simp [r3], by simp [r16], by simp [q3], q4⟩
theorem awE {t : Str} {H : List Ob} : callW C 184 [.str t] H = some (.bool (dec (ap2 t)), H) := by
 apply Ret.dec
 rw [aJE]
 have hn := aBz (t := t) (H := H)
 by_cases g1 : (t.length : Int) ≥ 1
 ·by_cases g2 : (t.length : Int) ≤ 40
  ·by_cases g3 : norm t = []
   ·have hv : ¬ ap2 t := fun h => h.2.2 g3
    simp [auw, Tryz.f184, g1, g2, hn, g3, hv]
   ·have hv : ap2 t := ⟨by omega, by omega, g3⟩
    simp [auw, Tryz.f184, g1, g2, hn, g3, hv]
  ·have : ¬ ap2 t := fun h => by have := h.2.1; omega
   simp [auw, Tryz.f184, g1, g2, this]
 ·have : ¬ ap2 t := fun h => by have := h.1; omega
  simp [auw, Tryz.f184, g1, this]
theorem awt {t : Str} {H : List Ob} : callW C 207 [.str t] H = some (.bool (dec (ap2 t)), H) := by
 apply Ret.dec
 rw [aJO]
 have hn := aBX (t := t) (H := H)
 by_cases g1 : (t.length : Int) ≥ 1
 ·by_cases g2 : (t.length : Int) ≤ 40
  ·by_cases g3 : norm t = []
   ·have hv : ¬ ap2 t := fun h => h.2.2 g3
    simp [auz, Tryz.f207, g1, g2, hn, g3, hv]
   ·have hv : ap2 t := ⟨by omega, by omega, g3⟩
    simp [auz, Tryz.f207, g1, g2, hn, g3, hv]
  ·have : ¬ ap2 t := fun h => by have := h.2.1; omega
   simp [auz, Tryz.f207, g1, g2, this]
 ·have : ¬ ap2 t := fun h => by have := h.1; omega
  simp [auz, Tryz.f207, g1, this]
theorem aIn {H : List Ob} {v : V} {l : List PRdn} (h : aq2 H v l) : callW C 90 [v] H = some (.bool (dec (DnOk l)), H) := by
 apply Ret.dec
 rw [aPZ]
 have hb : l.length ≤ 9223372036854775807 := h.bound
 simp [aBd, Tryz.f90]
 refine apT (fun k σ => ∃ (i : Nat) (r : Nat → R), i + k = l.length ∧ σ = ⟨r, 0, H⟩ ∧ r 0 = .val v ∧ r 3 = .val (.int .i64 i) ∧ ∀ j x, j < i → l[j]? = some x → apV x.attr ∧ ap2 x.value) ?_ l.length _ ⟨0, _, by simp, rfl, by simp, by simp, by simp⟩
 rintro k σ ⟨i, r, hik, rfl, r0, r3, hall⟩
 cases k with
 | zero =>
  have hi : i = l.length := by omega
  subst hi
  have hx := atI (P := fun j (x : PRdn) => apV x.attr ∧ ap2 x.value) hall
  by_cases g : l.length ≤ 6
  ·have g' : (l.length : Int) ≤ 6 := by omega
   have hv : DnOk l := ⟨hx, g⟩
   simp [r0, r3, h.len, g', hv]
  ·have g' : ¬ (l.length : Int) ≤ 6 := by omega
   have hv : ¬ DnOk l := fun h => g h.2
   simp [r0, r3, h.len, g', hv]
 | succ k =>
  have hi : i < l.length := by omega
  obtain ⟨x, hx⟩ : ∃ c, l[i]? = some c := ⟨l[i], by simp [hi]⟩
  have hw : IntKind.i64.wrap ((i : Int) + 1) = ((i : Int) + 1) := wrap_i64 (by omega) (by omega)
  obtain ⟨id, o, e1, l0, l1, _, _⟩ := aAD h hx
  have c1 := axd (t := x.attr) (H := H)
  by_cases g1 : apV x.attr
  ·rw [apK g1] at c1
   have c2 := awE (t := x.value) (H := H)
   by_cases g2 : ap2 x.value
   ·rw [apK g2] at c2
    simp [r0, r3, hi, h.len, e1, l0, l1, c1, c2, hw]
    exact ⟨k, by omega, i + 1, by omega, by omega, asy (P := fun j (x : PRdn) => apV x.attr ∧ ap2 x.value) hall hx ⟨g1, g2⟩⟩
   ·rw [apJ g2] at c2
    have hn : ¬ DnOk l := fun hd => g2 (hd.1 i x hx).2
    simp [r0, r3, hi, h.len, e1, l0, l1, c1, c2, hn]
  ·rw [apJ g1] at c1
   have hn : ¬ DnOk l := fun hd => g1 (hd.1 i x hx).1
   simp [r0, r3, hi, h.len, e1, l0, l1, c1, hn]
theorem aDR {H : List Ob} {v : V} {l : List Str} {t : Str} (h : AStrs H v l) : callW C 132 [v, .str t] H = some (.bool (dec (t ∈ l)), H) := by
 apply Ret.dec
 rw [aMp]
 have hb : l.length ≤ 9223372036854775807 := h.bound
 simp [azp, Tryz.f132]
 refine apT (fun k σ => ∃ (i : Nat) (r : Nat → R), i + k = l.length ∧ σ = ⟨r, 0, H⟩ ∧ r 0 = .val v ∧ r 1 = .val (.str t) ∧ r 5 = .val (.int .i64 i) ∧ ∀ j x, j < i → l[j]? = some x → x ≠ t) ?_ l.length _ ⟨0, _, by simp, rfl, by simp, by simp, by simp, by simp⟩
 rintro k σ ⟨i, r, hik, rfl, r0, r1, r5, hall⟩
 cases k with
 | zero =>
  have hi : i = l.length := by omega
  subst hi
  have hx := atI (P := fun j (x : Str) => x ≠ t) hall
  have hn : t ∉ l := fun hm => by
   obtain ⟨j, hj, e⟩ := List.getElem_of_mem hm
   exact hx j _ (List.getElem?_eq_getElem hj) e
  simp [r0, r1, r5, h.len, hn]
 | succ k =>
  have hi : i < l.length := by omega
  obtain ⟨x, hx⟩ : ∃ c, l[i]? = some c := ⟨l[i], by simp [hi]⟩
  have hw : IntKind.i64.wrap ((i : Int) + 1) = ((i : Int) + 1) := wrap_i64 (by omega) (by omega)
  obtain ⟨id, o, e1, l0, _⟩ := aqG h hx
  by_cases g1 : x = t
  ·have hm : t ∈ l := g1 ▸ List.mem_of_getElem? hx
   subst g1
   simp [r0, r1, r5, hi, h.len, e1, l0, hm]
  ·simp [r0, r1, r5, hi, h.len, e1, l0, g1, hw]
   exact ⟨k, by omega, i + 1, by omega, by omega, asy (P := fun j (x : Str) => x ≠ t) hall hx g1⟩
theorem aPJ {H : List Ob} {v v' : V} {l : List PAttr} {t : Str} (h : aqO H v l) (ho : cellsOf v' = some [v']) : ∃ r : Int, callW C 249 [.agg [v', v], .str t] H = some (.int .i64 r, H) ∧ FirstAt PAttr.name l t r := by
 suffices hs : Ret C 249 [.agg [v', v], .str t] H fun q H' => (∃ r : Int, q = .int .i64 r ∧ FirstAt PAttr.name l t r) ∧ H' = H by
  obtain ⟨q, H', hc, ⟨r, rfl, hr⟩, rfl⟩ := hs
  exact ⟨r, hc, hr⟩
 rw [aMn]
 have hb : l.length ≤ 9223372036854775807 := h.bound
 simp [ayZ, Tryz.f249]
 refine apT (fun k σ => ∃ (i : Nat) (r : Nat → R), i + k = l.length ∧ σ = ⟨r, 1, H⟩ ∧ r 1 = .val (.str t) ∧ r 2 = .box 0 [v', v] ∧ r 5 = .val (.int .i64 i) ∧ ∀ j x, j < i → l[j]? = some x → x.name ≠ t) ?_ l.length _ ⟨0, _, by simp, rfl, by simp, by simp, by simp, by simp⟩
 rintro k σ ⟨i, r, hik, rfl, r1, r2, r5, hall⟩
 cases k with
 | zero =>
  have hi : i = l.length := by omega
  subst hi
  have hx := atI (P := fun j (x : PAttr) => x.name ≠ t) hall
  simp [r1, r2, r5, h.len]
  exact .inr ⟨hx, rfl⟩
 | succ k =>
  have hi : i < l.length := by omega
  obtain ⟨x, hx⟩ : ∃ c, l[i]? = some c := ⟨l[i], by simp [hi]⟩
  have hw : IntKind.i64.wrap ((i : Int) + 1) = ((i : Int) + 1) := wrap_i64 (by omega) (by omega)
  obtain ⟨id, o, w, e1, l0, l1, _⟩ := ary h hx
  by_cases g1 : x.name = t
  ·simp [r1, r2, r5, hi, h.len, e1, l0, g1]
   exact .inl ⟨i, x, hx, g1, hall, rfl⟩
  ·simp [r1, r2, r5, hi, h.len, e1, l0, g1, hw]
   exact ⟨k, by omega, i + 1, by omega, by omega, asy (P := fun j (x : PAttr) => x.name ≠ t) hall hx g1⟩
theorem aRt {H : List Ob} {v v' : V} {l : List PAttr} {t : Str} (h : aqO H v l) (ho : cellsOf v' = some [v']) (ho' : ap5 v' = true) : ∃ w, callW C 280 [.agg [v', v], .str t] H = some (w, H) ∧ AStrs H w (valsOf l t) := by
 obtain ⟨r, hc, hr⟩ := aPJ (t := t) h ho
 suffices hs : Ret C 280 [.agg [v', v], .str t] H fun q H' => AStrs H q (valsOf l t) ∧ H' = H by
  obtain ⟨q, H', hc, hr, rfl⟩ := hs
  exact ⟨q, hc, hr⟩
 rw [aGT]
 rcases hr.pos with ⟨k, a, h1, rfl, h2⟩ | ⟨rfl, h2⟩
 ·obtain ⟨id, o, w, e1, l0, l1, _, hw, _⟩ := ary h h1
  have hv : valsOf l t = a.vals := by unfold valsOf; rw [h2]
  have hk : ¬ ((k : Int) < 0) := by omega
  simp [awy, Tryz.f280, hc, hk, e1, l1, hv]
  exact hw
 ·have hv : valsOf l t = [] := by unfold valsOf; rw [h2]
  simp [awy, Tryz.f280, hc, hv]
  exact apM.2 ⟨_, _, rfl, rfl, by simp, .inl ⟨rfl, rfl⟩⟩
end Go.Proofs.Try1
end
section
namespace Go.Lite
open Go
def asY (c : UInt8) : Bool := c == 44 || c == 43 || c == 34 || c == 92 || c == 60 || c == 62 || c == 59 || c == 61
def aqA (t : Str) (i : Nat) (c : UInt8) : Bool := asY c || (c == 35 && i == 0) || (c == 32 && (i == 0 || i + 1 == t.length))
def aDk (t : Str) (i : Nat) : Str := match t[i]? with
 | some c => if aqA t i c = true then [92, c] else [c]
 | none => []
def auF (t : Str) : Nat → Str
 | 0 => []
 | n + 1 => auF t n ++ aDk t n
def esc (t : Str) : Str := auF t t.length
def aCM (dn : List PRdn) (i : Nat) : Str := match dn[i]? with
 | some r => (if 0 < i then [44] else []) ++ r.attr ++ [61] ++ esc r.value
 | none => []
def arO (dn : List PRdn) : Nat → Str
 | 0 => []
 | n + 1 => arO dn n ++ aCM dn n
def txt (dn : List PRdn) : Str := arO dn dn.length
theorem aEs (t : Str) (i : Nat) : (aDk t i).length ≤ 2 := by
 unfold aDk
 split
 ·split <;> simp
 ·simp
theorem avh (t : Str) : ∀ n, (auF t n).length ≤ 2 * n
 | 0 => by simp [auF]
 | n + 1 => by
  have := avh t n
  have := aEs t n
  simp only [auF, List.length_append]
  omega
theorem aCl (t : Str) : (esc t).length ≤ 2 * t.length := avh t _
theorem aDO {dn : List PRdn} (hd : DnOk dn) (i : Nat) : (aCM dn i).length ≤ 102 := by
 unfold aCM
 split
 ·rename_i r hr
  have h1 := (hd.1 i r hr).1.2.1
  have h2 := (hd.1 i r hr).2.2.1
  have h3 := aCl r.value
  simp only [List.length_append, List.length_cons, List.length_nil]
  split <;> simp <;> omega
 ·simp
theorem aw6 {dn : List PRdn} (hd : DnOk dn) : ∀ n, (arO dn n).length ≤ 102 * n
 | 0 => by simp [arO]
 | n + 1 => by
  have := aw6 hd n
  have := aDO hd n
  simp only [arO, List.length_append]
  omega
theorem ave : ∀ (l : List UInt8) (c : UInt8), 0 ≤ Lib.indexByte l c ↔ c ∈ l
 | [], c => by simp [Lib.indexByte]
 | b :: l, c => by
  unfold Lib.indexByte
  have ih := ave l c
  have lo : -1 ≤ Lib.indexByte l c := by
   clear ih
   induction l with
   | nil => simp [Lib.indexByte]
   | cons x l ih => unfold Lib.indexByte; split <;> (try split) <;> omega
  by_cases h : b = c
  ·subst h; simp
  ·have hb : (b == c) = false := by simpa using h
   simp only [hb, Bool.false_eq_true, if_false, List.mem_cons]
   by_cases h1 : Lib.indexByte l c = -1
   ·simp only [h1, beq_self_eq_true, if_true]
    have : ¬ c ∈ l := fun hm => by have := ih.2 hm; omega
    simp [this, Ne.symm h]
   ·have h1' : (Lib.indexByte l c == -1) = false := by simpa using h1
    simp only [h1', Bool.false_eq_true, if_false]
    have : c ∈ l := ih.1 (by omega)
    simp [this]
    omega
end Go.Lite
end
section
namespace Go.Proofs.Try1
open Go Go.Lite
attribute [-simp] aqY arP
attribute [local simp] arb arN aq6 aq9 aq7 aqQ
attribute [local simp low] ara
theorem atT {c n : UInt8} (h : ¬ c = n) : ¬ ((c.toNat : Int) = (n.toNat : Int)) := fun e => h (UInt8.toNat_inj.1 (by omega))
theorem aMg {t : Str} {i : Nat} {c : UInt8} {H : List Ob} (hc : t[i]? = some c) (hl : t.length ≤ 1000000) : callW C 318 [.str t, .int .i64 i] H = some (.bool (aqA t i c), H) := by
 apply Ret.eq
 rw [aHu]
 obtain ⟨hi, hc'⟩ := List.getElem?_eq_some_iff.1 hc
 have hw : IntKind.i64.wrap ((t.length : Int) - 1) = (t.length : Int) - 1 := wrap_i64 (by omega) (by omega)
 by_cases h1 : c = 44
 ·subst h1; simp [aqX, Tryz.f318, hi, hc', aqA, asY]
 by_cases h2 : c = 43
 ·subst h2; simp [aqX, Tryz.f318, hi, hc', aqA, asY]
 by_cases h3 : c = 34
 ·subst h3; simp [aqX, Tryz.f318, hi, hc', aqA, asY]
 by_cases h4 : c = 92
 ·subst h4; simp [aqX, Tryz.f318, hi, hc', aqA, asY]
 by_cases h5 : c = 60
 ·subst h5; simp [aqX, Tryz.f318, hi, hc', aqA, asY]
 by_cases h6 : c = 62
 ·subst h6; simp [aqX, Tryz.f318, hi, hc', aqA, asY]
 by_cases h7 : c = 59
 ·subst h7; simp [aqX, Tryz.f318, hi, hc', aqA, asY]
 by_cases h8 : c = 61
 ·subst h8; simp [aqX, Tryz.f318, hi, hc', aqA, asY]
 have e1 := atT h1
 have e2 := atT h2
 have e3 := atT h3
 have e4 := atT h4
 have e5 := atT h5
 have e6 := atT h6
 have e7 := atT h7
 have e8 := atT h8
 simp at e1 e2 e3 e4 e5 e6 e7 e8
 have ho : asY c = false := by simp [asY, h1, h2, h3, h4, h5, h6, h7, h8]
 by_cases h9 : c = 35
 ·subst h9
  by_cases g : i = 0
  ·subst g
   simp [aqX, Tryz.f318, hi, hc', aqA, asY]
  ·have g' : ¬ (i : Int) = 0 := by omega
   simp [aqX, Tryz.f318, hi, hc', aqA, asY, g, g']
 have e9 := atT h9
 simp at e9
 by_cases h10 : c = 32
 ·subst h10
  by_cases g : i = 0
  ·subst g
   simp [aqX, Tryz.f318, hi, hc', aqA, asY]
  ·have g' : ¬ (i : Int) = 0 := by omega
   by_cases g2 : i + 1 = t.length
   ·have g2' : IntKind.i64.wrap ((t.length : Int) - 1) = (i : Int) := by rw [hw]; omega
    simp [aqX, Tryz.f318, hi, hc', aqA, asY, g, g', g2, g2']
   ·have g2' : ¬ (i : Int) = (t.length : Int) - 1 := by omega
    simp [aqX, Tryz.f318, hi, hc', aqA, asY, g, g', g2, g2', hw]
 have e10 := atT h10
 simp at e10
 simp [aqX, Tryz.f318, hi, hc', aqA, ho, h9, h10, e1, e2, e3, e4, e5, e6, e7, e8, e9, e10]
theorem ax7 {t : Str} {i : Nat} {c : UInt8} (hc : t[i]? = some c) : auF t (i + 1) = if aqA t i c = true then auF t i ++ [92] ++ [c] else auF t i ++ [c] := by
 show auF t i ++ aDk t i = _
 rw [show aDk t i = if aqA t i c = true then [92, c] else [c] by unfold aDk; rw [hc]]
 split <;> simp
theorem aEb {t : Str} {H : List Ob} (hl : t.length ≤ 1000) : callW C 242 [.str t] H = some (.str (esc t), H) := by
 apply Ret.eq
 rw [aKb]
 simp [ays, Tryz.f242, apR, apN, apG, St.new]
 refine apT (fun k σ => ∃ (i : Nat) (r : Nat → R) (G : List Ob) (v : V), i + k = t.length ∧ σ = ⟨r, 0, G⟩ ∧ r 0 = .val (.str t) ∧ r 3 = .val v ∧ r 4 = .val (.int .i64 i) ∧ Bs H G v (auF t i)) ?_ t.length _ ⟨0, _, _, _, by simp, rfl, by simp, by simp, by simp, Bs.init⟩
 rintro k σ ⟨i, r, G, v, hik, rfl, r0, r3, r4, hB⟩
 have hbl := avh t i
 cases k with
 | zero =>
  have hi : i = t.length := by omega
  subst hi
  obtain ⟨TT, rfl⟩ := hB.ext
  obtain ⟨id, rfl, hst, hsl⟩ := hB.cut (n := (auF t t.length).length) (Nat.le_refl _)
  rw [List.take_length] at hsl
  simp [r0, r3, r4, hsl, hst, isByte, arD, esc]
 | succ k =>
  have hi : i < t.length := by omega
  obtain ⟨c, hc⟩ : ∃ c, t[i]? = some c := ⟨t[i], by simp [hi]⟩
  have hc' : t[i] = c := (List.getElem?_eq_some_iff.1 hc).2
  have hw : IntKind.i64.wrap ((i : Int) + 1) = ((i : Int) + 1) := wrap_i64 (by omega) (by omega)
  have c1 : callW C 318 [.str t, .int .i64 i] G = some (.bool (aqA t i c), G) := aMg hc (by omega)
  have hes := ax7 hc
  cases ho : aqA t i c with
  | false =>
   rw [ho] at c1
   rw [ho, if_neg (by simp)] at hes
   obtain ⟨v', G', ha, hB'⟩ := hB.push (by omega) (c := c) (d := .int .u8) (z := [.int .u8 0]) rfl
   rw [← hes] at hB'
   simp [r0, r3, r4, hi, hc', c1, apR, apN, apG, St.new, arp, ha, hw]
   exact ⟨k, by omega, i + 1, by omega, _, _, ⟨rfl, rfl⟩, by simp [r0], _, by simp, by simp, hB'⟩
  | true =>
   rw [ho] at c1
   rw [ho, if_pos rfl] at hes
   obtain ⟨v', G', ha, hB'⟩ := hB.push (by omega) (c := 92) (d := .int .u8) (z := [.int .u8 0]) rfl
   obtain ⟨v2, G2, ha2, hB2⟩ := hB'.push (by simp; omega) (c := c) (d := .int .u8) (z := [.int .u8 0]) rfl
   rw [← hes] at hB2
   simp at ha
   simp [r0, r3, r4, hi, hc', c1, apR, apN, apG, St.new, arp, ha, ha2, hw]
   exact ⟨k, by omega, i + 1, by omega, _, _, ⟨rfl, rfl⟩, by simp [r0], _, by simp, by simp, hB2⟩
theorem ayg {dn : List PRdn} {i : Nat} {x : PRdn} (hx : dn[i]? = some x) : arO dn (i + 1) = (if 0 < i then arO dn i ++ [44] else arO dn i) ++ x.attr ++ [61] ++ esc x.value := by
 show arO dn i ++ aCM dn i = _
 rw [show aCM dn i = (if 0 < i then [44] else []) ++ x.attr ++ [61] ++ esc x.value by unfold aCM; rw [hx]]
 split <;> simp
theorem aCq {H : List Ob} {v : V} {xs : List PRdn} (h : aq2 H v xs) {i : Nat} {x : PRdn} (hx : xs[i]? = some x) : ∃ id o, id < H.length ∧
  (∀ (e s b : Nat) (z : List V) (ty : Nat → LT) (k : IntKind), (ty e).size = 2 → aqU ⟨.slice e, s, b, z⟩ ty (.val v) (.int k i) = some (.val (.ptr (some (id, o))))) ∧
  (∀ T' : List Ob, ∀ T : LT, T.one → ∀ r c, loadAt T ⟨r, c, H ++ T'⟩ (.hp id o) = some (.str x.attr) ∧ loadAt T ⟨r, c, H ++ T'⟩ (.hp id (o + 1)) = some (.str x.value)) ∧
  (∀ T' : List Ob, ∀ T : LT, T.many 2 → ∀ r c, loadAt T ⟨r, c, H ++ T'⟩ (.hp id o) = some (.agg [.str x.attr, .str x.value])) := by
 obtain ⟨id, o, own, cells, e1, e2, e3, e4⟩ := ASl.idx h hx (by decide)
 obtain ⟨e4, e5, e6⟩ := aEw.1 e4
 refine ⟨id, o, (List.getElem?_eq_some_iff.1 e2).1, e1, fun T' T hT r c => ?_, fun T' => awf (aqf _ _ e2) e3 (by decide) e4⟩
 have e2' := aqf (T := T') _ _ e2
 exact ⟨aqt e2' (by simpa using aqh e4 (j := 0) rfl) T hT r c, aqt e2' (by simpa using aqh e4 (j := 1) rfl) T hT r c⟩
theorem aGe {H : List Ob} {v : V} {dn : List PRdn} (h : aq2 H v dn) (hd : DnOk dn) : callW C 151 [v] H = some (.str (txt dn), H) := by
 apply Ret.eq
 rw [aJ0]
 have hb : dn.length ≤ 6 := hd.2
 simp [ayS, Tryz.f151]
 refine apT (fun k σ => ∃ (i : Nat) (r : Nat → R), i + k = dn.length ∧ σ = ⟨r, 0, H⟩ ∧ r 0 = .val v ∧ r 3 = .val (.str (arO dn i)) ∧ r 4 = .val (.int .i64 i)) ?_ dn.length _ ⟨0, _, by simp, rfl, by simp, by simp [arO], by simp⟩
 rintro k σ ⟨i, r, hik, rfl, r0, r3, r4⟩
 have hbl := aw6 hd i
 cases k with
 | zero =>
  have hi : i = dn.length := by omega
  subst hi
  simp [r0, r3, r4, h.len, txt]
 | succ k =>
  have hi : i < dn.length := by omega
  obtain ⟨x, hx⟩ : ∃ c, dn[i]? = some c := ⟨dn[i], by simp [hi]⟩
  have hw : IntKind.i64.wrap ((i : Int) + 1) = ((i : Int) + 1) := wrap_i64 (by omega) (by omega)
  obtain ⟨id, o, hid, e1, ll, _⟩ := aCq h hx
  have l0 : ∀ T : LT, T.one → ∀ r c, loadAt T ⟨r, c, H⟩ (.hp id o) = some (.str x.attr) := fun T hT r c => by have := (ll [] T hT r c).1; rwa [List.append_nil] at this
  have l1 : ∀ T : LT, T.one → ∀ r c, loadAt T ⟨r, c, H⟩ (.hp id (o + 1)) = some (.str x.value) := fun T hT r c => by have := (ll [] T hT r c).2; rwa [List.append_nil] at this
  have h1 := (hd.1 i x hx).1.2.1
  have h2 := (hd.1 i x hx).2.2.1
  have h3 := aCl x.value
  have c1 := aEb (t := x.value) (H := H) (by omega)
  have hts := ayg hx
  have hM : ∀ n, n ≤ 2000 → n ≤ maxStr := fun n h => by unfold maxStr; omega
  have m1 := hM ((arO dn i).length + 1) (by omega)
  have m2 := hM ((arO dn i).length + (x.attr.length + 1)) (by omega)
  have m3 := hM ((arO dn i).length + x.attr.length) (by omega)
  have m4 := hM ((arO dn i).length + 1 + x.attr.length) (by omega)
  have m5 := hM ((arO dn i).length + (x.attr.length + 1) + 1) (by omega)
  have m6 := hM ((arO dn i).length + x.attr.length + 1) (by omega)
  have m7 := hM ((arO dn i).length + (x.attr.length + 1) + (esc x.value).length) (by omega)
  have m8 := hM ((arO dn i).length + (x.attr.length + 1 + 1) + (esc x.value).length) (by omega)
  have m9 := hM ((arO dn i).length + (x.attr.length + 1 + 1)) (by omega)
  by_cases g : 0 < i
  ·rw [if_pos g] at hts
   simp [r0, r3, r4, h.len, hi, g, hid, e1, l0, l1, c1, m1, m2, m3, m4, m5, m6, m7, m8, m9, hw, aiB, akl, List.lookup]
   exact ⟨k, by omega, i + 1, by omega, by rw [hts]; simp, by omega⟩
  ·rw [if_neg g] at hts
   simp [r0, r3, r4, h.len, hi, g, hid, e1, l0, l1, c1, m1, m2, m3, m4, m5, m6, m7, m8, m9, hw, aiB, akl, List.lookup]
   exact ⟨k, by omega, i + 1, by omega, by rw [hts]; simp, by omega⟩
end Go.Proofs.Try1
end
