/- Part 09 of the proof of a law: the interpreter, its soundness, and what functions of the program compute over it. Conditions: none but those that each theorem names. -/
import Derived.Test.YtipjjjlomghdfaaGreatDoorU07
import Derived.Test.YtipjjjlomghdfaaGreatDoorU06
import Derived.Test.YtipjjjlomghdfaaGreatDoorU08
import Derived.Test.YtipjjjlomghdfaaGreatDoorU05
import Derived.Lib.Bytealg

set_option linter.all false
set_option maxRecDepth 20000
set_option maxHeartbeats 40000000
section
namespace Go.Proofs.Try1
open Go Go.Lite
def dh (f : Nat) (sh : Sh) : Prop := ∀ (H : List Ob) (cs : List V) (u : U), At H sh cs u → wt u ≤ 1048576 →
 ∃ T cs' F, callW C f [valC sh cs] H = some (valC sh cs', H ++ T) ∧ AtF (H ++ T) sh cs' u F ∧ F.Nodup ∧ ∀ id ∈ F, H.length ≤ id
theorem Ret.to {f : Nat} {sh : Sh} {a : List V} {H : List Ob} {u : U} (h : Ret C f a H fun r H' => ∃ T cs' F, H' = H ++ T ∧ r = valC sh cs' ∧ AtF (H ++ T) sh cs' u F ∧ F.Nodup ∧ ∀ id ∈ F, H.length ≤ id) :
  ∃ T cs' F, callW C f a H = some (valC sh cs', H ++ T) ∧ AtF (H ++ T) sh cs' u F ∧ F.Nodup ∧ ∀ id ∈ F, H.length ≤ id := by
 obtain ⟨r, H', hc, T, cs', F, rfl, rfl, h1, h2, h3⟩ := h
 exact ⟨T, cs', F, hc, h1, h2, h3⟩
theorem bu : dh 192 (.slice .str) := by
 intro H cs u h hwt
 obtain ⟨v, l, rfl, rfl, hlen, hv⟩ := At_slice.1 h
 apply Ret.to
 rw [HY]
 simp only [wt] at hwt
 have b1 : (l.length : Int) * 16 ≤ 1099511627776 := by omega
 have b2 : (l.length : Int) ≤ 1099511627776 := by omega
 simp [qm, Tryz.f192, valC, elemT, St.new, maxMade, b1, b2, hv.len]
 refine WP_loop (fun k σ => ∃ (i : Nat) (r : Nat → R) (G : List Ob), i + k = l.length ∧ σ = ⟨r, 0, G⟩ ∧ ToI H .str l i G ∧ r 0 = .val v ∧ r 3 = .val (.slc (some (H.length, 0)) l.length) ∧ r 4 = .val (.int .i64 i)) ?_ l.length _ ⟨0, _, _, by simp, rfl, ToI.init (by simp [zerosL]), by simp, by simp, by simp⟩
 rintro k σ ⟨i, r, G, hik, rfl, hI, r0, r3, r4⟩
 cases k with
 | zero =>
  have hi : i = l.length := by omega
  subst hi
  obtain ⟨T, F, rfl, h1, h2, h3, h4⟩ := hI.done hlen
  simp [r0, r3, r4, hv.len]
  exact ⟨[_], rfl, F, h1, h2, h3⟩
 | succ k =>
  have hi : i < l.length := by omega
  obtain ⟨x, hx⟩ : ∃ x, l[i]? = some x := ⟨l[i], by simp [hi]⟩
  have hI' := hI
  obtain ⟨T0, _, _, hG, _⟩ := hI'
  have hvG : Sl G Sh.str.size (At G .str) v l := by rw [hG]; exact hv.map up_append fun _ _ h => h.ext
  clear hG
  obtain ⟨eid, o, own, cells, e1, e2, e3, e0⟩ := hvG.idx hx (by decide)
  obtain ⟨s, e4, rfl, e5⟩ := At_str.1 e0
  simp only [Sh.size_str] at e1
  have c0 : cells[o]? = some (.str s) := by simpa using cells_get e4 (j := 0) rfl
  have ld := load1 e2 c0
  obtain ⟨cells2, g1, g2, g3, g4⟩ := hI.step (T := []) hx (c := [.str s]) (F := []) (AtF_str.2 ⟨⟨s, rfl, rfl, e5⟩, rfl⟩) (by simp) (by simp)
  simp only [List.append_nil, Sh.size_str, Nat.mul_one, List.length_singleton] at g1 g2 g4
  rw [setRange_one (by omega)] at g4
  have st := store1 (v := .str s) (o := i) g1 (by omega) rfl rfl
  have hw : IntKind.i64.wrap ((i : Int) + 1) = ((i + 1 : Nat) : Int) := by rw [wrap_i64 (by omega) (by omega)]; omega
  simp [r0, r3, r4, hi, hv.len, e1, ld, st, hw]
  exact ⟨k, by omega, i + 1, by omega, _, _, ⟨rfl, rfl⟩, g4, by simp [r0], by simp [r3], by simp⟩
theorem jQ {f g tS tE tS2 tE2 b : Nat} {zs zs2 zs3 : List V} {d' : List (Nat × Nat)} {fs : List Sh} {F : Func} (hop : ∀ {a : List V} {H : List Ob} {R : V → List Ob → Prop}, Ret C f a H R ↔ WP C f (ren [(47, tS), (180, tE), (56, tS2), (202, tE2)] [(138, g)] lH) ⟨initRegs a, 0, H⟩ (finQ C F H R))
  (hF : F.results = #[.tmp 2]) (hS : C.ty tS = ⟨.slice tE, 1, 24, zs⟩) (hE : (C.ty tE).size = (Sh.st fs).size) (hE2 : (C.ty tE).isAgg = true) (hE0 : (C.ty tE).size ≠ 0) (hb : b ≤ 1048576)
  (hS2 : C.ty tS2 = ⟨.slice tE2, 1, 24, zs2⟩) (hT2 : C.ty tE2 = ⟨.struct d', (Sh.st fs).size, b, zs3⟩) (hz : zs3.length = (Sh.st fs).size) (hg : dh g (.st fs)) : dh f (.slice (.st fs)) := by
 intro H cs u h hwt
 obtain ⟨v, l, rfl, rfl, hlen, hv⟩ := At_slice.1 h
 apply Ret.to
 rw [hop]
 simp only [wt] at hwt
 have b1 : (l.length : Int) * b ≤ 1099511627776 := by
  have : l.length * b ≤ 1048576 * 1048576 := Nat.mul_le_mul (by omega) hb
  omega
 have b2 : (l.length : Int) ≤ 1099511627776 := by omega
 have hs0 : 0 < Sh.sizes fs := by have := hE ▸ hE0; simp at this; omega
 have hs1 : ¬ Sh.sizes fs = 0 := by omega
 simp only [Sh.size_st] at hE hT2 hz
 simp [lH, Tryz.f60, ren, renO, renP, renX, sub, valC, elemT, St.new, maxMade, hS, hS2, hT2, hz, b1, b2, hs0, hv.len]
 refine WP_loop (fun k σ => ∃ (i : Nat) (r : Nat → R) (G : List Ob), i + k = l.length ∧ σ = ⟨r, 0, G⟩ ∧ ToI H (.st fs) l i G ∧ r 0 = .val v ∧ r 3 = .val (.slc (some (H.length, 0)) l.length) ∧ r 4 = .val (.int .i64 i)) ?_ l.length _ ⟨0, _, _, by simp, rfl, ToI.init (by rw [zerosL_len, hz]; rfl), by simp, by simp, by simp⟩
 rintro k σ ⟨i, r, G, hik, rfl, hI, r0, r3, r4⟩
 cases k with
 | zero =>
  have hi : i = l.length := by omega
  subst hi
  obtain ⟨T, F, rfl, h1, h2, h3, h4⟩ := hI.done hlen
  simp [r0, r3, r4, hS, hv.len, hF]
  exact ⟨[_], rfl, F, h1, h2, h3⟩
 | succ k =>
  have hi : i < l.length := by omega
  obtain ⟨x, hx⟩ : ∃ x, l[i]? = some x := ⟨l[i], by simp [hi]⟩
  have hI' := hI
  obtain ⟨T0, _, _, hG, _⟩ := hI'
  have hvG : Sl G (Sh.st fs).size (At G (.st fs)) v l := by rw [hG]; exact hv.map up_append fun _ _ h => h.ext
  clear hG
  obtain ⟨eid, o, own, cells, e1, e2, e3, e4⟩ := hvG.idx hx (by simp; omega)
  have e1 := fun (k : IntKind) => e1 tE 1 24 zs C.ty k hE
  have ld := load_agg (T := C.ty tE) e2 (by rw [hE]; exact e3) rfl hE0 hE2
  rw [hE] at ld
  have hwx : wt x ≤ 1048576 := by have := wts_get hx; omega
  obtain ⟨T1, c, F1, hc, g5, g6, g7⟩ := hg G _ x e4 hwx
  obtain ⟨cells2, g1, g2, g3, g4⟩ := hI.step hx g5 g6 g7
  simp only [valC, Sh.size_st] at hc g1 g2 g3 g4
  have st := storeN g1 g2 (by intro h0; subst h0; simp at g3; omega) (At.ones _ (AtF.at _ g5)) (C.ty tE2) (by rw [hT2, g3]; exact ⟨rfl, rfl⟩)
  rw [hT2] at st
  have hw : IntKind.i64.wrap ((i : Int) + 1) = ((i + 1 : Nat) : Int) := by rw [wrap_i64 (by omega) (by omega)]; omega
  simp [r0, r3, r4, hi, hS, hS2, hT2, hs0, hs1, hv.len, e1, ld, hc, st, hw, -setRange]
  exact ⟨k, by omega, i + 1, by omega, _, _, ⟨rfl, rfl⟩, g4, by simp [r0], by simp [r3], by simp⟩
theorem Dv : dh 138 shRdn := by
 intro H cs u h hwt
 replace h := At_st.1 h
 obtain ⟨us, rfl, h⟩ := h
 replace h := Ats_cons.1 h
 obtain ⟨c0, d0, u0, rr0, rfl, rfl, h0, h⟩ := h
 replace h := Ats_cons.1 h
 obtain ⟨c1, d1, u1, rr1, rfl, rfl, h1, h⟩ := h
 replace h := Ats_nil.1 h
 obtain ⟨rfl, rfl⟩ := h
 replace h0 := At_str.1 h0
 obtain ⟨s0, rfl, rfl, w0⟩ := h0
 replace h1 := At_str.1 h1
 obtain ⟨s1, rfl, rfl, w1⟩ := h1
 simp only [wt_st, wts_cons, wts_nil, wt_str, wt_int, wt_bool] at hwt
 have hA : AtF H shRdn _ _ _ := AtF_st.2 ⟨_, rfl, AtsF_cons.2 ⟨[_], _, _, _, [], [], rfl, rfl, rfl, AtF_str.2 ⟨⟨_, rfl, rfl, w0⟩, rfl⟩, AtsF_cons.2 ⟨[_], _, _, _, [], [], rfl, rfl, rfl, AtF_str.2 ⟨⟨_, rfl, rfl, w1⟩, rfl⟩, AtsF_nil.2 ⟨rfl, rfl, rfl⟩⟩⟩⟩
 apply Ret.to
 rw [Iz]
 simp [rY, Tryz.f138, valC]
 exact ⟨[], by simpa using hA, by simp, by simp⟩
theorem qw : dh 60 (.slice shRdn) :=
 jQ (f := 60) (g := 138) (tS := 47) (tE := 180) (tS2 := 56) (tE2 := 202) (F := Tryz.f60) (op_ren (c := lH) (by kernel_rfl) QF) rfl FT (by rw [kC]; rfl) (by rw [kC]; rfl) (by rw [kC]; decide) (by decide) DJ mg rfl Dv
theorem Az : dh 291 shAttr := by
 intro H cs u h hwt
 replace h := At_st.1 h
 obtain ⟨us, rfl, h⟩ := h
 replace h := Ats_cons.1 h
 obtain ⟨c0, d0, u0, rr0, rfl, rfl, h0, h⟩ := h
 replace h := Ats_cons.1 h
 obtain ⟨c1, d1, u1, rr1, rfl, rfl, h1, h⟩ := h
 replace h := Ats_nil.1 h
 obtain ⟨rfl, rfl⟩ := h
 replace h0 := At_str.1 h0
 obtain ⟨s0, rfl, rfl, w0⟩ := h0
 have k1 := h1
 replace h1 := At_slice.1 h1
 obtain ⟨v1, l1, rfl, rfl, w1, hv1⟩ := h1
 have o1 := hv1.one
 simp only [wt_st, wts_cons, wts_nil, wt_str, wt_int, wt_bool] at hwt
 obtain ⟨T1, x1, G1, q1, a1, m1, g1⟩ := bu (H) _ _ (k1) (by first | omega | (simp only [wt_st, wts_cons, wts_nil, wt_str, wt_int, wt_bool]; omega))
 have y1 := a1
 obtain ⟨z1, _, rfl, zz1, _, _⟩ := AtF_slice.1 y1
 cases zz1
 have oz1 := (At_slice.1 (AtF.at _ a1))
 obtain ⟨_, _, x1, x2, _, oz1⟩ := oz1
 cases x1
 cases x2
 have oz1 := oz1.one
 simp only [valC, List.headD_cons, List.append_nil, List.cons_append, List.nil_append, List.append_assoc] at q1
 have hA : AtF (H ++ T1) shAttr _ _ _ := AtF_st.2 ⟨_, rfl, AtsF_cons.2 ⟨[_], _, _, _, [], _, rfl, rfl, rfl, AtF_str.2 ⟨⟨_, rfl, rfl, w0⟩, rfl⟩, AtsF_cons.2 ⟨[_], _, _, _, G1, _, rfl, rfl, rfl, (a1), AtsF_nil.2 ⟨rfl, rfl, rfl⟩⟩⟩⟩
 simp only [List.append_assoc, List.nil_append, List.append_nil] at hA
 skip
 have hge : ∀ q ∈ G1, H.length ≤ q := by
  intro q hq
  try simp only [List.mem_append] at hq
  ·have := g1 q hq; omega
 have hnd : (G1).Nodup := by
  have b1 := AtF.mem _ a1
  exact m1
 obtain ⟨T, hT, hA⟩ := gcH_to hA hge
 simp only [List.cons_append, List.nil_append, List.append_nil] at hT
 apply Ret.to
 rw [Eo]
 simp [uJ, Tryz.f291, valC, hT, q1, o1, oz1]
 exact ⟨_, hA, hnd, hge⟩
theorem xI : dh 227 (.slice shAttr) :=
 jQ (f := 227) (g := 291) (tS := 191) (tE := 323) (tS2 := 153) (tE2 := 249) (F := Tryz.f227) (op_ren (c := uM) (by kernel_rfl) H7) rfl CE (by rw [jS]; rfl) (by rw [jS]; rfl) (by rw [jS]; decide) (by decide) BO rX rfl Az
theorem nK : dh 142 shEntry := by
 intro H cs u h hwt
 replace h := At_st.1 h
 obtain ⟨us, rfl, h⟩ := h
 replace h := Ats_cons.1 h
 obtain ⟨c0, d0, u0, rr0, rfl, rfl, h0, h⟩ := h
 replace h := Ats_cons.1 h
 obtain ⟨c1, d1, u1, rr1, rfl, rfl, h1, h⟩ := h
 replace h := Ats_nil.1 h
 obtain ⟨rfl, rfl⟩ := h
 have k0 := h0
 replace h0 := At_slice.1 h0
 obtain ⟨v0, l0, rfl, rfl, w0, hv0⟩ := h0
 have o0 := hv0.one
 have k1 := h1
 replace h1 := At_slice.1 h1
 obtain ⟨v1, l1, rfl, rfl, w1, hv1⟩ := h1
 have o1 := hv1.one
 simp only [wt_st, wts_cons, wts_nil, wt_str, wt_int, wt_bool] at hwt
 obtain ⟨T0, x0, G0, q0, a0, m0, g0⟩ := qw (H) _ _ (k0) (by first | omega | (simp only [wt_st, wts_cons, wts_nil, wt_str, wt_int, wt_bool]; omega))
 have y0 := a0
 obtain ⟨z0, _, rfl, zz0, _, _⟩ := AtF_slice.1 y0
 cases zz0
 have oz0 := (At_slice.1 (AtF.at _ a0))
 obtain ⟨_, _, x1, x2, _, oz0⟩ := oz0
 cases x1
 cases x2
 have oz0 := oz0.one
 simp only [valC, List.headD_cons, List.append_nil, List.cons_append, List.nil_append, List.append_assoc] at q0
 obtain ⟨T1, x1, G1, q1, a1, m1, g1⟩ := xI (H ++ T0) _ _ (k1.ext) (by first | omega | (simp only [wt_st, wts_cons, wts_nil, wt_str, wt_int, wt_bool]; omega))
 have y1 := a1
 obtain ⟨z1, _, rfl, zz1, _, _⟩ := AtF_slice.1 y1
 cases zz1
 have oz1 := (At_slice.1 (AtF.at _ a1))
 obtain ⟨_, _, x1, x2, _, oz1⟩ := oz1
 cases x1
 cases x2
 have oz1 := oz1.one
 simp only [valC, List.headD_cons, List.append_nil, List.cons_append, List.nil_append, List.append_assoc] at q1
 have hA : AtF (H ++ T0 ++ T1) shEntry _ _ _ := AtF_st.2 ⟨_, rfl, AtsF_cons.2 ⟨[_], _, _, _, G0, _, rfl, rfl, rfl, (a0.app), AtsF_cons.2 ⟨[_], _, _, _, G1, _, rfl, rfl, rfl, (a1), AtsF_nil.2 ⟨rfl, rfl, rfl⟩⟩⟩⟩
 simp only [List.append_assoc, List.nil_append, List.append_nil] at hA
 simp only [List.length_append] at g0 g1
 have hge : ∀ q ∈ G0 ++ (G1), H.length ≤ q := by
  intro q hq
  try simp only [List.mem_append] at hq
  rcases hq with hq | hq
  ·have := g0 q hq; omega
  ·have := g1 q hq; omega
 have hnd : (G0 ++ (G1)).Nodup := by
  have b0 := AtF.mem _ a0
  have b1 := AtF.mem _ a1
  simp only [List.length_append] at b0 b1
  refine List.nodup_append.2 ⟨m0, ?_, fun x hx y hy e => ?_⟩
  rotate_left
  ·subst e
   have := b0 x hx
   try simp only [List.mem_append] at hy
   ·have := g1 x hy; omega
  exact m1
 obtain ⟨T, hT, hA⟩ := gcH_to hA hge
 simp only [List.cons_append, List.nil_append, List.append_nil] at hT
 apply Ret.to
 rw [IQ]
 simp [qU, Tryz.f142, valC, hT, q0, q1, o0, o1, oz0, oz1]
 exact ⟨_, hA, hnd, hge⟩
theorem uX : dh 64 (.slice shEntry) :=
 jQ (f := 64) (g := 142) (tS := 23) (tE := 193) (tS2 := 35) (tE2 := 155) (F := Tryz.f64) (op_ren (c := yV) (by kernel_rfl) O8) rfl Ee (by rw [jM]; rfl) (by rw [jM]; rfl) (by rw [jM]; decide) (by decide) EZ qA rfl nK
theorem xm : dh 141 shClass := by
 intro H cs u h hwt
 replace h := At_st.1 h
 obtain ⟨us, rfl, h⟩ := h
 replace h := Ats_cons.1 h
 obtain ⟨c0, d0, u0, rr0, rfl, rfl, h0, h⟩ := h
 replace h := Ats_cons.1 h
 obtain ⟨c1, d1, u1, rr1, rfl, rfl, h1, h⟩ := h
 replace h := Ats_cons.1 h
 obtain ⟨c2, d2, u2, rr2, rfl, rfl, h2, h⟩ := h
 replace h := Ats_cons.1 h
 obtain ⟨c3, d3, u3, rr3, rfl, rfl, h3, h⟩ := h
 replace h := Ats_nil.1 h
 obtain ⟨rfl, rfl⟩ := h
 replace h0 := At_str.1 h0
 obtain ⟨s0, rfl, rfl, w0⟩ := h0
 have k1 := h1
 replace h1 := At_slice.1 h1
 obtain ⟨v1, l1, rfl, rfl, w1, hv1⟩ := h1
 have o1 := hv1.one
 have k2 := h2
 replace h2 := At_slice.1 h2
 obtain ⟨v2, l2, rfl, rfl, w2, hv2⟩ := h2
 have o2 := hv2.one
 have k3 := h3
 replace h3 := At_slice.1 h3
 obtain ⟨v3, l3, rfl, rfl, w3, hv3⟩ := h3
 have o3 := hv3.one
 simp only [wt_st, wts_cons, wts_nil, wt_str, wt_int, wt_bool] at hwt
 obtain ⟨T1, x1, G1, q1, a1, m1, g1⟩ := bu (H) _ _ (k1) (by first | omega | (simp only [wt_st, wts_cons, wts_nil, wt_str, wt_int, wt_bool]; omega))
 have y1 := a1
 obtain ⟨z1, _, rfl, zz1, _, _⟩ := AtF_slice.1 y1
 cases zz1
 have oz1 := (At_slice.1 (AtF.at _ a1))
 obtain ⟨_, _, x1, x2, _, oz1⟩ := oz1
 cases x1
 cases x2
 have oz1 := oz1.one
 simp only [valC, List.headD_cons, List.append_nil, List.cons_append, List.nil_append, List.append_assoc] at q1
 obtain ⟨T2, x2, G2, q2, a2, m2, g2⟩ := bu (H ++ T1) _ _ (k2.ext) (by first | omega | (simp only [wt_st, wts_cons, wts_nil, wt_str, wt_int, wt_bool]; omega))
 have y2 := a2
 obtain ⟨z2, _, rfl, zz2, _, _⟩ := AtF_slice.1 y2
 cases zz2
 have oz2 := (At_slice.1 (AtF.at _ a2))
 obtain ⟨_, _, x1, x2, _, oz2⟩ := oz2
 cases x1
 cases x2
 have oz2 := oz2.one
 simp only [valC, List.headD_cons, List.append_nil, List.cons_append, List.nil_append, List.append_assoc] at q2
 obtain ⟨T3, x3, G3, q3, a3, m3, g3⟩ := bu (H ++ T1 ++ T2) _ _ (k3.ext.ext) (by first | omega | (simp only [wt_st, wts_cons, wts_nil, wt_str, wt_int, wt_bool]; omega))
 have y3 := a3
 obtain ⟨z3, _, rfl, zz3, _, _⟩ := AtF_slice.1 y3
 cases zz3
 have oz3 := (At_slice.1 (AtF.at _ a3))
 obtain ⟨_, _, x1, x2, _, oz3⟩ := oz3
 cases x1
 cases x2
 have oz3 := oz3.one
 simp only [valC, List.headD_cons, List.append_nil, List.cons_append, List.nil_append, List.append_assoc] at q3
 have hA : AtF (H ++ T1 ++ T2 ++ T3) shClass _ _ _ := AtF_st.2 ⟨_, rfl, AtsF_cons.2 ⟨[_], _, _, _, [], _, rfl, rfl, rfl, AtF_str.2 ⟨⟨_, rfl, rfl, w0⟩, rfl⟩, AtsF_cons.2 ⟨[_], _, _, _, G1, _, rfl, rfl, rfl, (a1.app.app), AtsF_cons.2 ⟨[_], _, _, _, G2, _, rfl, rfl, rfl, (a2.app), AtsF_cons.2 ⟨[_], _, _, _, G3, _, rfl, rfl, rfl, (a3), AtsF_nil.2 ⟨rfl, rfl, rfl⟩⟩⟩⟩⟩⟩
 simp only [List.append_assoc, List.nil_append, List.append_nil] at hA
 simp only [List.length_append] at g1 g2 g3
 have hge : ∀ q ∈ G1 ++ (G2 ++ (G3)), H.length ≤ q := by
  intro q hq
  try simp only [List.mem_append] at hq
  rcases hq with hq | hq | hq
  ·have := g1 q hq; omega
  ·have := g2 q hq; omega
  ·have := g3 q hq; omega
 have hnd : (G1 ++ (G2 ++ (G3))).Nodup := by
  have b1 := AtF.mem _ a1
  have b2 := AtF.mem _ a2
  have b3 := AtF.mem _ a3
  simp only [List.length_append] at b1 b2 b3
  refine List.nodup_append.2 ⟨m1, ?_, fun x hx y hy e => ?_⟩
  rotate_left
  ·subst e
   have := b1 x hx
   try simp only [List.mem_append] at hy
   rcases hy with hy | hy
   ·have := g2 x hy; omega
   ·have := g3 x hy; omega
  refine List.nodup_append.2 ⟨m2, ?_, fun x hx y hy e => ?_⟩
  rotate_left
  ·subst e
   have := b2 x hx
   try simp only [List.mem_append] at hy
   ·have := g3 x hy; omega
  exact m3
 obtain ⟨T, hT, hA⟩ := gcH_to hA hge
 simp only [List.cons_append, List.nil_append, List.append_nil] at hT
 apply Ret.to
 rw [JE]
 simp [uh, Tryz.f141, valC, hT, q1, q2, q3, o1, o2, o3, oz1, oz2, oz3]
 exact ⟨_, hA, hnd, hge⟩
theorem vK : dh 63 (.slice shClass) :=
 jQ (f := 63) (g := 141) (tS := 22) (tE := 189) (tS2 := 34) (tE2 := 208) (F := Tryz.f63) (op_ren (c := wF) (by kernel_rfl) Qb) rfl IE (by rw [ku]; rfl) (by rw [ku]; rfl) (by rw [ku]; decide) (by decide) IA sD rfl xm
theorem zL : dh 17 shTree := by
 intro H cs u h hwt
 replace h := At_st.1 h
 obtain ⟨us, rfl, h⟩ := h
 replace h := Ats_cons.1 h
 obtain ⟨c0, d0, u0, rr0, rfl, rfl, h0, h⟩ := h
 replace h := Ats_cons.1 h
 obtain ⟨c1, d1, u1, rr1, rfl, rfl, h1, h⟩ := h
 replace h := Ats_nil.1 h
 obtain ⟨rfl, rfl⟩ := h
 have k0 := h0
 replace h0 := At_slice.1 h0
 obtain ⟨v0, l0, rfl, rfl, w0, hv0⟩ := h0
 have o0 := hv0.one
 have k1 := h1
 replace h1 := At_slice.1 h1
 obtain ⟨v1, l1, rfl, rfl, w1, hv1⟩ := h1
 have o1 := hv1.one
 simp only [wt_st, wts_cons, wts_nil, wt_str, wt_int, wt_bool] at hwt
 obtain ⟨T0, x0, G0, q0, a0, m0, g0⟩ := vK (H) _ _ (k0) (by first | omega | (simp only [wt_st, wts_cons, wts_nil, wt_str, wt_int, wt_bool]; omega))
 have y0 := a0
 obtain ⟨z0, _, rfl, zz0, _, _⟩ := AtF_slice.1 y0
 cases zz0
 have oz0 := (At_slice.1 (AtF.at _ a0))
 obtain ⟨_, _, x1, x2, _, oz0⟩ := oz0
 cases x1
 cases x2
 have oz0 := oz0.one
 simp only [valC, List.headD_cons, List.append_nil, List.cons_append, List.nil_append, List.append_assoc] at q0
 obtain ⟨T1, x1, G1, q1, a1, m1, g1⟩ := uX (H ++ T0) _ _ (k1.ext) (by first | omega | (simp only [wt_st, wts_cons, wts_nil, wt_str, wt_int, wt_bool]; omega))
 have y1 := a1
 obtain ⟨z1, _, rfl, zz1, _, _⟩ := AtF_slice.1 y1
 cases zz1
 have oz1 := (At_slice.1 (AtF.at _ a1))
 obtain ⟨_, _, x1, x2, _, oz1⟩ := oz1
 cases x1
 cases x2
 have oz1 := oz1.one
 simp only [valC, List.headD_cons, List.append_nil, List.cons_append, List.nil_append, List.append_assoc] at q1
 have hA : AtF (H ++ T0 ++ T1) shTree _ _ _ := AtF_st.2 ⟨_, rfl, AtsF_cons.2 ⟨[_], _, _, _, G0, _, rfl, rfl, rfl, (a0.app), AtsF_cons.2 ⟨[_], _, _, _, G1, _, rfl, rfl, rfl, (a1), AtsF_nil.2 ⟨rfl, rfl, rfl⟩⟩⟩⟩
 simp only [List.append_assoc, List.nil_append, List.append_nil] at hA
 simp only [List.length_append] at g0 g1
 have hge : ∀ q ∈ G0 ++ (G1), H.length ≤ q := by
  intro q hq
  try simp only [List.mem_append] at hq
  rcases hq with hq | hq
  ·have := g0 q hq; omega
  ·have := g1 q hq; omega
 have hnd : (G0 ++ (G1)).Nodup := by
  have b0 := AtF.mem _ a0
  have b1 := AtF.mem _ a1
  simp only [List.length_append] at b0 b1
  refine List.nodup_append.2 ⟨m0, ?_, fun x hx y hy e => ?_⟩
  rotate_left
  ·subst e
   have := b0 x hx
   try simp only [List.mem_append] at hy
   ·have := g1 x hy; omega
  exact m1
 obtain ⟨T, hT, hA⟩ := gcH_to hA hge
 simp only [List.cons_append, List.nil_append, List.append_nil] at hT
 apply Ret.to
 rw [PN]
 simp [wO, Tryz.f17, valC, hT, q0, q1, o0, o1, oz0, oz1]
 exact ⟨_, hA, hnd, hge⟩
theorem au {H : List Ob} {k : Nat} (hk : k ≤ 100000000) : callW C 78 [.int .i64 k] H = some (.str (markStr k), H) := by
 apply Ret.eq
 rw [QO]
 by_cases h0 : k = 0
 ·subst h0
  simp [oM, Tryz.f78, markStr]
 ·have hp : ¬ ((k : Int) ≤ 0) := by omega
  simp [oM, Tryz.f78, hp, h0]
  refine WP_loop (fun m σ => ∃ (r : Nat → R) (out : Str) (G T : List Ob), G = H ++ T ∧ σ = ⟨r, 0, G⟩ ∧ r 0 = .val (.int .i64 m) ∧ r 3 = .val (.str out) ∧ markLoop k [] = markLoop m out ∧ m ≤ 100000000 ∧ out.length + m ≤ 100000000) ?_ k _ ⟨_, [], H, [], by simp, rfl, by simp, by simp, rfl, hk, by simpa using hk⟩
  rintro m σ ⟨r, out, G, T, hG, rfl, r0, r3, hm, m1, m2⟩
  by_cases hz : m = 0
  ·subst hz
   rw [markLoop_zero] at hm
   have hl : out.length + 1 ≤ maxStr := by unfold maxStr; omega
   have hl' : 1 + out.length ≤ maxStr := by unfold maxStr; omega
   subst hG
   simp [r0, r3, markStr, h0, hm, hl, hl']
  ·have hpm : (0 : Int) < (m : Int) := by omega
   have hr : ((m : Int).tmod 10) = (m : Int) % 10 := by rw [Int.tmod_eq_emod_of_nonneg (by omega)]
   have hw : IntKind.i64.wrap (48 + (m : Int) % 10) = 48 + (m : Int) % 10 := wrap_i64 (by omega) (by omega)
   have hu : IntKind.u8.wrap (48 + (m : Int) % 10) = 48 + (m : Int) % 10 := by unfold IntKind.wrap; simp [IntKind.bits, IntKind.signed]; omega
   have hn : (48 + (m : Int) % 10).toNat = 48 + m % 10 := by omega
   have hq : ((m : Int).tdiv 10) = (m : Int) / 10 := by rw [Int.tdiv_eq_ediv_of_nonneg (by omega)]
   have hw2 : IntKind.i64.wrap ((m : Int) / 10) = (m : Int) / 10 := wrap_i64 (by omega) (by omega)
   have hl' : 1 + out.length ≤ maxStr := by unfold maxStr; omega
   have hmp : 0 < m := by omega
   simp [r0, r3, hpm, elemT, hz, hr, hw, hq, hw2, hu, hn, hl', hmp, fillL, zerosL, slcCells, isByte, byteOfV]
   refine ⟨m / 10, by omega, _, (48 + UInt8.ofNat (m % 10)) :: out, _, ⟨T ++ _, by rw [hG, List.append_assoc]⟩, ⟨rfl, rfl⟩, by simp, by simp, ?_, by omega, by simp; omega⟩
   rw [hm, markLoop_step hz]
theorem dm {k : Nat} (h : k ≤ 50000000) : (markStr k).length ≤ maxLen := by
 have := markStr_len (k := k)
 unfold maxLen
 omega
def eU (f : Nat) (sh : Sh) : Prop := ∀ (H : List Ob) (cs : List V) (u : U) (F : List Nat) (k : Nat), AtF H sh cs u F → F.Nodup → k + cntV u ≤ 50000000 →
 ∃ H', callW C f [valC sh cs, .int .i64 k] H = some (.int .i64 ((k + cntV u : Nat) : Int), H') ∧ H'.length = H.length ∧ (∀ q, q ∉ F → H'[q]? = H[q]?) ∧ AtF H' sh cs (mkV u k) F
theorem Ret.mark {f : Nat} {a : List V} {H : List Ob} {n : Int} {P : List Ob → Prop} (h : Ret C f a H fun r H' => r = .int .i64 n ∧ P H') : ∃ H', callW C f a H = some (.int .i64 n, H') ∧ P H' := by
 obtain ⟨r, H', hc, rfl, h⟩ := h
 exact ⟨H', hc, h⟩
theorem aK {H H' : List Ob} {r : V} (h : H'.length = H.length) : gcH H H' r = H' := by
 unfold gcH
 split
 ·rename_i hc
  obtain ⟨⟨T, rfl⟩, _⟩ := hc
  simp at h
  rw [h, List.append_nil]
 ·rfl
theorem bG : eU 158 (.slice .str) := by
 intro H cs u F k h hn hk
 obtain ⟨v, l, rfl, rfl, hlen, hv⟩ := AtF_slice.1 h
 have hv := (AtF_slice.2 ⟨v, l, rfl, rfl, hlen, hv⟩).at
 obtain ⟨_, _, hx1, hx2, _, hv⟩ := At_slice.1 hv
 cases hx1; cases hx2
 apply Ret.mark
 rw [EL]
 simp only [cntV] at hk
 have hl64 : l.length ≤ 9223372036854775807 := hlen
 simp [uO, Tryz.f158, valC, -setRange]
 refine WP_loop (fun m σ => ∃ (i : Nat) (r : Nat → R) (G : List Ob), i + m = l.length ∧ σ = ⟨r, 0, G⟩ ∧ r 0 = .val v ∧ r 1 = .val (.int .i64 ((k + cntPs (l.take i) : Nat) : Int)) ∧ r 5 = .val (.int .i64 i) ∧ G.length = H.length ∧ (∀ q, q ∉ F → G[q]? = H[q]?) ∧ AtF G (.slice .str) [v] (.lst (mkPs (l.take i) k ++ l.drop i)) F) ?_ l.length _ ⟨0, _, H, by simp, rfl, by simp, by simp [cntPs], by simp, rfl, fun _ _ => rfl, by simpa [mkPs] using h⟩
 rintro m σ ⟨i, r, G, him, rfl, r0, r1, r5, g1, g2, g3⟩
 cases m with
 | zero =>
  have hi : i = l.length := by omega
  subst hi
  simp at g3
  simp [r0, r1, r5, hv.len, aK g1, cntV, mkV]
  exact ⟨g1, g2, g3⟩
 | succ m =>
  have hi : i < l.length := by omega
  obtain ⟨x, hx⟩ : ∃ x, l[i]? = some x := ⟨l[i], by simp [hi]⟩
  obtain ⟨id, off, cells, K, e0, e1, e2, e3, e4, e5, e6, e7, e8⟩ := AtF.elem g3 hn (i := i) (x := x) (by rw [mk_get hi, hx])
  have hL : (mkPs (l.take i) k ++ l.drop i).length = l.length := by simp [mkPs_len]; omega
  rw [hL] at e0
  subst e0
  obtain ⟨⟨s, e3, rfl, _⟩, rfl⟩ := AtF_str.1 e3
  have hcnt := cntPs_take hx
  have hle := cntPs_take_le (l := l) (i := i + 1)
  simp only [cntP] at hcnt
  have hm := au (H := G) (k := k + cntPs (l.take i)) (by omega)
  simp only [Sh.size_str, Nat.mul_one] at e1 e2 e8
  have st := store1 (v := .str (markStr (k + cntPs (l.take i)))) (o := off + i) e1 (by omega) rfl rfl
  have hre := e8 (G.set id (.mk true 1 (cells.set (off + i) (.str (markStr (k + cntPs (l.take i))))))) [.str (markStr (k + cntPs (l.take i)))] (.str (markStr (k + cntPs (l.take i)))) rfl
   (by rw [List.getElem?_set_self (List.getElem?_eq_some_iff.1 e1).1, setRange_one (by omega)]) (fun q _ hq _ => by rw [List.getElem?_set_ne (Ne.symm hq)]) (AtF_str.2 ⟨⟨_, rfl, rfl, dm (by omega)⟩, rfl⟩)
  have hmk := mk_set (k := k) hx
  simp only [mkP] at hmk
  rw [hmk] at hre
  have hw : IntKind.i64.wrap ((i : Int) + 1) = ((i : Int) + 1) := wrap_i64 (by omega) (by omega)
  have hw2 : IntKind.i64.wrap ((k : Int) + cntPs (l.take i) + 1) = (k : Int) + cntPs (l.take i) + 1 := wrap_i64 (by omega) (by omega)
  simp only [Int.natCast_add] at hm r1
  simp [r0, r1, r5, hi, hm, st, hw, hw2, -setRange]
  exact ⟨m, by omega, i + 1, by omega, _, _, ⟨rfl, rfl⟩, by simp [r0], by simp; omega, by simp, by simpa using g1, fun q hq => by rw [List.getElem?_set_ne (by rintro rfl; exact hq e6)]; exact g2 q hq, hre⟩
def aU (f : Nat) (sh : Sh) : Prop := ∀ (H : List Ob) (cs : List V) (u : U) (k : Nat), At H sh cs (mkV u k) → k + cntV u ≤ 50000000 →
 callW C f [valC sh cs, .int .i64 k] H = some (.int .i64 ((k + cntV u : Nat) : Int), H)
theorem aT : aU 253 (.slice .str) := by
 intro H cs u k h hk
 obtain ⟨v, l', rfl, hu, hlen, hv⟩ := At_slice.1 h
 obtain ⟨l, rfl, rfl⟩ := mkV_lst hu
 apply Ret.eq
 rw [JD]
 simp only [cntV] at hk ⊢
 have hl64 : (mkPs l k).length ≤ 9223372036854775807 := hlen
 rw [mkPs_len] at hl64
 have hvl := fun {e s b : Nat} {z : List V} => hv.len (e := e) (s := s) (b := b) (z := z)
 simp only [mkPs_len] at hvl
 simp [sU, Tryz.f253, valC]
 refine WP_loop (fun m σ => ∃ (i : Nat) (r : Nat → R), i + m = l.length ∧ σ = ⟨r, 0, H⟩ ∧ r 0 = .val v ∧ r 1 = .val (.int .i64 ((k + cntPs (l.take i) : Nat) : Int)) ∧ r 5 = .val (.int .i64 i)) ?_ l.length _ ⟨0, _, by simp, rfl, by simp, by simp [cntPs], by simp⟩
 rintro m σ ⟨i, r, him, rfl, r0, r1, r5⟩
 cases m with
 | zero =>
  have hi : i = l.length := by omega
  subst hi
  simp at r1
  simp [r0, r1, r5, hvl]
 | succ m =>
  have hi : i < l.length := by omega
  obtain ⟨x, hx⟩ : ∃ x, l[i]? = some x := ⟨l[i], by simp [hi]⟩
  obtain ⟨eid, o, own, cells, e1, e2, e3, e0⟩ := hv.idx (mkPs_get hx) (by decide)
  obtain ⟨s, e4, e5, e6⟩ := At_str.1 e0
  obtain ⟨⟨t, rfl⟩, rfl⟩ := mkP_str e5
  simp only [Sh.size_str] at e1
  have c0 : cells[o]? = some (.str (markStr (k + cntPs (l.take i)))) := by simpa using cells_get e4 (j := 0) rfl
  have ld := load1 e2 c0
  have hid : eid < H.length := (List.getElem?_eq_some_iff.1 e2).1
  have hcnt := cntPs_take hx
  have hle := cntPs_take_le (l := l) (i := i + 1)
  simp only [cntP] at hcnt
  have hm := au (H := H) (k := k + cntPs (l.take i)) (by omega)
  have hw : IntKind.i64.wrap ((i : Int) + 1) = ((i : Int) + 1) := wrap_i64 (by omega) (by omega)
  have hw2 : IntKind.i64.wrap ((k : Int) + cntPs (l.take i) + 1) = (k : Int) + cntPs (l.take i) + 1 := wrap_i64 (by omega) (by omega)
  simp only [Int.natCast_add] at hm r1
  simp [r0, r1, r5, hi, hvl, e1, ld, hid, hm, hw, hw2]
  exact ⟨m, by omega, i + 1, by omega, by omega, by omega⟩
end Go.Proofs.Try1
end
section
namespace Go.Lite
open Go
theorem ASl.ofSl {H : List Ob} {α : Type} {sh : Sh} {f : α → U} {v : V} {l : List α} (h : Sl H sh.size (At H sh) v (l.map f)) (hb : l.length ≤ maxLen) : ASl H sh f v l := At_slice.2 ⟨v, _, rfl, rfl, by simpa using hb, h⟩
theorem ASl.cut {H : List Ob} {α : Type} {sh : Sh} {f : α → U} {v : V} {l : List α} (h : ASl H sh f v l) {i : Nat} (hi : i ≤ l.length) :
  ∃ s1 s2 : V, ASl H sh f s1 (l.take i) ∧ ASl H sh f s2 (l.drop i) ∧
   ((v = .slc none 0 ∧ s1 = .slc none 0 ∧ s2 = .slc none 0 ∧ i = 0 ∧ l = []) ∨ ∃ id off, v = .slc (some (id, off)) l.length ∧ s1 = .slc (some (id, off)) i ∧ s2 = .slc (some (id, off + i * sh.size)) (l.length - i) ∧ ∀ G, (∃ S, G = H ++ S) → strideIs G id sh.size = true) := by
 have hb := h.bound
 rcases h.sl with ⟨rfl, h1⟩ | ⟨id, off, own, cells, hv, h2, h3, h4⟩
 ·have h0 : l = [] := by simpa using h1
  subst h0
  have hi0 : i = 0 := by simpa using hi
  subst hi0
  exact ⟨.slc none 0, .slc none 0, h, h, .inl ⟨rfl, rfl, rfl, rfl, rfl⟩⟩
 ·rw [List.length_map] at hv h3
  have hget : ∀ j, (l.map f)[j]? = (l[j]?).map f := fun j => List.getElem?_map
  refine ⟨.slc (some (id, off)) i, .slc (some (id, off + i * sh.size)) (l.length - i), ASl.ofSl (.inr ⟨id, off, own, cells, ?_, h2, ?_, fun j x hx => ?_⟩) ?_, ASl.ofSl (.inr ⟨id, off + i * sh.size, own, cells, ?_, h2, ?_, fun j x hx => ?_⟩) ?_, .inr ⟨id, off, hv, rfl, rfl, ?_⟩⟩
  ·simp; omega
  ·rw [List.length_map, List.length_take, Nat.min_eq_left hi]
   exact Nat.le_trans (Nat.add_le_add_left (Nat.mul_le_mul_right _ hi) _) h3
  ·rw [List.getElem?_map] at hx
   obtain ⟨y, hy, rfl⟩ := Option.map_eq_some_iff.1 hx
   have hj : j < i := by have := (List.getElem?_eq_some_iff.1 hy).1; simp at this; omega
   rw [List.getElem?_take_of_lt hj] at hy
   exact h4 j _ (by rw [hget, hy]; rfl)
  ·simp; omega
  ·simp
  ·rw [List.length_map, List.length_drop, Nat.add_assoc, ← Nat.add_mul, show i + (l.length - i) = l.length by omega]
   exact h3
  ·rw [List.getElem?_map, List.getElem?_drop] at hx
   obtain ⟨y, hy, rfl⟩ := Option.map_eq_some_iff.1 hx
   rw [Nat.add_assoc, ← Nat.add_mul]
   exact h4 (i + j) _ (by rw [hget, hy]; rfl)
  ·simp; omega
  ·rintro G ⟨S, rfl⟩
   unfold strideIs
   rw [up_append _ _ h2]
   simp
theorem AStrs.low {H T : List Ob} {w : V} {l : List Str} (h : AStrs (H ++ T) w l) (hl : lowV H w) : AStrs H w l := by
 rcases h.sl with ⟨hw, h1⟩ | ⟨id, off, own, cells, hv, h2, h3, h4⟩
 ·exact ASl.ofSl (.inl ⟨hw, h1⟩) h.bound
 ·rw [hv] at hl
  simp only [lowV] at hl
  obtain ⟨_, _, _, h0⟩ := hl
  have hid := (List.getElem?_eq_some_iff.1 h0).1
  rw [List.getElem?_append_left hid] at h2
  refine ASl.ofSl (.inr ⟨id, off, own, cells, hv, h2, h3, fun i x hx => ?_⟩) h.bound
  obtain ⟨s, e1, e2, e3⟩ := At_str.1 (h4 i x hx)
  exact At_str.2 ⟨s, e1, e2, e3⟩
theorem AStrs.gc {H X : List Ob} {w : V} {l : List Str} (h : AStrs (H ++ X) w l) : ∃ T, gcH H (H ++ X) w = H ++ T ∧ AStrs (H ++ T) w l := by
 unfold gcH
 split
 ·rename_i hc
  exact ⟨[], by simp, by simpa using h.low hc.2⟩
 ·exact ⟨X, rfl, h⟩
theorem AStrs.frame {G G' : List Ob} {w : V} {l : List Str} (h : AStrs G w l) (hf : ∀ q o n, w = .slc (some (q, o)) n → G'[q]? = G[q]?) : AStrs G' w l := by
 rcases h.sl with ⟨hw, h1⟩ | ⟨id, off, own, cells, hv, h2, h3, h4⟩
 ·exact ASl.ofSl (.inl ⟨hw, h1⟩) h.bound
 ·rw [← hf _ _ _ hv] at h2
  refine ASl.ofSl (.inr ⟨id, off, own, cells, hv, h2, h3, fun i x hx => ?_⟩) h.bound
  obtain ⟨s, e1, e2, e3⟩ := At_str.1 (h4 i x hx)
  exact At_str.2 ⟨s, e1, e2, e3⟩
theorem AStrs.lt {G : List Ob} {w : V} {l : List Str} (h : AStrs G w l) : ∀ q o n, w = .slc (some (q, o)) n → q < G.length := by
 rintro q o n rfl
 rcases h.sl with ⟨hw, h1⟩ | ⟨id, off, own, cells, hv, h2, h3, h4⟩
 ·cases hw
 ·cases hv
  exact (List.getElem?_eq_some_iff.1 h2).1
theorem appendV_frame {E : LT} {H H' : List Ob} {s x s' : V} (h : appendV E H s x = some (s', H')) :
  (∀ q, q < H.length → (∀ off n, s ≠ .slc (some (q, off)) n) → H'[q]? = H[q]?) ∧ (∀ q o n, s' = .slc (some (q, o)) n → (∃ o n, s = .slc (some (q, o)) n) ∨ H.length ≤ q) ∧ H.length ≤ H'.length := by
 unfold appendV at h
 split at h
 case isFalse => cases h
 split at h
 case h_1 => cases h
 rename_i xs m _
 split at h
 ·split at h
  ·cases h; exact ⟨fun _ _ _ => rfl, fun q o n he => (by cases he), Nat.le_refl _⟩
  ·cases h; exact ⟨fun _ _ _ => rfl, fun q o n he => .inl ⟨o, n, he⟩, Nat.le_refl _⟩
  ·cases h
 split at h
 case isFalse => cases h
 split at h
 ·split at h
  ·cases h
   refine ⟨fun q hq _ => List.getElem?_append_left hq, fun q o n he => ?_, by simp⟩
   cases he; exact .inr (Nat.le_refl _)
  ·cases h
 ·rename_i id off n
  split at h
  case h_2 => cases h
  split at h
  case isFalse => cases h
  split at h
  ·cases h
   refine ⟨fun q hq hne => List.getElem?_set_ne (fun e => hne off n (by rw [e])), fun q o n' he => .inl ?_, by simp⟩
   cases he; exact ⟨_, _, rfl⟩
  ·split at h
   case isFalse => cases h
   cases h
   refine ⟨fun q hq hne => ?_, fun q o n' he => .inr ?_, by simp⟩
   ·rw [List.getElem?_append_left (by rw [List.length_set]; exact hq), List.getElem?_set_ne (fun e => hne off n (by rw [e]))]
   ·cases he; exact Nat.le_refl _
 ·cases h
structure PWant where
 dn : Str
 login : Str
 mail : Str
 phone : Str
 code : Int
abbrev PWant.cs (w : PWant) : List V := [.str w.dn, .str w.login, .str w.mail, .str w.phone, .int .i64 w.code]
abbrev shWant : Sh := .st [.str, .str, .str, .str, .int .i64]
def PWant.u (w : PWant) : U := .st [.str w.dn, .str w.login, .str w.mail, .str w.phone, .int w.code]
def PWant.Small (w : PWant) : Prop := w.dn.length ≤ 1000 ∧ w.login.length ≤ 1000 ∧ w.mail.length ≤ 1000 ∧ w.phone.length ≤ 1000 ∧ 0 ≤ w.code ∧ w.code ≤ 100
theorem PWant.Small.new {w : PWant} (h : w.Small) {b e : Nat} {G : List Ob} : New b e G shWant w.cs w.u := by
 obtain ⟨h1, h2, h3, h4, h5, h6⟩ := h
 have hm : ∀ n, n ≤ 1000 → n ≤ maxLen := fun n h => by unfold maxLen; omega
 have hc : (Lit.int .i64 w.code).wf = true := by
  have := wf_nat (n := w.code.toNat) (by omega)
  rwa [show ((w.code.toNat : Nat) : Int) = w.code by omega] at this
 exact New.st (News.str (hm _ h1) (News.str (hm _ h2) (News.str (hm _ h3) (News.str (hm _ h4) (News.int hc News.nil)))))
theorem AStrs.apart {α : Type} {B G G' : List Ob} {sh : Sh} {f : α → U} {w wk : V} {l : List α} {kl : List Str} (h : LstF B G sh f w l) (hs : sh.size ≠ 1) (hk : AStrs G wk kl) (hf : ∀ q, q < G.length → (∀ off n, w ≠ .slc (some (q, off)) n) → G'[q]? = G[q]?) : AStrs G' wk kl := by
 refine hk.frame fun q o n hq => ?_
 rcases hk.sl with ⟨hw, _⟩ | ⟨id, off, own, cells, hv, h2, _⟩
 ·rw [hw] at hq; cases hq
 rw [hv] at hq
 simp only [V.slc.injEq, Option.some.injEq, Prod.mk.injEq] at hq
 obtain ⟨⟨rfl, rfl⟩, rfl⟩ := hq
 refine hf _ (List.getElem?_eq_some_iff.1 h2).1 fun off' n' hw => ?_
 obtain ⟨_, ⟨rfl, _⟩ | ⟨idw, cs, Fs, _, h4, rfl, _⟩⟩ := h
 ·cases hw
 ·simp only [V.slc.injEq, Option.some.injEq, Prod.mk.injEq] at hw
  obtain ⟨⟨rfl, _⟩, _⟩ := hw
  rw [h2] at h4
  simp at h4
  exact hs h4.2.1.symm
end Go.Lite
end
section
namespace Go.Proofs.Try1
open Go Go.Lite
theorem lF : eU 73 (.slice shRdn) := by
 intro H cs u F k h hn hk
 obtain ⟨v, l, rfl, rfl, hlen, hv⟩ := AtF_slice.1 h
 have hv := (AtF_slice.2 ⟨v, l, rfl, rfl, hlen, hv⟩).at
 obtain ⟨_, _, hx1, hx2, _, hv⟩ := At_slice.1 hv
 cases hx1; cases hx2
 apply Ret.mark
 rw [QA]
 simp only [cntV] at hk
 have hl64 : l.length ≤ 9223372036854775807 := hlen
 simp [yQ, Tryz.f73, valC, -setRange]
 refine WP_loop (fun m σ => ∃ (i : Nat) (r : Nat → R) (G : List Ob), i + m = l.length ∧ σ = ⟨r, 0, G⟩ ∧ r 0 = .val v ∧ r 1 = .val (.int .i64 ((k + cntPs (l.take i) : Nat) : Int)) ∧ r 5 = .val (.int .i64 i) ∧ G.length = H.length ∧ (∀ q, q ∉ F → G[q]? = H[q]?) ∧ AtF G (.slice shRdn) [v] (.lst (mkPs (l.take i) k ++ l.drop i)) F) ?_ l.length _ ⟨0, _, H, by simp, rfl, by simp, by simp [cntPs], by simp, rfl, fun _ _ => rfl, by simpa [mkPs] using h⟩
 rintro m σ ⟨i, r, G, him, rfl, r0, r1, r5, g1, g2, g3⟩
 cases m with
 | zero =>
  have hi : i = l.length := by omega
  subst hi
  simp at g3
  simp [r0, r1, r5, hv.len, aK g1, cntV, mkV]
  exact ⟨g1, g2, g3⟩
 | succ m =>
  have hi : i < l.length := by omega
  obtain ⟨x, hx⟩ : ∃ x, l[i]? = some x := ⟨l[i], by simp [hi]⟩
  have hx0 : (mkPs (l.take i) k ++ l.drop i)[i]? = some x := by rw [mk_get hi, hx]
  have hmk := mk_set (k := k) hx
  have hcnt := cntPs_take hx
  have hle := cntPs_take_le (l := l) (i := i + 1)
  have hL : (mkPs (l.take i) k ++ l.drop i).length = l.length := by simp [mkPs_len]; omega
  obtain ⟨L, hLd⟩ : ∃ L, L = mkPs (l.take i) k ++ l.drop i := ⟨_, rfl⟩
  rw [← hLd] at hx0 hmk hL g3
  clear hLd
  obtain ⟨id, off, cells, K, e0, e1, e2, e3, e4, e5, e6, e7, e8⟩ := AtF.elem g3 hn hx0
  clear e1 e2 e4 e5 e7 e8
  rw [hL] at e0
  subst e0
  generalize List.take (shRdn).size (List.drop (off + i * (shRdn).size) cells) = cc at e3
  replace e3 := AtF_st.1 e3
  obtain ⟨us, rfl, e3⟩ := e3
  replace e3 := AtsF_cons.1 e3
  obtain ⟨c0, d0, u0, rr0, F0, E0, rfl, rfl, rfl, h0, e3⟩ := e3
  replace e3 := AtsF_cons.1 e3
  obtain ⟨c1, d1, u1, rr1, F1, E1, rfl, rfl, rfl, h1, e3⟩ := e3
  replace e3 := AtsF_nil.1 e3
  obtain ⟨rfl, rfl, rfl⟩ := e3
  replace h0 := AtF_str.1 h0
  obtain ⟨⟨s0, rfl, rfl, w0⟩, rfl⟩ := h0
  replace h1 := AtF_str.1 h1
  obtain ⟨⟨s1, rfl, rfl, w1⟩, rfl⟩ := h1
  simp only [cntP, cntPs_cons, cntPs_nil, Nat.add_zero] at hcnt
  obtain ⟨kk, hkk⟩ : ∃ kk, kk = k + cntPs (l.take i) := ⟨_, rfl⟩
  rw [← hkk] at r1
  obtain ⟨id0, off0, cells0, w0, K0, ev0, eg0, ei0, ek0, ew0, ea0, en0, es0, er0, et0⟩ := AtF.field [] g3 hn (i := i) (us1 := []) (u := (.str s0)) (us2 := [(.str s1)]) hx0 rfl rfl
  simp only [V.slc.injEq, Option.some.injEq, Prod.mk.injEq] at ev0
  obtain ⟨⟨rfl, rfl⟩, _⟩ := ev0
  simp only [shRdn, Sh.size_st, Sh.sizes_cons, Sh.sizes_nil, Sh.size_str, Sh.size_slice, Sh.size_int, Sh.size_bool, List.cons_append, List.nil_append, Nat.reduceAdd, Nat.add_zero] at eg0 ew0 et0 er0
  obtain ⟨_, rfl⟩ := AtF_str.1 ea0
  have q0 := au (H := G) (k := kk) (by omega)
  have st0 := store1 (v := (.str (markStr kk))) eg0 (List.getElem?_eq_some_iff.1 ew0).1 rfl rfl
  have A0 := et0 (.str (markStr kk)) (.str (markStr kk)) (AtF_str.2 ⟨⟨_, rfl, rfl, dm (by omega)⟩, rfl⟩)
  obtain ⟨G0, hG0⟩ : ∃ G', G' = G.set id (.mk true 2 (cells0.set (off + i * 2) (.str (markStr kk)))) := ⟨_, rfl⟩
  rw [← hG0] at st0 A0
  have ln0 : G0.length = H.length := by rw [hG0, List.length_set]; exact g1
  have fr0 : ∀ q, q ∉ F → G0[q]? = H[q]? := fun q hq => by rw [hG0, List.getElem?_set_ne (by rintro rfl; exact hq e6)]; exact g2 q hq
  clear hG0
  obtain ⟨kk0, hkk0⟩ : ∃ n, n = kk + 1 := ⟨_, rfl⟩
  have hw0 : IntKind.i64.wrap ((kk : Int) + 1) = (kk0 : Int) := by rw [wrap_i64 (by omega) (by omega)]; omega
  have hx0_ : (L.set i (.st [(.str (markStr kk)), (.str s1)]))[i]? = some (.st [(.str (markStr kk)), (.str s1)]) := List.getElem?_set_self (by omega)
  obtain ⟨id1, off1, cells1, w1, K1, ev1, eg1, ei1, ek1, ew1, ea1, en1, es1, er1, et1⟩ := AtF.field [.str] A0 hn (i := i) (us1 := [(.str (markStr kk))]) (u := (.str s1)) (us2 := []) hx0_ rfl rfl
  simp only [V.slc.injEq, Option.some.injEq, Prod.mk.injEq] at ev1
  obtain ⟨⟨rfl, rfl⟩, _⟩ := ev1
  simp only [shRdn, Sh.size_st, Sh.sizes_cons, Sh.sizes_nil, Sh.size_str, Sh.size_slice, Sh.size_int, Sh.size_bool, List.cons_append, List.nil_append, Nat.reduceAdd, Nat.add_zero] at eg1 ew1 et1 er1
  obtain ⟨_, rfl⟩ := AtF_str.1 ea1
  have q1 := au (H := G0) (k := kk0) (by omega)
  have st1 := store1 (v := (.str (markStr kk0))) eg1 (List.getElem?_eq_some_iff.1 ew1).1 rfl rfl
  have A1 := et1 (.str (markStr kk0)) (.str (markStr kk0)) (AtF_str.2 ⟨⟨_, rfl, rfl, dm (by omega)⟩, rfl⟩)
  obtain ⟨G1, hG1⟩ : ∃ G', G' = G0.set id (.mk true 2 (cells1.set (off + i * 2 + 1) (.str (markStr kk0)))) := ⟨_, rfl⟩
  rw [← hG1] at st1 A1
  have ln1 : G1.length = H.length := by rw [hG1, List.length_set]; exact ln0
  have fr1 : ∀ q, q ∉ F → G1[q]? = H[q]? := fun q hq => by rw [hG1, List.getElem?_set_ne (by rintro rfl; exact hq e6)]; exact fr0 q hq
  clear hG1
  obtain ⟨kk1, hkk1⟩ : ∃ n, n = kk0 + 1 := ⟨_, rfl⟩
  have hw1 : IntKind.i64.wrap ((kk0 : Int) + 1) = (kk1 : Int) := by rw [wrap_i64 (by omega) (by omega)]; omega
  rw [List.set_set] at A1
  have hx1_ : (L.set i (.st [(.str (markStr kk)), (.str (markStr kk0))]))[i]? = some (.st [(.str (markStr kk)), (.str (markStr kk0))]) := List.getElem?_set_self (by omega)
  have hks : k + cntPs (l.take (i + 1)) = kk1 := by omega
  rw [show L.set i (.st [(.str (markStr kk)), (.str (markStr kk0))]) = _ from (by simp only [hkk0, hkk1, hkk]; exact hmk)] at A1
  have hw : IntKind.i64.wrap ((i : Int) + 1) = ((i : Int) + 1) := wrap_i64 (by omega) (by omega)
  have hix : i + 1 ≤ l.length := hi
  simp [r0, r1, r5, hi, hw, q0, st0, hw0, q1, st1, hw1, -setRange]
  exact ⟨m, by omega, i + 1, by omega, _, _, ⟨rfl, rfl⟩, by simp [r0], by simp; omega, by simp, ln1, fr1, A1⟩
theorem fQ : aU 252 (.slice shRdn) := by
 intro H cs u k h hk
 obtain ⟨v, l', rfl, hu, hlen, hv⟩ := At_slice.1 h
 obtain ⟨l, rfl, rfl⟩ := mkV_lst hu
 apply Ret.eq
 rw [EU]
 simp only [cntV] at hk ⊢
 have hl64 : (mkPs l k).length ≤ 9223372036854775807 := hlen
 rw [mkPs_len] at hl64
 have hvl := fun {e s b : Nat} {z : List V} => hv.len (e := e) (s := s) (b := b) (z := z)
 simp only [mkPs_len] at hvl
 simp [sW, Tryz.f252, valC]
 refine WP_loop (fun m σ => ∃ (i kk : Nat) (r : Nat → R), i + m = l.length ∧ kk = k + cntPs (l.take i) ∧ σ = ⟨r, 0, H⟩ ∧ r 0 = .val v ∧ r 1 = .val (.int .i64 kk) ∧ r 5 = .val (.int .i64 i)) ?_ l.length _ ⟨0, k, _, by simp, by simp [cntPs], rfl, by simp, by simp, by simp⟩
 rintro m σ ⟨i, kk, r, him, hkk, rfl, r0, r1, r5⟩
 cases m with
 | zero =>
  have hi : i = l.length := by omega
  subst hi
  rw [List.take_length] at hkk
  simp [r0, r1, r5, hvl, hkk]
 | succ m =>
  have hi : i < l.length := by omega
  obtain ⟨x, hx⟩ : ∃ x, l[i]? = some x := ⟨l[i], by simp [hi]⟩
  obtain ⟨eid, o, own, cells, e1, e2, e3, e0⟩ := hv.idx (mkPs_get hx) (by decide)
  rw [← hkk] at e0
  have hcnt := cntPs_take hx
  have hle := cntPs_take_le (l := l) (i := i + 1)
  have hid : eid < H.length := (List.getElem?_eq_some_iff.1 e2).1
  have hw : IntKind.i64.wrap ((i : Int) + 1) = ((i : Int) + 1) := wrap_i64 (by omega) (by omega)
  obtain ⟨us0, hu0, E0⟩ := At_st.1 e0
  obtain ⟨us0, rfl, rfl⟩ := mkP_st hu0
  obtain ⟨c0, d0, u0, rr0, hc0, hu, h0, E1⟩ := Ats_cons.1 E0
  obtain ⟨u0, us0, rfl, rfl, rfl⟩ := mkPs_cons hu
  obtain ⟨s0, rfl, hs, _⟩ := At_str.1 h0
  obtain ⟨⟨t0, rfl⟩, rfl⟩ := mkP_str hs
  obtain ⟨kk1, hkk1⟩ : ∃ n, n = kk + cntP (.str t0) := ⟨_, rfl⟩
  rw [← hkk1] at E1
  obtain ⟨c1, d1, u1, rr1, rfl, hu, h1, E2⟩ := Ats_cons.1 E1
  obtain ⟨u1, us0, rfl, rfl, rfl⟩ := mkPs_cons hu
  obtain ⟨s1, rfl, hs, _⟩ := At_str.1 h1
  obtain ⟨⟨t1, rfl⟩, rfl⟩ := mkP_str hs
  obtain ⟨kk2, hkk2⟩ : ∃ n, n = kk1 + cntP (.str t1) := ⟨_, rfl⟩
  rw [← hkk2] at E2
  obtain ⟨rfl, hun⟩ := Ats_nil.1 E2
  obtain rfl := mkPs_nil hun
  simp only [List.cons_append, List.nil_append, List.append_nil] at hc0
  simp only [cntP_st, cntPs_cons, cntPs_nil, cntP_str, cntP_int, cntP_bool, Nat.add_zero] at hcnt hkk1 hkk2
  have ld0 := load1 e2 (by simpa using cells_get hc0 (j := 0) rfl)
  have hm0 := au (H := H) (k := kk) (by omega)
  have hw0 : IntKind.i64.wrap ((kk : Int) + 1) = (kk1 : Int) := by rw [wrap_i64 (by omega) (by omega)]; omega
  have ld1 := load1 e2 (by simpa using cells_get hc0 (j := 1) rfl)
  have hm1 := au (H := H) (k := kk1) (by omega)
  have hw1 : IntKind.i64.wrap ((kk1 : Int) + 1) = (kk2 : Int) := by rw [wrap_i64 (by omega) (by omega)]; omega
  rw [show (shRdn).size = 2 from rfl] at e1
  simp [r0, r1, r5, hi, hvl, e1, hid, hw, ld0, hm0, hw0, ld1, hm1, hw1]
  exact ⟨m, by omega, i + 1, by omega, by omega, by omega⟩
theorem nU : eU 159 (.slice shAttr) := by
 intro H cs u F k h hn hk
 obtain ⟨v, l, rfl, rfl, hlen, hv⟩ := AtF_slice.1 h
 have hv := (AtF_slice.2 ⟨v, l, rfl, rfl, hlen, hv⟩).at
 obtain ⟨_, _, hx1, hx2, _, hv⟩ := At_slice.1 hv
 cases hx1; cases hx2
 apply Ret.mark
 rw [Ew]
 simp only [cntV] at hk
 have hl64 : l.length ≤ 9223372036854775807 := hlen
 simp [qL, Tryz.f159, valC, -setRange]
 refine WP_loop (fun m σ => ∃ (i : Nat) (r : Nat → R) (G : List Ob), i + m = l.length ∧ σ = ⟨r, 0, G⟩ ∧ r 0 = .val v ∧ r 1 = .val (.int .i64 ((k + cntPs (l.take i) : Nat) : Int)) ∧ r 5 = .val (.int .i64 i) ∧ G.length = H.length ∧ (∀ q, q ∉ F → G[q]? = H[q]?) ∧ AtF G (.slice shAttr) [v] (.lst (mkPs (l.take i) k ++ l.drop i)) F) ?_ l.length _ ⟨0, _, H, by simp, rfl, by simp, by simp [cntPs], by simp, rfl, fun _ _ => rfl, by simpa [mkPs] using h⟩
 rintro m σ ⟨i, r, G, him, rfl, r0, r1, r5, g1, g2, g3⟩
 cases m with
 | zero =>
  have hi : i = l.length := by omega
  subst hi
  simp at g3
  simp [r0, r1, r5, hv.len, aK g1, cntV, mkV]
  exact ⟨g1, g2, g3⟩
 | succ m =>
  have hi : i < l.length := by omega
  obtain ⟨x, hx⟩ : ∃ x, l[i]? = some x := ⟨l[i], by simp [hi]⟩
  have hx0 : (mkPs (l.take i) k ++ l.drop i)[i]? = some x := by rw [mk_get hi, hx]
  have hmk := mk_set (k := k) hx
  have hcnt := cntPs_take hx
  have hle := cntPs_take_le (l := l) (i := i + 1)
  have hL : (mkPs (l.take i) k ++ l.drop i).length = l.length := by simp [mkPs_len]; omega
  obtain ⟨L, hLd⟩ : ∃ L, L = mkPs (l.take i) k ++ l.drop i := ⟨_, rfl⟩
  rw [← hLd] at hx0 hmk hL g3
  clear hLd
  obtain ⟨id, off, cells, K, e0, e1, e2, e3, e4, e5, e6, e7, e8⟩ := AtF.elem g3 hn hx0
  clear e1 e2 e4 e5 e7 e8
  rw [hL] at e0
  subst e0
  generalize List.take (shAttr).size (List.drop (off + i * (shAttr).size) cells) = cc at e3
  replace e3 := AtF_st.1 e3
  obtain ⟨us, rfl, e3⟩ := e3
  replace e3 := AtsF_cons.1 e3
  obtain ⟨c0, d0, u0, rr0, F0, E0, rfl, rfl, rfl, h0, e3⟩ := e3
  replace e3 := AtsF_cons.1 e3
  obtain ⟨c1, d1, u1, rr1, F1, E1, rfl, rfl, rfl, h1, e3⟩ := e3
  replace e3 := AtsF_nil.1 e3
  obtain ⟨rfl, rfl, rfl⟩ := e3
  replace h0 := AtF_str.1 h0
  obtain ⟨⟨s0, rfl, rfl, w0⟩, rfl⟩ := h0
  have k1 := h1
  replace h1 := AtF_slice.1 h1
  obtain ⟨v1, l1, rfl, rfl, w1, hv1⟩ := h1
  have o1 := (At_slice.1 (AtF.at _ k1))
  obtain ⟨_, _, x1, x2, _, o1⟩ := o1
  cases x1
  cases x2
  have o1 := o1.one
  simp only [cntP, cntPs_cons, cntPs_nil, Nat.add_zero] at hcnt
  obtain ⟨kk, hkk⟩ : ∃ kk, kk = k + cntPs (l.take i) := ⟨_, rfl⟩
  rw [← hkk] at r1
  obtain ⟨id0, off0, cells0, w0, K0, ev0, eg0, ei0, ek0, ew0, ea0, en0, es0, er0, et0⟩ := AtF.field [] g3 hn (i := i) (us1 := []) (u := (.str s0)) (us2 := [(.lst l1)]) hx0 rfl rfl
  simp only [V.slc.injEq, Option.some.injEq, Prod.mk.injEq] at ev0
  obtain ⟨⟨rfl, rfl⟩, _⟩ := ev0
  simp only [shAttr, Sh.size_st, Sh.sizes_cons, Sh.sizes_nil, Sh.size_str, Sh.size_slice, Sh.size_int, Sh.size_bool, List.cons_append, List.nil_append, Nat.reduceAdd, Nat.add_zero] at eg0 ew0 et0 er0
  obtain ⟨_, rfl⟩ := AtF_str.1 ea0
  have q0 := au (H := G) (k := kk) (by omega)
  have st0 := store1 (v := (.str (markStr kk))) eg0 (List.getElem?_eq_some_iff.1 ew0).1 rfl rfl
  have A0 := et0 (.str (markStr kk)) (.str (markStr kk)) (AtF_str.2 ⟨⟨_, rfl, rfl, dm (by omega)⟩, rfl⟩)
  obtain ⟨G0, hG0⟩ : ∃ G', G' = G.set id (.mk true 2 (cells0.set (off + i * 2) (.str (markStr kk)))) := ⟨_, rfl⟩
  rw [← hG0] at st0 A0
  have ln0 : G0.length = H.length := by rw [hG0, List.length_set]; exact g1
  have fr0 : ∀ q, q ∉ F → G0[q]? = H[q]? := fun q hq => by rw [hG0, List.getElem?_set_ne (by rintro rfl; exact hq e6)]; exact g2 q hq
  clear hG0
  obtain ⟨kk0, hkk0⟩ : ∃ n, n = kk + 1 := ⟨_, rfl⟩
  have hw0 : IntKind.i64.wrap ((kk : Int) + 1) = (kk0 : Int) := by rw [wrap_i64 (by omega) (by omega)]; omega
  have hx0_ : (L.set i (.st [(.str (markStr kk)), (.lst l1)]))[i]? = some (.st [(.str (markStr kk)), (.lst l1)]) := List.getElem?_set_self (by omega)
  obtain ⟨id1, off1, cells1, w1, K1, ev1, eg1, ei1, ek1, ew1, ea1, en1, es1, er1, et1⟩ := AtF.field [.str] A0 hn (i := i) (us1 := [(.str (markStr kk))]) (u := (.lst l1)) (us2 := []) hx0_ rfl rfl
  simp only [V.slc.injEq, Option.some.injEq, Prod.mk.injEq] at ev1
  obtain ⟨⟨rfl, rfl⟩, _⟩ := ev1
  simp only [shAttr, Sh.size_st, Sh.sizes_cons, Sh.sizes_nil, Sh.size_str, Sh.size_slice, Sh.size_int, Sh.size_bool, List.cons_append, List.nil_append, Nat.reduceAdd, Nat.add_zero] at eg1 ew1 et1 er1
  obtain ⟨G1, q1, ln1, fr1, ma1⟩ := bG G0 [w1] _ K1 kk0 ea1 en1 (by simp only [cntPV, cntP]; omega)
  simp only [valC, List.headD_cons] at q1
  have ld1 := load1 eg1 ew1
  have A1 := er1 G1 (.lst (mkPs l1 kk0)) (fun q _ hq => fr1 q hq) ma1
  have ln1 : G1.length = H.length := by rw [ln1]; first | exact g1 | exact ln0
  have fr1 : ∀ q, q ∉ F → G1[q]? = H[q]? := fun q hq => by rw [fr1 q fun h => hq (es1 q h)]; first | exact g2 q hq | exact fr0 q hq
  obtain ⟨kk1, hkk1⟩ : ∃ n, n = kk0 + cntP (.lst l1) := ⟨_, rfl⟩
  rw [cntPV, ← hkk1] at q1
  simp only [cntP] at hkk1
  rw [List.set_set] at A1
  have hx1_ : (L.set i (.st [(.str (markStr kk)), (.lst (mkPs l1 kk0))]))[i]? = some (.st [(.str (markStr kk)), (.lst (mkPs l1 kk0))]) := List.getElem?_set_self (by omega)
  have hks : k + cntPs (l.take (i + 1)) = kk1 := by omega
  rw [show L.set i (.st [(.str (markStr kk)), (.lst (mkPs l1 kk0))]) = _ from (by simp only [hkk0, hkk1, hkk]; exact hmk)] at A1
  have hw : IntKind.i64.wrap ((i : Int) + 1) = ((i : Int) + 1) := wrap_i64 (by omega) (by omega)
  have hix : i + 1 ≤ l.length := hi
  simp [r0, r1, r5, hi, hw, q0, st0, hw0, q1, ld1, -setRange]
  exact ⟨m, by omega, i + 1, by omega, _, _, ⟨rfl, rfl⟩, by simp [r0], by simp; omega, by simp, ln1, fr1, A1⟩
theorem jk : aU 255 (.slice shAttr) := by
 intro H cs u k h hk
 obtain ⟨v, l', rfl, hu, hlen, hv⟩ := At_slice.1 h
 obtain ⟨l, rfl, rfl⟩ := mkV_lst hu
 apply Ret.eq
 rw [EG]
 simp only [cntV] at hk ⊢
 have hl64 : (mkPs l k).length ≤ 9223372036854775807 := hlen
 rw [mkPs_len] at hl64
 have hvl := fun {e s b : Nat} {z : List V} => hv.len (e := e) (s := s) (b := b) (z := z)
 simp only [mkPs_len] at hvl
 simp [qh, Tryz.f255, valC]
 refine WP_loop (fun m σ => ∃ (i kk : Nat) (r : Nat → R), i + m = l.length ∧ kk = k + cntPs (l.take i) ∧ σ = ⟨r, 0, H⟩ ∧ r 0 = .val v ∧ r 1 = .val (.int .i64 kk) ∧ r 5 = .val (.int .i64 i)) ?_ l.length _ ⟨0, k, _, by simp, by simp [cntPs], rfl, by simp, by simp, by simp⟩
 rintro m σ ⟨i, kk, r, him, hkk, rfl, r0, r1, r5⟩
 cases m with
 | zero =>
  have hi : i = l.length := by omega
  subst hi
  rw [List.take_length] at hkk
  simp [r0, r1, r5, hvl, hkk]
 | succ m =>
  have hi : i < l.length := by omega
  obtain ⟨x, hx⟩ : ∃ x, l[i]? = some x := ⟨l[i], by simp [hi]⟩
  obtain ⟨eid, o, own, cells, e1, e2, e3, e0⟩ := hv.idx (mkPs_get hx) (by decide)
  rw [← hkk] at e0
  have hcnt := cntPs_take hx
  have hle := cntPs_take_le (l := l) (i := i + 1)
  have hid : eid < H.length := (List.getElem?_eq_some_iff.1 e2).1
  have hw : IntKind.i64.wrap ((i : Int) + 1) = ((i : Int) + 1) := wrap_i64 (by omega) (by omega)
  obtain ⟨us0, hu0, E0⟩ := At_st.1 e0
  obtain ⟨us0, rfl, rfl⟩ := mkP_st hu0
  obtain ⟨c0, d0, u0, rr0, hc0, hu, h0, E1⟩ := Ats_cons.1 E0
  obtain ⟨u0, us0, rfl, rfl, rfl⟩ := mkPs_cons hu
  obtain ⟨s0, rfl, hs, _⟩ := At_str.1 h0
  obtain ⟨⟨t0, rfl⟩, rfl⟩ := mkP_str hs
  obtain ⟨kk1, hkk1⟩ : ∃ n, n = kk + cntP (.str t0) := ⟨_, rfl⟩
  rw [← hkk1] at E1
  obtain ⟨c1, d1, u1, rr1, rfl, hu, h1, E2⟩ := Ats_cons.1 E1
  obtain ⟨u1, us0, rfl, rfl, rfl⟩ := mkPs_cons hu
  have k1 := h1
  obtain ⟨v1, l1, rfl, hs, _, _⟩ := At_slice.1 h1
  obtain ⟨m1, rfl, rfl⟩ := mkP_lst hs
  obtain ⟨kk2, hkk2⟩ : ∃ n, n = kk1 + cntP (.lst m1) := ⟨_, rfl⟩
  rw [← hkk2] at E2
  obtain ⟨rfl, hun⟩ := Ats_nil.1 E2
  obtain rfl := mkPs_nil hun
  simp only [List.cons_append, List.nil_append, List.append_nil] at hc0
  simp only [cntP_st, cntPs_cons, cntPs_nil, cntP_str, cntP_int, cntP_bool, Nat.add_zero] at hcnt hkk1 hkk2
  have ld0 := load1 e2 (by simpa using cells_get hc0 (j := 0) rfl)
  have hm0 := au (H := H) (k := kk) (by omega)
  have hw0 : IntKind.i64.wrap ((kk : Int) + 1) = (kk1 : Int) := by rw [wrap_i64 (by omega) (by omega)]; omega
  have ld1 := load1 e2 (by simpa using cells_get hc0 (j := 1) rfl)
  have q1 := aT H [v1] (.lst m1) kk1 k1 (by rw [cntPV]; omega)
  rw [cntPV, ← hkk2] at q1
  simp only [valC, List.headD_cons] at q1
  have p1 : ¬ ((kk2 : Int) < 0) := by omega
  rw [show (shAttr).size = 2 from rfl] at e1
  simp [r0, r1, r5, hi, hvl, e1, hid, hw, ld0, hm0, hw0, ld1, q1, p1]
  exact ⟨m, by omega, i + 1, by omega, by omega, by omega⟩
theorem uZ : eU 76 (.slice shClass) := by
 intro H cs u F k h hn hk
 obtain ⟨v, l, rfl, rfl, hlen, hv⟩ := AtF_slice.1 h
 have hv := (AtF_slice.2 ⟨v, l, rfl, rfl, hlen, hv⟩).at
 obtain ⟨_, _, hx1, hx2, _, hv⟩ := At_slice.1 hv
 cases hx1; cases hx2
 apply Ret.mark
 rw [Qp]
 simp only [cntV] at hk
 have hl64 : l.length ≤ 9223372036854775807 := hlen
 simp [yP, Tryz.f76, valC, -setRange]
 refine WP_loop (fun m σ => ∃ (i : Nat) (r : Nat → R) (G : List Ob), i + m = l.length ∧ σ = ⟨r, 0, G⟩ ∧ r 0 = .val v ∧ r 1 = .val (.int .i64 ((k + cntPs (l.take i) : Nat) : Int)) ∧ r 5 = .val (.int .i64 i) ∧ G.length = H.length ∧ (∀ q, q ∉ F → G[q]? = H[q]?) ∧ AtF G (.slice shClass) [v] (.lst (mkPs (l.take i) k ++ l.drop i)) F) ?_ l.length _ ⟨0, _, H, by simp, rfl, by simp, by simp [cntPs], by simp, rfl, fun _ _ => rfl, by simpa [mkPs] using h⟩
 rintro m σ ⟨i, r, G, him, rfl, r0, r1, r5, g1, g2, g3⟩
 cases m with
 | zero =>
  have hi : i = l.length := by omega
  subst hi
  simp at g3
  simp [r0, r1, r5, hv.len, aK g1, cntV, mkV]
  exact ⟨g1, g2, g3⟩
 | succ m =>
  have hi : i < l.length := by omega
  obtain ⟨x, hx⟩ : ∃ x, l[i]? = some x := ⟨l[i], by simp [hi]⟩
  have hx0 : (mkPs (l.take i) k ++ l.drop i)[i]? = some x := by rw [mk_get hi, hx]
  have hmk := mk_set (k := k) hx
  have hcnt := cntPs_take hx
  have hle := cntPs_take_le (l := l) (i := i + 1)
  have hL : (mkPs (l.take i) k ++ l.drop i).length = l.length := by simp [mkPs_len]; omega
  obtain ⟨L, hLd⟩ : ∃ L, L = mkPs (l.take i) k ++ l.drop i := ⟨_, rfl⟩
  rw [← hLd] at hx0 hmk hL g3
  clear hLd
  obtain ⟨id, off, cells, K, e0, e1, e2, e3, e4, e5, e6, e7, e8⟩ := AtF.elem g3 hn hx0
  clear e1 e2 e4 e5 e7 e8
  rw [hL] at e0
  subst e0
  generalize List.take (shClass).size (List.drop (off + i * (shClass).size) cells) = cc at e3
  replace e3 := AtF_st.1 e3
  obtain ⟨us, rfl, e3⟩ := e3
  replace e3 := AtsF_cons.1 e3
  obtain ⟨c0, d0, u0, rr0, F0, E0, rfl, rfl, rfl, h0, e3⟩ := e3
  replace e3 := AtsF_cons.1 e3
  obtain ⟨c1, d1, u1, rr1, F1, E1, rfl, rfl, rfl, h1, e3⟩ := e3
  replace e3 := AtsF_cons.1 e3
  obtain ⟨c2, d2, u2, rr2, F2, E2, rfl, rfl, rfl, h2, e3⟩ := e3
  replace e3 := AtsF_cons.1 e3
  obtain ⟨c3, d3, u3, rr3, F3, E3, rfl, rfl, rfl, h3, e3⟩ := e3
  replace e3 := AtsF_nil.1 e3
  obtain ⟨rfl, rfl, rfl⟩ := e3
  replace h0 := AtF_str.1 h0
  obtain ⟨⟨s0, rfl, rfl, w0⟩, rfl⟩ := h0
  have k1 := h1
  replace h1 := AtF_slice.1 h1
  obtain ⟨v1, l1, rfl, rfl, w1, hv1⟩ := h1
  have o1 := (At_slice.1 (AtF.at _ k1))
  obtain ⟨_, _, x1, x2, _, o1⟩ := o1
  cases x1
  cases x2
  have o1 := o1.one
  have k2 := h2
  replace h2 := AtF_slice.1 h2
  obtain ⟨v2, l2, rfl, rfl, w2, hv2⟩ := h2
  have o2 := (At_slice.1 (AtF.at _ k2))
  obtain ⟨_, _, x1, x2, _, o2⟩ := o2
  cases x1
  cases x2
  have o2 := o2.one
  have k3 := h3
  replace h3 := AtF_slice.1 h3
  obtain ⟨v3, l3, rfl, rfl, w3, hv3⟩ := h3
  have o3 := (At_slice.1 (AtF.at _ k3))
  obtain ⟨_, _, x1, x2, _, o3⟩ := o3
  cases x1
  cases x2
  have o3 := o3.one
  simp only [cntP, cntPs_cons, cntPs_nil, Nat.add_zero] at hcnt
  obtain ⟨kk, hkk⟩ : ∃ kk, kk = k + cntPs (l.take i) := ⟨_, rfl⟩
  rw [← hkk] at r1
  obtain ⟨id0, off0, cells0, w0, K0, ev0, eg0, ei0, ek0, ew0, ea0, en0, es0, er0, et0⟩ := AtF.field [] g3 hn (i := i) (us1 := []) (u := (.str s0)) (us2 := [(.lst l1), (.lst l2), (.lst l3)]) hx0 rfl rfl
  simp only [V.slc.injEq, Option.some.injEq, Prod.mk.injEq] at ev0
  obtain ⟨⟨rfl, rfl⟩, _⟩ := ev0
  simp only [shClass, Sh.size_st, Sh.sizes_cons, Sh.sizes_nil, Sh.size_str, Sh.size_slice, Sh.size_int, Sh.size_bool, List.cons_append, List.nil_append, Nat.reduceAdd, Nat.add_zero] at eg0 ew0 et0 er0
  obtain ⟨_, rfl⟩ := AtF_str.1 ea0
  have q0 := au (H := G) (k := kk) (by omega)
  have st0 := store1 (v := (.str (markStr kk))) eg0 (List.getElem?_eq_some_iff.1 ew0).1 rfl rfl
  have A0 := et0 (.str (markStr kk)) (.str (markStr kk)) (AtF_str.2 ⟨⟨_, rfl, rfl, dm (by omega)⟩, rfl⟩)
  obtain ⟨G0, hG0⟩ : ∃ G', G' = G.set id (.mk true 4 (cells0.set (off + i * 4) (.str (markStr kk)))) := ⟨_, rfl⟩
  rw [← hG0] at st0 A0
  have ln0 : G0.length = H.length := by rw [hG0, List.length_set]; exact g1
  have fr0 : ∀ q, q ∉ F → G0[q]? = H[q]? := fun q hq => by rw [hG0, List.getElem?_set_ne (by rintro rfl; exact hq e6)]; exact g2 q hq
  clear hG0
  obtain ⟨kk0, hkk0⟩ : ∃ n, n = kk + 1 := ⟨_, rfl⟩
  have hw0 : IntKind.i64.wrap ((kk : Int) + 1) = (kk0 : Int) := by rw [wrap_i64 (by omega) (by omega)]; omega
  have hx0_ : (L.set i (.st [(.str (markStr kk)), (.lst l1), (.lst l2), (.lst l3)]))[i]? = some (.st [(.str (markStr kk)), (.lst l1), (.lst l2), (.lst l3)]) := List.getElem?_set_self (by omega)
  obtain ⟨id1, off1, cells1, w1, K1, ev1, eg1, ei1, ek1, ew1, ea1, en1, es1, er1, et1⟩ := AtF.field [.str] A0 hn (i := i) (us1 := [(.str (markStr kk))]) (u := (.lst l1)) (us2 := [(.lst l2), (.lst l3)]) hx0_ rfl rfl
  simp only [V.slc.injEq, Option.some.injEq, Prod.mk.injEq] at ev1
  obtain ⟨⟨rfl, rfl⟩, _⟩ := ev1
  simp only [shClass, Sh.size_st, Sh.sizes_cons, Sh.sizes_nil, Sh.size_str, Sh.size_slice, Sh.size_int, Sh.size_bool, List.cons_append, List.nil_append, Nat.reduceAdd, Nat.add_zero] at eg1 ew1 et1 er1
  obtain ⟨G1, q1, ln1, fr1, ma1⟩ := bG G0 [w1] _ K1 kk0 ea1 en1 (by simp only [cntPV, cntP]; omega)
  simp only [valC, List.headD_cons] at q1
  have ld1 := load1 eg1 ew1
  have A1 := er1 G1 (.lst (mkPs l1 kk0)) (fun q _ hq => fr1 q hq) ma1
  have ln1 : G1.length = H.length := by rw [ln1]; first | exact g1 | exact ln0
  have fr1 : ∀ q, q ∉ F → G1[q]? = H[q]? := fun q hq => by rw [fr1 q fun h => hq (es1 q h)]; first | exact g2 q hq | exact fr0 q hq
  obtain ⟨kk1, hkk1⟩ : ∃ n, n = kk0 + cntP (.lst l1) := ⟨_, rfl⟩
  rw [cntPV, ← hkk1] at q1
  simp only [cntP] at hkk1
  rw [List.set_set] at A1
  have hx1_ : (L.set i (.st [(.str (markStr kk)), (.lst (mkPs l1 kk0)), (.lst l2), (.lst l3)]))[i]? = some (.st [(.str (markStr kk)), (.lst (mkPs l1 kk0)), (.lst l2), (.lst l3)]) := List.getElem?_set_self (by omega)
  obtain ⟨id2, off2, cells2, w2, K2, ev2, eg2, ei2, ek2, ew2, ea2, en2, es2, er2, et2⟩ := AtF.field [.str, (.slice .str)] A1 hn (i := i) (us1 := [(.str (markStr kk)), (.lst (mkPs l1 kk0))]) (u := (.lst l2)) (us2 := [(.lst l3)]) hx1_ rfl rfl
  simp only [V.slc.injEq, Option.some.injEq, Prod.mk.injEq] at ev2
  obtain ⟨⟨rfl, rfl⟩, _⟩ := ev2
  simp only [shClass, Sh.size_st, Sh.sizes_cons, Sh.sizes_nil, Sh.size_str, Sh.size_slice, Sh.size_int, Sh.size_bool, List.cons_append, List.nil_append, Nat.reduceAdd, Nat.add_zero] at eg2 ew2 et2 er2
  obtain ⟨G2, q2, ln2, fr2, ma2⟩ := bG G1 [w2] _ K2 kk1 ea2 en2 (by simp only [cntPV, cntP]; omega)
  simp only [valC, List.headD_cons] at q2
  have ld2 := load1 eg2 ew2
  have A2 := er2 G2 (.lst (mkPs l2 kk1)) (fun q _ hq => fr2 q hq) ma2
  have ln2 : G2.length = H.length := by rw [ln2]; first | exact g1 | exact ln1
  have fr2 : ∀ q, q ∉ F → G2[q]? = H[q]? := fun q hq => by rw [fr2 q fun h => hq (es2 q h)]; first | exact g2 q hq | exact fr1 q hq
  obtain ⟨kk2, hkk2⟩ : ∃ n, n = kk1 + cntP (.lst l2) := ⟨_, rfl⟩
  rw [cntPV, ← hkk2] at q2
  simp only [cntP] at hkk2
  rw [List.set_set] at A2
  have hx2_ : (L.set i (.st [(.str (markStr kk)), (.lst (mkPs l1 kk0)), (.lst (mkPs l2 kk1)), (.lst l3)]))[i]? = some (.st [(.str (markStr kk)), (.lst (mkPs l1 kk0)), (.lst (mkPs l2 kk1)), (.lst l3)]) := List.getElem?_set_self (by omega)
  obtain ⟨id3, off3, cells3, w3, K3, ev3, eg3, ei3, ek3, ew3, ea3, en3, es3, er3, et3⟩ := AtF.field [.str, (.slice .str), (.slice .str)] A2 hn (i := i) (us1 := [(.str (markStr kk)), (.lst (mkPs l1 kk0)), (.lst (mkPs l2 kk1))]) (u := (.lst l3)) (us2 := []) hx2_ rfl rfl
  simp only [V.slc.injEq, Option.some.injEq, Prod.mk.injEq] at ev3
  obtain ⟨⟨rfl, rfl⟩, _⟩ := ev3
  simp only [shClass, Sh.size_st, Sh.sizes_cons, Sh.sizes_nil, Sh.size_str, Sh.size_slice, Sh.size_int, Sh.size_bool, List.cons_append, List.nil_append, Nat.reduceAdd, Nat.add_zero] at eg3 ew3 et3 er3
  obtain ⟨G3, q3, ln3, fr3, ma3⟩ := bG G2 [w3] _ K3 kk2 ea3 en3 (by simp only [cntPV, cntP]; omega)
  simp only [valC, List.headD_cons] at q3
  have ld3 := load1 eg3 ew3
  have A3 := er3 G3 (.lst (mkPs l3 kk2)) (fun q _ hq => fr3 q hq) ma3
  have ln3 : G3.length = H.length := by rw [ln3]; first | exact g1 | exact ln2
  have fr3 : ∀ q, q ∉ F → G3[q]? = H[q]? := fun q hq => by rw [fr3 q fun h => hq (es3 q h)]; first | exact g2 q hq | exact fr2 q hq
  obtain ⟨kk3, hkk3⟩ : ∃ n, n = kk2 + cntP (.lst l3) := ⟨_, rfl⟩
  rw [cntPV, ← hkk3] at q3
  simp only [cntP] at hkk3
  rw [List.set_set] at A3
  have hx3_ : (L.set i (.st [(.str (markStr kk)), (.lst (mkPs l1 kk0)), (.lst (mkPs l2 kk1)), (.lst (mkPs l3 kk2))]))[i]? = some (.st [(.str (markStr kk)), (.lst (mkPs l1 kk0)), (.lst (mkPs l2 kk1)), (.lst (mkPs l3 kk2))]) := List.getElem?_set_self (by omega)
  have hks : k + cntPs (l.take (i + 1)) = kk3 := by omega
  rw [show L.set i (.st [(.str (markStr kk)), (.lst (mkPs l1 kk0)), (.lst (mkPs l2 kk1)), (.lst (mkPs l3 kk2))]) = _ from (by simp only [hkk0, hkk1, hkk2, hkk3, hkk]; exact hmk)] at A3
  have hw : IntKind.i64.wrap ((i : Int) + 1) = ((i : Int) + 1) := wrap_i64 (by omega) (by omega)
  have hix : i + 1 ≤ l.length := hi
  simp [r0, r1, r5, hi, hw, q0, st0, hw0, q1, ld1, q2, ld2, q3, ld3, -setRange]
  exact ⟨m, by omega, i + 1, by omega, _, _, ⟨rfl, rfl⟩, by simp [r0], by simp; omega, by simp, ln3, fr3, A3⟩
theorem mX : aU 251 (.slice shClass) := by
 intro H cs u k h hk
 obtain ⟨v, l', rfl, hu, hlen, hv⟩ := At_slice.1 h
 obtain ⟨l, rfl, rfl⟩ := mkV_lst hu
 apply Ret.eq
 rw [Iy]
 simp only [cntV] at hk ⊢
 have hl64 : (mkPs l k).length ≤ 9223372036854775807 := hlen
 rw [mkPs_len] at hl64
 have hvl := fun {e s b : Nat} {z : List V} => hv.len (e := e) (s := s) (b := b) (z := z)
 simp only [mkPs_len] at hvl
 simp [qM, Tryz.f251, valC]
 refine WP_loop (fun m σ => ∃ (i kk : Nat) (r : Nat → R), i + m = l.length ∧ kk = k + cntPs (l.take i) ∧ σ = ⟨r, 0, H⟩ ∧ r 0 = .val v ∧ r 1 = .val (.int .i64 kk) ∧ r 5 = .val (.int .i64 i)) ?_ l.length _ ⟨0, k, _, by simp, by simp [cntPs], rfl, by simp, by simp, by simp⟩
 rintro m σ ⟨i, kk, r, him, hkk, rfl, r0, r1, r5⟩
 cases m with
 | zero =>
  have hi : i = l.length := by omega
  subst hi
  rw [List.take_length] at hkk
  simp [r0, r1, r5, hvl, hkk]
 | succ m =>
  have hi : i < l.length := by omega
  obtain ⟨x, hx⟩ : ∃ x, l[i]? = some x := ⟨l[i], by simp [hi]⟩
  obtain ⟨eid, o, own, cells, e1, e2, e3, e0⟩ := hv.idx (mkPs_get hx) (by decide)
  rw [← hkk] at e0
  have hcnt := cntPs_take hx
  have hle := cntPs_take_le (l := l) (i := i + 1)
  have hid : eid < H.length := (List.getElem?_eq_some_iff.1 e2).1
  have hw : IntKind.i64.wrap ((i : Int) + 1) = ((i : Int) + 1) := wrap_i64 (by omega) (by omega)
  obtain ⟨us0, hu0, E0⟩ := At_st.1 e0
  obtain ⟨us0, rfl, rfl⟩ := mkP_st hu0
  obtain ⟨c0, d0, u0, rr0, hc0, hu, h0, E1⟩ := Ats_cons.1 E0
  obtain ⟨u0, us0, rfl, rfl, rfl⟩ := mkPs_cons hu
  obtain ⟨s0, rfl, hs, _⟩ := At_str.1 h0
  obtain ⟨⟨t0, rfl⟩, rfl⟩ := mkP_str hs
  obtain ⟨kk1, hkk1⟩ : ∃ n, n = kk + cntP (.str t0) := ⟨_, rfl⟩
  rw [← hkk1] at E1
  obtain ⟨c1, d1, u1, rr1, rfl, hu, h1, E2⟩ := Ats_cons.1 E1
  obtain ⟨u1, us0, rfl, rfl, rfl⟩ := mkPs_cons hu
  have k1 := h1
  obtain ⟨v1, l1, rfl, hs, _, _⟩ := At_slice.1 h1
  obtain ⟨m1, rfl, rfl⟩ := mkP_lst hs
  obtain ⟨kk2, hkk2⟩ : ∃ n, n = kk1 + cntP (.lst m1) := ⟨_, rfl⟩
  rw [← hkk2] at E2
  obtain ⟨c2, d2, u2, rr2, rfl, hu, h2, E3⟩ := Ats_cons.1 E2
  obtain ⟨u2, us0, rfl, rfl, rfl⟩ := mkPs_cons hu
  have k2 := h2
  obtain ⟨v2, l2, rfl, hs, _, _⟩ := At_slice.1 h2
  obtain ⟨m2, rfl, rfl⟩ := mkP_lst hs
  obtain ⟨kk3, hkk3⟩ : ∃ n, n = kk2 + cntP (.lst m2) := ⟨_, rfl⟩
  rw [← hkk3] at E3
  obtain ⟨c3, d3, u3, rr3, rfl, hu, h3, E4⟩ := Ats_cons.1 E3
  obtain ⟨u3, us0, rfl, rfl, rfl⟩ := mkPs_cons hu
  have k3 := h3
  obtain ⟨v3, l3, rfl, hs, _, _⟩ := At_slice.1 h3
  obtain ⟨m3, rfl, rfl⟩ := mkP_lst hs
  obtain ⟨kk4, hkk4⟩ : ∃ n, n = kk3 + cntP (.lst m3) := ⟨_, rfl⟩
  rw [← hkk4] at E4
  obtain ⟨rfl, hun⟩ := Ats_nil.1 E4
  obtain rfl := mkPs_nil hun
  simp only [List.cons_append, List.nil_append, List.append_nil] at hc0
  simp only [cntP_st, cntPs_cons, cntPs_nil, cntP_str, cntP_int, cntP_bool, Nat.add_zero] at hcnt hkk1 hkk2 hkk3 hkk4
  have ld0 := load1 e2 (by simpa using cells_get hc0 (j := 0) rfl)
  have hm0 := au (H := H) (k := kk) (by omega)
  have hw0 : IntKind.i64.wrap ((kk : Int) + 1) = (kk1 : Int) := by rw [wrap_i64 (by omega) (by omega)]; omega
  have ld1 := load1 e2 (by simpa using cells_get hc0 (j := 1) rfl)
  have q1 := aT H [v1] (.lst m1) kk1 k1 (by rw [cntPV]; omega)
  rw [cntPV, ← hkk2] at q1
  simp only [valC, List.headD_cons] at q1
  have p1 : ¬ ((kk2 : Int) < 0) := by omega
  have ld2 := load1 e2 (by simpa using cells_get hc0 (j := 2) rfl)
  have q2 := aT H [v2] (.lst m2) kk2 k2 (by rw [cntPV]; omega)
  rw [cntPV, ← hkk3] at q2
  simp only [valC, List.headD_cons] at q2
  have p2 : ¬ ((kk3 : Int) < 0) := by omega
  have ld3 := load1 e2 (by simpa using cells_get hc0 (j := 3) rfl)
  have q3 := aT H [v3] (.lst m3) kk3 k3 (by rw [cntPV]; omega)
  rw [cntPV, ← hkk4] at q3
  simp only [valC, List.headD_cons] at q3
  have p3 : ¬ ((kk4 : Int) < 0) := by omega
  rw [show (shClass).size = 4 from rfl] at e1
  simp [r0, r1, r5, hi, hvl, e1, hid, hw, ld0, hm0, hw0, ld1, q1, p1, ld2, q2, p2, ld3, q3, p3]
  exact ⟨m, by omega, i + 1, by omega, by omega, by omega⟩

end Go.Proofs.Try1
end
section
namespace Go.Lite
open Go
def Le (G G' : List Ob) : Prop := ∃ S, G' = G ++ S
def Up (G G' : List Ob) : Prop := ∀ (q : Nat) o, G[q]? = some o → G'[q]? = some o
section
variable {A B D G G' : List Ob} {sh : Sh} {cs : List V} {u : U} {F : List Nat} {b e : Nat}
theorem Le.refl : Le A A := ⟨[], by simp⟩
theorem Le.app {T : List Ob} : Le A (A ++ T) := ⟨T, rfl⟩
theorem Le.trans (h : Le A B) (k : Le B D) : Le A D := by
 obtain ⟨S, rfl⟩ := h
 obtain ⟨T, rfl⟩ := k
 exact ⟨S ++ T, by rw [List.append_assoc]⟩
theorem Le.len (h : Le A B) : A.length ≤ B.length := by obtain ⟨S, rfl⟩ := h; simp
theorem Le.up (h : Le A B) : Up A B := by obtain ⟨S, rfl⟩ := h; exact up_append
theorem Up.refl : Up A A := fun _ _ h => h
theorem Up.trans (h : Up A B) (k : Up B D) : Up A D := fun q o hq => k q o (h q o hq)
theorem At.Up (h : At A sh cs u) (k : Up A B) : At B sh cs u := At.up k sh h
theorem At.Le (h : At A sh cs u) (k : Le A B) : At B sh cs u := At.up k.up sh h
theorem New.Le (h : New b e A sh cs u) (k : Le A B) : New b e B sh cs u := by obtain ⟨S, rfl⟩ := k; exact h.ext
theorem Up.frame (h : ∀ q, q < A.length → B[q]? = A[q]?) : Up A B := fun q o hq => by
 rw [h q (List.getElem?_eq_some_iff.1 hq).1]; exact hq
theorem isOne_cells {v : V} (h : isOne v = true) : cellsOf v = some [v] := by cases v <;> first | rfl | simp [isOne] at h
theorem ones_all (h : At A sh cs u) : ∀ x ∈ cs, isOne x = true ∧ cellsOf x = some [x] := fun x hx => by
 have := List.all_eq_true.1 (At.ones _ h) x hx
 exact ⟨this, isOne_cells this⟩
theorem list2 {α : Type} {l : List α} (h : l.length = 2) : ∃ a b, l = [a, b] := by
 match l, h with
 | [a, b], _ => exact ⟨a, b, rfl⟩
theorem list3 {α : Type} {l : List α} (h : l.length = 3) : ∃ a b c, l = [a, b, c] := by
 match l, h with
 | [a, b, c], _ => exact ⟨a, b, c, rfl⟩
theorem list6 {α : Type} {l : List α} (h : l.length = 6) : ∃ a b c d e f, l = [a, b, c, d, e, f] := by
 match l, h with
 | [a, b, c, d, e, f], _ => exact ⟨a, b, c, d, e, f, rfl⟩
end
mutual
def Sh.fan : Sh → Nat
 | .slice e => e.fan
 | .st fs => Sh.fans fs
 | _ => 1
def Sh.fans : List Sh → Nat
 | [] => 0
 | f :: fs => f.fan + Sh.fans fs
end
theorem cntPs_sum {f : Nat} {l : List U} (h : ∀ u ∈ l, cntP u ≤ f * (1 + wt u)) : cntPs l ≤ f * (l.length + wts l) := by
 induction l with
 | nil => simp [cntPs]
 | cons u us ih =>
  have h1 := h u List.mem_cons_self
  have h2 := ih fun w hw => h w (List.mem_cons_of_mem _ hw)
  have e : f * ((u :: us).length + wts (u :: us)) = f * (1 + wt u) + f * (us.length + wts us) := by
   rw [← Nat.mul_add]
   simp only [List.length_cons, wts]
   congr 1
   omega
  simp only [cntPs]
  omega
theorem Sl.each {H : List Ob} {n : Nat} {R : List V → U → Prop} {v : V} {l : List U} (h : Sl H n R v l) : ∀ u ∈ l, ∃ cs, R cs u := by
 intro u hu
 rcases h with ⟨_, rfl⟩ | ⟨id, off, own, cells, _, _, _, h4⟩
 ·cases hu
 ·obtain ⟨i, hi, rfl⟩ := List.getElem_of_mem hu
  exact ⟨_, h4 i _ (List.getElem?_eq_getElem hi)⟩
mutual
theorem cntP_bound {H : List Ob} : ∀ (sh : Sh) {cs : List V} {u : U}, At H sh cs u → cntP u ≤ sh.fan * (1 + wt u)
 | .int k, _, _, h => by obtain ⟨n, _, rfl, _⟩ := At_int.1 h; simp [cntP, Sh.fan, wt]
 | .bool, _, _, h => by obtain ⟨n, _, rfl⟩ := At_bool.1 h; simp [cntP, Sh.fan, wt]
 | .str, _, _, h => by obtain ⟨n, _, rfl, _⟩ := At_str.1 h; simp only [cntP, Sh.fan, wt]; omega
 | .slice e, _, _, h => by
  obtain ⟨v, l, _, rfl, _, h4⟩ := At_slice.1 h
  have := cntPs_sum (f := e.fan) (l := l) fun u hu => by
   obtain ⟨cs, hc⟩ := h4.each u hu
   exact cntP_bound e hc
  simp only [cntP, Sh.fan, wt]
  refine Nat.le_trans this (Nat.mul_le_mul_left _ (by omega))
 | .st fs, _, _, h => by
  obtain ⟨us, rfl, h2⟩ := At_st.1 h
  have := cntPs_bound fs h2
  simp only [cntP, Sh.fan, wt]
  exact this
theorem cntPs_bound {H : List Ob} : ∀ (fs : List Sh) {cs : List V} {us : List U}, Ats H fs cs us → cntPs us ≤ Sh.fans fs * (1 + wts us)
 | [], _, _, h => by obtain ⟨_, rfl⟩ := Ats_nil.1 h; simp [cntPs]
 | f :: fs, _, _, h => by
  obtain ⟨c1, c2, u, us', _, rfl, h3, h4⟩ := Ats_cons.1 h
  have h5 := cntP_bound f h3
  have h6 := cntPs_bound fs h4
  simp only [cntPs, Sh.fans, wts]
  have e1 : f.fan * (1 + wt u) ≤ f.fan * (1 + (wt u + wts us')) := Nat.mul_le_mul_left _ (by omega)
  have e2 : Sh.fans fs * (1 + wts us') ≤ Sh.fans fs * (1 + (wt u + wts us')) := Nat.mul_le_mul_left _ (by omega)
  rw [Nat.add_mul]
  omega
end
mutual
theorem cntV_le : ∀ (u : U), cntV u ≤ cntP u
 | .int _ => by simp [cntV]
 | .bool _ => by simp [cntV]
 | .str _ => by simp [cntV]
 | .lst l => by rw [cntPV]; exact Nat.le_refl _
 | .st us => by simp only [cntV, cntP]; exact cntVs_le us
theorem cntVs_le : ∀ (us : List U), cntVs us ≤ cntPs us
 | [] => by simp [cntVs]
 | u :: us => by simp only [cntVs, cntPs]; have h1 := cntV_le u; have h2 := cntVs_le us; omega
end
theorem cntV_bound {H : List Ob} {sh : Sh} {cs : List V} {u : U} (h : At H sh cs u) (n : Nat) (hn : sh.fan ≤ n) : cntV u ≤ n * (1 + wt u) :=
 Nat.le_trans (Nat.le_trans (cntV_le u) (cntP_bound sh h)) (Nat.mul_le_mul_right _ hn)
end Go.Lite
end
section
namespace Go.Proofs.Try1
open Go Go.Lite
section
variable {f k b e : Nat} {sh : Sh} {H : List Ob} {cs ds : List V} {u : U}
theorem toN (hf : dh f sh) (h : At H sh cs u) (hw : wt u ≤ 1048576) : ∃ G cs', callW C f [valC sh cs] H = some (valC sh cs', G) ∧ Le H G ∧ New H.length G.length G sh cs' u := by
 obtain ⟨S, cs', F, c1, a1, n1, g1⟩ := hf H cs u h hw
 exact ⟨_, cs', c1, ⟨S, rfl⟩, F, a1, n1, fun q hq => ⟨g1 q hq, AtF.mem _ a1 q hq⟩⟩
theorem eqN (hf : bQ f sh) (h : At H sh cs u) (h' : At H sh ds u) : callW C f [valC sh cs, valC sh ds] H = some (.bool true, H) := by
 obtain ⟨t, ht, c⟩ := hf H cs ds u u h h'
 obtain rfl := ht.2 rfl
 exact c
theorem QV (hf : eU f sh) (h : New b e H sh cs u) (hk : k + cntV u ≤ 50000000) : ∃ G, callW C f [valC sh cs, .int .i64 k] H = some (.int .i64 ((k + cntV u : Nat) : Int), G) ∧ G.length = H.length ∧ (∀ q, q < b ∨ e ≤ q → G[q]? = H[q]?) ∧ New b e G sh cs (mkV u k) := by
 obtain ⟨F, h1, h2, h3⟩ := h
 obtain ⟨G, c, l, fr, a⟩ := hf H cs u F k h1 h2 hk
 exact ⟨G, c, l, fun q hq => fr q fun hm => by have := h3 q hm; omega, F, a, h2, h3⟩
end
end Go.Proofs.Try1
end
section
namespace Go.Lite
open Go
def ThenW (Q : Ex → St → Prop) : Option St → Prop
 | some σ => Q .norm σ
 | none => False
theorem ThenW_some {Q : Ex → St → Prop} {σ : St} : ThenW Q (some σ) ↔ Q .norm σ := Iff.rfl
theorem ThenW_none {Q : Ex → St → Prop} : ThenW Q none ↔ False := Iff.rfl
theorem WP_regionF {C : Ctx} {f id : Nat} {ops : Array Oper} {draw : Bool} {σ : St} {Q : Ex → St → Prop} : WP C f (.region id ops draw) σ Q ↔ ThenW Q (regionL C (callW C) f id ops draw σ) := by
 rw [WP_region]
 cases regionL C (callW C) f id ops draw σ with
 | none => simp [ThenW]
 | some σ1 => exact ⟨fun ⟨_, h, hq⟩ => by cases h; exact hq, fun h => ⟨σ1, rfl, h⟩⟩
def CondW (C : Ctx) (f : Nat) (a b : Code) (σ : St) (Q : Ex → St → Prop) (o : Option V) : Prop := ∃ t, o = some (.bool t) ∧ if t = true then WP C f a σ Q else WP C f b σ Q
theorem WP_condF {C : Ctx} {f : Nat} {c : Operand} {a b : Code} {σ : St} {Q : Ex → St → Prop} : WP C f (.cond c a b) σ Q ↔ CondW C f a b σ Q (ev σ c) := WP_cond
theorem CondW_true {C : Ctx} {f : Nat} {a b : Code} {σ : St} {Q : Ex → St → Prop} : CondW C f a b σ Q (some (.bool true)) ↔ WP C f a σ Q := by simp [CondW]
theorem CondW_false {C : Ctx} {f : Nat} {a b : Code} {σ : St} {Q : Ex → St → Prop} : CondW C f a b σ Q (some (.bool false)) ↔ WP C f b σ Q := by simp [CondW]
theorem CondW_bool {C : Ctx} {f : Nat} {a b : Code} {σ : St} {Q : Ex → St → Prop} {t : Bool} : CondW C f a b σ Q (some (.bool t)) ↔ if t = true then WP C f a σ Q else WP C f b σ Q := by simp [CondW]
section
variable {σ : St} {C : Ctx}
end
end Go.Lite
end
section
namespace Go.Proofs.Try1
open Go Go.Lite
theorem jP : eU 77 (.slice shEntry) := by
 intro H cs u F k h hn hk
 obtain ⟨v, l, rfl, rfl, hlen, hv⟩ := AtF_slice.1 h
 have hv := (AtF_slice.2 ⟨v, l, rfl, rfl, hlen, hv⟩).at
 obtain ⟨_, _, hx1, hx2, _, hv⟩ := At_slice.1 hv
 cases hx1; cases hx2
 apply Ret.mark
 rw [PS]
 simp only [cntV] at hk
 have hl64 : l.length ≤ 9223372036854775807 := hlen
 simp [xH, Tryz.f77, valC, -setRange]
 refine WP_loop (fun m σ => ∃ (i : Nat) (r : Nat → R) (G : List Ob), i + m = l.length ∧ σ = ⟨r, 0, G⟩ ∧ r 0 = .val v ∧ r 1 = .val (.int .i64 ((k + cntPs (l.take i) : Nat) : Int)) ∧ r 5 = .val (.int .i64 i) ∧ G.length = H.length ∧ (∀ q, q ∉ F → G[q]? = H[q]?) ∧ AtF G (.slice shEntry) [v] (.lst (mkPs (l.take i) k ++ l.drop i)) F) ?_ l.length _ ⟨0, _, H, by simp, rfl, by simp, by simp [cntPs], by simp, rfl, fun _ _ => rfl, by simpa [mkPs] using h⟩
 rintro m σ ⟨i, r, G, him, rfl, r0, r1, r5, g1, g2, g3⟩
 cases m with
 | zero =>
  have hi : i = l.length := by omega
  subst hi
  simp at g3
  simp [r0, r1, r5, hv.len, aK g1, cntV, mkV]
  exact ⟨g1, g2, g3⟩
 | succ m =>
  have hi : i < l.length := by omega
  obtain ⟨x, hx⟩ : ∃ x, l[i]? = some x := ⟨l[i], by simp [hi]⟩
  have hx0 : (mkPs (l.take i) k ++ l.drop i)[i]? = some x := by rw [mk_get hi, hx]
  have hmk := mk_set (k := k) hx
  have hcnt := cntPs_take hx
  have hle := cntPs_take_le (l := l) (i := i + 1)
  have hL : (mkPs (l.take i) k ++ l.drop i).length = l.length := by simp [mkPs_len]; omega
  obtain ⟨L, hLd⟩ : ∃ L, L = mkPs (l.take i) k ++ l.drop i := ⟨_, rfl⟩
  rw [← hLd] at hx0 hmk hL g3
  clear hLd
  obtain ⟨id, off, cells, K, e0, e1, e2, e3, e4, e5, e6, e7, e8⟩ := AtF.elem g3 hn hx0
  clear e1 e2 e4 e5 e7 e8
  rw [hL] at e0
  subst e0
  generalize List.take (shEntry).size (List.drop (off + i * (shEntry).size) cells) = cc at e3
  replace e3 := AtF_st.1 e3
  obtain ⟨us, rfl, e3⟩ := e3
  replace e3 := AtsF_cons.1 e3
  obtain ⟨c0, d0, u0, rr0, F0, E0, rfl, rfl, rfl, h0, e3⟩ := e3
  replace e3 := AtsF_cons.1 e3
  obtain ⟨c1, d1, u1, rr1, F1, E1, rfl, rfl, rfl, h1, e3⟩ := e3
  replace e3 := AtsF_nil.1 e3
  obtain ⟨rfl, rfl, rfl⟩ := e3
  have k0 := h0
  replace h0 := AtF_slice.1 h0
  obtain ⟨v0, l0, rfl, rfl, w0, hv0⟩ := h0
  have o0 := (At_slice.1 (AtF.at _ k0))
  obtain ⟨_, _, x1, x2, _, o0⟩ := o0
  cases x1
  cases x2
  have o0 := o0.one
  have k1 := h1
  replace h1 := AtF_slice.1 h1
  obtain ⟨v1, l1, rfl, rfl, w1, hv1⟩ := h1
  have o1 := (At_slice.1 (AtF.at _ k1))
  obtain ⟨_, _, x1, x2, _, o1⟩ := o1
  cases x1
  cases x2
  have o1 := o1.one
  simp only [cntP, cntPs_cons, cntPs_nil, Nat.add_zero] at hcnt
  obtain ⟨kk, hkk⟩ : ∃ kk, kk = k + cntPs (l.take i) := ⟨_, rfl⟩
  rw [← hkk] at r1
  obtain ⟨id0, off0, cells0, w0, K0, ev0, eg0, ei0, ek0, ew0, ea0, en0, es0, er0, et0⟩ := AtF.field [] g3 hn (i := i) (us1 := []) (u := (.lst l0)) (us2 := [(.lst l1)]) hx0 rfl rfl
  simp only [V.slc.injEq, Option.some.injEq, Prod.mk.injEq] at ev0
  obtain ⟨⟨rfl, rfl⟩, _⟩ := ev0
  simp only [shEntry, Sh.size_st, Sh.sizes_cons, Sh.sizes_nil, Sh.size_str, Sh.size_slice, Sh.size_int, Sh.size_bool, List.cons_append, List.nil_append, Nat.reduceAdd, Nat.add_zero] at eg0 ew0 et0 er0
  obtain ⟨G0, q0, ln0, fr0, ma0⟩ := lF G [w0] _ K0 kk ea0 en0 (by simp only [cntPV, cntP]; omega)
  simp only [valC, List.headD_cons] at q0
  have ld0 := load1 eg0 ew0
  have A0 := er0 G0 (.lst (mkPs l0 kk)) (fun q _ hq => fr0 q hq) ma0
  have ln0 : G0.length = H.length := by rw [ln0]; first | exact g1 | exact ln-1
  have fr0 : ∀ q, q ∉ F → G0[q]? = H[q]? := fun q hq => by rw [fr0 q fun h => hq (es0 q h)]; first | exact g2 q hq | exact fr0 q hq
  obtain ⟨kk0, hkk0⟩ : ∃ n, n = kk + cntP (.lst l0) := ⟨_, rfl⟩
  rw [cntPV, ← hkk0] at q0
  simp only [cntP] at hkk0
  have hx0_ : (L.set i (.st [(.lst (mkPs l0 kk)), (.lst l1)]))[i]? = some (.st [(.lst (mkPs l0 kk)), (.lst l1)]) := List.getElem?_set_self (by omega)
  obtain ⟨id1, off1, cells1, w1, K1, ev1, eg1, ei1, ek1, ew1, ea1, en1, es1, er1, et1⟩ := AtF.field [(.slice shRdn)] A0 hn (i := i) (us1 := [(.lst (mkPs l0 kk))]) (u := (.lst l1)) (us2 := []) hx0_ rfl rfl
  simp only [V.slc.injEq, Option.some.injEq, Prod.mk.injEq] at ev1
  obtain ⟨⟨rfl, rfl⟩, _⟩ := ev1
  simp only [shEntry, Sh.size_st, Sh.sizes_cons, Sh.sizes_nil, Sh.size_str, Sh.size_slice, Sh.size_int, Sh.size_bool, List.cons_append, List.nil_append, Nat.reduceAdd, Nat.add_zero] at eg1 ew1 et1 er1
  obtain ⟨G1, q1, ln1, fr1, ma1⟩ := nU G0 [w1] _ K1 kk0 ea1 en1 (by simp only [cntPV, cntP]; omega)
  simp only [valC, List.headD_cons] at q1
  have ld1 := load1 eg1 ew1
  have A1 := er1 G1 (.lst (mkPs l1 kk0)) (fun q _ hq => fr1 q hq) ma1
  have ln1 : G1.length = H.length := by rw [ln1]; first | exact g1 | exact ln0
  have fr1 : ∀ q, q ∉ F → G1[q]? = H[q]? := fun q hq => by rw [fr1 q fun h => hq (es1 q h)]; first | exact g2 q hq | exact fr0 q hq
  obtain ⟨kk1, hkk1⟩ : ∃ n, n = kk0 + cntP (.lst l1) := ⟨_, rfl⟩
  rw [cntPV, ← hkk1] at q1
  simp only [cntP] at hkk1
  rw [List.set_set] at A1
  have hx1_ : (L.set i (.st [(.lst (mkPs l0 kk)), (.lst (mkPs l1 kk0))]))[i]? = some (.st [(.lst (mkPs l0 kk)), (.lst (mkPs l1 kk0))]) := List.getElem?_set_self (by omega)
  have hks : k + cntPs (l.take (i + 1)) = kk1 := by omega
  rw [show L.set i (.st [(.lst (mkPs l0 kk)), (.lst (mkPs l1 kk0))]) = _ from (by simp only [hkk0, hkk1, hkk]; exact hmk)] at A1
  have hw : IntKind.i64.wrap ((i : Int) + 1) = ((i : Int) + 1) := wrap_i64 (by omega) (by omega)
  have hix : i + 1 ≤ l.length := hi
  simp [r0, r1, r5, hi, hw, q0, ld0, q1, ld1, -setRange]
  exact ⟨m, by omega, i + 1, by omega, _, _, ⟨rfl, rfl⟩, by simp [r0], by simp; omega, by simp, ln1, fr1, A1⟩
theorem gz : aU 173 (.slice shEntry) := by
 intro H cs u k h hk
 obtain ⟨v, l', rfl, hu, hlen, hv⟩ := At_slice.1 h
 obtain ⟨l, rfl, rfl⟩ := mkV_lst hu
 apply Ret.eq
 rw [Fp]
 simp only [cntV] at hk ⊢
 have hl64 : (mkPs l k).length ≤ 9223372036854775807 := hlen
 rw [mkPs_len] at hl64
 have hvl := fun {e s b : Nat} {z : List V} => hv.len (e := e) (s := s) (b := b) (z := z)
 simp only [mkPs_len] at hvl
 simp [uA, Tryz.f173, valC]
 refine WP_loop (fun m σ => ∃ (i kk : Nat) (r : Nat → R), i + m = l.length ∧ kk = k + cntPs (l.take i) ∧ σ = ⟨r, 0, H⟩ ∧ r 0 = .val v ∧ r 1 = .val (.int .i64 kk) ∧ r 5 = .val (.int .i64 i)) ?_ l.length _ ⟨0, k, _, by simp, by simp [cntPs], rfl, by simp, by simp, by simp⟩
 rintro m σ ⟨i, kk, r, him, hkk, rfl, r0, r1, r5⟩
 cases m with
 | zero =>
  have hi : i = l.length := by omega
  subst hi
  rw [List.take_length] at hkk
  simp [r0, r1, r5, hvl, hkk]
 | succ m =>
  have hi : i < l.length := by omega
  obtain ⟨x, hx⟩ : ∃ x, l[i]? = some x := ⟨l[i], by simp [hi]⟩
  obtain ⟨eid, o, own, cells, e1, e2, e3, e0⟩ := hv.idx (mkPs_get hx) (by decide)
  rw [← hkk] at e0
  have hcnt := cntPs_take hx
  have hle := cntPs_take_le (l := l) (i := i + 1)
  have hid : eid < H.length := (List.getElem?_eq_some_iff.1 e2).1
  have hw : IntKind.i64.wrap ((i : Int) + 1) = ((i : Int) + 1) := wrap_i64 (by omega) (by omega)
  obtain ⟨us0, hu0, E0⟩ := At_st.1 e0
  obtain ⟨us0, rfl, rfl⟩ := mkP_st hu0
  obtain ⟨c0, d0, u0, rr0, hc0, hu, h0, E1⟩ := Ats_cons.1 E0
  obtain ⟨u0, us0, rfl, rfl, rfl⟩ := mkPs_cons hu
  have k0 := h0
  obtain ⟨v0, l0, rfl, hs, _, _⟩ := At_slice.1 h0
  obtain ⟨m0, rfl, rfl⟩ := mkP_lst hs
  obtain ⟨kk1, hkk1⟩ : ∃ n, n = kk + cntP (.lst m0) := ⟨_, rfl⟩
  rw [← hkk1] at E1
  obtain ⟨c1, d1, u1, rr1, rfl, hu, h1, E2⟩ := Ats_cons.1 E1
  obtain ⟨u1, us0, rfl, rfl, rfl⟩ := mkPs_cons hu
  have k1 := h1
  obtain ⟨v1, l1, rfl, hs, _, _⟩ := At_slice.1 h1
  obtain ⟨m1, rfl, rfl⟩ := mkP_lst hs
  obtain ⟨kk2, hkk2⟩ : ∃ n, n = kk1 + cntP (.lst m1) := ⟨_, rfl⟩
  rw [← hkk2] at E2
  obtain ⟨rfl, hun⟩ := Ats_nil.1 E2
  obtain rfl := mkPs_nil hun
  simp only [List.cons_append, List.nil_append, List.append_nil] at hc0
  simp only [cntP_st, cntPs_cons, cntPs_nil, cntP_str, cntP_int, cntP_bool, Nat.add_zero] at hcnt hkk1 hkk2
  have ld0 := load1 e2 (by simpa using cells_get hc0 (j := 0) rfl)
  have q0 := fQ H [v0] (.lst m0) kk k0 (by rw [cntPV]; omega)
  rw [cntPV, ← hkk1] at q0
  simp only [valC, List.headD_cons] at q0
  have p0 : ¬ ((kk1 : Int) < 0) := by omega
  have ld1 := load1 e2 (by simpa using cells_get hc0 (j := 1) rfl)
  have q1 := jk H [v1] (.lst m1) kk1 k1 (by rw [cntPV]; omega)
  rw [cntPV, ← hkk2] at q1
  simp only [valC, List.headD_cons] at q1
  have p1 : ¬ ((kk2 : Int) < 0) := by omega
  rw [show (shEntry).size = 2 from rfl] at e1
  simp [r0, r1, r5, hi, hvl, e1, hid, hw, ld0, q0, p0, ld1, q1, p1]
  exact ⟨m, by omega, i + 1, by omega, by omega, by omega⟩
theorem AX : eU 23 shTree := by
 intro H cs u F k h hn hk
 replace h := AtF_st.1 h
 obtain ⟨us, rfl, h⟩ := h
 replace h := AtsF_cons.1 h
 obtain ⟨c0, d0, u0, rr0, F0, E0, rfl, rfl, rfl, h0, h⟩ := h
 replace h := AtsF_cons.1 h
 obtain ⟨c1, d1, u1, rr1, F1, E1, rfl, rfl, rfl, h1, h⟩ := h
 replace h := AtsF_nil.1 h
 obtain ⟨rfl, rfl, rfl⟩ := h
 have k0 := h0
 replace h0 := AtF_slice.1 h0
 obtain ⟨v0, l0, rfl, rfl, w0, hv0⟩ := h0
 have o0 := (At_slice.1 (AtF.at _ k0))
 obtain ⟨_, _, x1, x2, _, o0⟩ := o0
 cases x1
 cases x2
 have o0 := o0.one
 have k1 := h1
 replace h1 := AtF_slice.1 h1
 obtain ⟨v1, l1, rfl, rfl, w1, hv1⟩ := h1
 have o1 := (At_slice.1 (AtF.at _ k1))
 obtain ⟨_, _, x1, x2, _, o1⟩ := o1
 cases x1
 cases x2
 have o1 := o1.one
 simp only [cntV_st, cntVs_cons, cntVs_nil, cntV_str, cntV_int, cntV_bool, Nat.zero_add] at hk
 simp only [List.nil_append, List.append_nil] at hn
 have hn0 := hn
 obtain ⟨nd0, hn0, dj0⟩ := List.nodup_append.1 hn0
 have nd1 := hn0
 obtain ⟨H0, q0, len0, fr0, k0'⟩ := uZ H _ _ _ (k) k0 nd0 (by first | omega | (simp only [cntV_st, cntVs_cons, cntVs_nil, cntV_str, cntV_int, cntV_bool] at *; omega))
 simp only [valC, List.headD_cons, List.append_nil, List.cons_append, List.nil_append, Int.natCast_add] at q0
 have k1 := AtF.frame _ (H' := H0) (fun q hq2 => fr0 q (fun hq1 => dj0 q hq1 q hq2 rfl)) k1
 obtain ⟨H1, q1, len1, fr1, k1'⟩ := jP H0 _ _ _ (k + cntV (.lst l0)) k1 nd1 (by first | omega | (simp only [cntV_st, cntVs_cons, cntVs_nil, cntV_str, cntV_int, cntV_bool] at *; omega))
 simp only [valC, List.headD_cons, List.append_nil, List.cons_append, List.nil_append, Int.natCast_add] at q1
 have k0' := AtF.frame _ (H' := H1) (fun q hq2 => fr1 q (fun hq1 => dj0 q hq2 q hq1 rfl)) k0'
 have hK : k + cntV (U.st [(.lst l0), (.lst l1)]) = k + cntV (.lst l0) + cntV (.lst l1) := by simp only [cntV_st, cntVs_cons, cntVs_nil, cntV_str, cntV_int, cntV_bool, Nat.zero_add]; omega
 have hA : AtF H1 shTree _ _ _ := AtF_st.2 ⟨_, rfl, AtsF_cons.2 ⟨[_], _, _, _, F0, _, rfl, rfl, rfl, k0', AtsF_cons.2 ⟨[_], _, _, _, F1, _, rfl, rfl, rfl, k1', AtsF_nil.2 ⟨rfl, rfl, rfl⟩⟩⟩⟩
 simp only [List.append_nil, List.nil_append, List.cons_append] at hA
 have hl : H1.length = H.length := by rw [len1, len0]
 have hfr : ∀ q, q ∉ F0 ++ (F1) → H1[q]? = H[q]? := by
  intro q hq
  try simp only [List.mem_append, not_or] at hq
  rw [fr1 q hq.2, fr0 q hq.1]
 apply Ret.mark
 rw [OY, hK]
 simp [zk, Tryz.f23, valC, aK hl, q0, q1, o0, o1]
 exact ⟨hl, by simpa using hfr, hA⟩
theorem vT : aU 170 shTree := by
 intro H cs u k h hk
 obtain ⟨us, hu, h⟩ := At_st.1 h
 obtain ⟨us, rfl, rfl⟩ := mkV_st hu
 obtain ⟨c0, d0, u0, r0, rfl, hu, h0, h⟩ := Ats_cons.1 h
 obtain ⟨u0, us, rfl, rfl, rfl⟩ := mkVs_cons hu
 obtain ⟨c1, d1, u1, r1, rfl, hu, h1, h⟩ := Ats_cons.1 h
 obtain ⟨u1, us, rfl, rfl, rfl⟩ := mkVs_cons hu
 obtain ⟨rfl, hu⟩ := Ats_nil.1 h
 obtain rfl := mkVs_nil hu
 have k0 := h0
 obtain ⟨v0, l0, rfl, hu, _, hv0⟩ := At_slice.1 h0
 have o0 := hv0.one
 obtain ⟨m0, rfl, rfl⟩ := mkV_lst hu
 have k1 := h1
 obtain ⟨v1, l1, rfl, hu, _, hv1⟩ := At_slice.1 h1
 have o1 := hv1.one
 obtain ⟨m1, rfl, rfl⟩ := mkV_lst hu
 simp only [cntV_st, cntVs_cons, cntVs_nil, cntV_str, cntV_int, cntV_bool, Nat.zero_add, Nat.add_zero] at *
 have q0 := mX H _ _ (k) k0 (by omega)
 simp only [valC, List.headD_cons, List.append_nil, List.cons_append, List.nil_append, Int.natCast_add] at q0
 have p0 : ¬ (((k + cntV (.lst m0) : Nat) : Int) < 0) := by omega
 simp only [Int.natCast_add] at p0
 have q1 := gz H _ _ (k + cntV (.lst m0)) k1 (by omega)
 simp only [valC, List.headD_cons, List.append_nil, List.cons_append, List.nil_append, Int.natCast_add] at q1
 have p1 : ¬ (((k + cntV (.lst m0) + cntV (.lst m1) : Nat) : Int) < 0) := by omega
 simp only [Int.natCast_add] at p1
 have hK : k + (cntV (.lst m0) + (cntV (.lst m1))) = k + cntV (.lst m0) + cntV (.lst m1) := by omega
 rw [hK]
 apply Ret.eq
 rw [GM]
 simp [tH, Tryz.f170, valC, q0, p0, q1, p1, o0, o1]
end Go.Proofs.Try1
end
section
namespace Go.Lite
open Go
def oddC (c : UInt8) : Bool := c == 44 || c == 43 || c == 34 || c == 92 || c == 60 || c == 62 || c == 59 || c == 61
def oddAt (t : Str) (i : Nat) (c : UInt8) : Bool := oddC c || (c == 35 && i == 0) || (c == 32 && (i == 0 || i + 1 == t.length))
def escB (t : Str) (i : Nat) : Str := match t[i]? with
 | some c => if oddAt t i c = true then [92, c] else [c]
 | none => []
def escN (t : Str) : Nat → Str
 | 0 => []
 | n + 1 => escN t n ++ escB t n
def esc (t : Str) : Str := escN t t.length
def txtB (dn : List PRdn) (i : Nat) : Str := match dn[i]? with
 | some r => (if 0 < i then [44] else []) ++ r.attr ++ [61] ++ esc r.value
 | none => []
def txtN (dn : List PRdn) : Nat → Str
 | 0 => []
 | n + 1 => txtN dn n ++ txtB dn n
def txt (dn : List PRdn) : Str := txtN dn dn.length
theorem escB_len (t : Str) (i : Nat) : (escB t i).length ≤ 2 := by
 unfold escB
 split
 ·split <;> simp
 ·simp
theorem escN_len (t : Str) : ∀ n, (escN t n).length ≤ 2 * n
 | 0 => by simp [escN]
 | n + 1 => by
  have := escN_len t n
  have := escB_len t n
  simp only [escN, List.length_append]
  omega
theorem esc_len (t : Str) : (esc t).length ≤ 2 * t.length := escN_len t _
theorem txtB_len {dn : List PRdn} (hd : DnOk dn) (i : Nat) : (txtB dn i).length ≤ 102 := by
 unfold txtB
 split
 ·rename_i r hr
  have h1 := (hd.1 i r hr).1.2.1
  have h2 := (hd.1 i r hr).2.2.1
  have h3 := esc_len r.value
  simp only [List.length_append, List.length_cons, List.length_nil]
  split <;> simp <;> omega
 ·simp
theorem txtN_len {dn : List PRdn} (hd : DnOk dn) : ∀ n, (txtN dn n).length ≤ 102 * n
 | 0 => by simp [txtN]
 | n + 1 => by
  have := txtN_len hd n
  have := txtB_len hd n
  simp only [txtN, List.length_append]
  omega
theorem txt_len {dn : List PRdn} (hd : DnOk dn) : (txt dn).length ≤ 612 := by
 have := txtN_len hd dn.length
 have := hd.2
 unfold txt
 omega
theorem indexByte_nn : ∀ (l : List UInt8) (c : UInt8), 0 ≤ Lib.indexByte l c ↔ c ∈ l
 | [], c => by simp [Lib.indexByte]
 | b :: l, c => by
  unfold Lib.indexByte
  have ih := indexByte_nn l c
  have lo : -1 ≤ Lib.indexByte l c := by
   clear ih
   induction l with
   | nil => simp [Lib.indexByte]
   | cons x l ih => unfold Lib.indexByte; split <;> (try split) <;> omega
  by_cases h : b = c
  ·subst h; simp
  ·have hb : (b == c) = false := by simpa using h
   simp only [hb, Bool.false_eq_true, if_false, List.mem_cons]
   by_cases h1 : Lib.indexByte l c = -1
   ·simp only [h1, beq_self_eq_true, if_true]
    have : ¬ c ∈ l := fun hm => by have := ih.2 hm; omega
    simp [this, Ne.symm h]
   ·have h1' : (Lib.indexByte l c == -1) = false := by simpa using h1
    simp only [h1', Bool.false_eq_true, if_false]
    have : c ∈ l := ih.1 (by omega)
    simp [this]
    omega
end Go.Lite
end
