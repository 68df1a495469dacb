/- Part 08 of the proof of a law: the interpreter, its soundness, and what functions of the program compute over it. Conditions: none but those that each theorem names. -/
import Derived.Test.YtglbhjmpemiijaaGreatDoorA07
import Derived.Test.YtglbhjmpemiijaaGreatDoorA06
import Derived.Test.YtglbhjmpemiijaaGreatDoorA05

section
namespace Go.Proofs.Try1
open Go Go.Lite
set_option linter.unusedSimpArgs false
set_option linter.unusedVariables false
set_option maxRecDepth 10000 in
theorem to_Rdn : ToFn 158 shRdn := by
  intro H cs u h hwt
  replace h := At_st.1 h
  obtain ⟨us, rfl, h⟩ := h
  replace h := Ats_cons.1 h
  obtain ⟨c0, d0, u0, rr0, rfl, rfl, h0, h⟩ := h
  replace h := Ats_cons.1 h
  obtain ⟨c1, d1, u1, rr1, rfl, rfl, h1, h⟩ := h
  replace h := Ats_nil.1 h
  obtain ⟨rfl, rfl⟩ := h
  replace h0 := At_str.1 h0
  obtain ⟨s0, rfl, rfl, w0⟩ := h0
  replace h1 := At_str.1 h1
  obtain ⟨s1, rfl, rfl, w1⟩ := h1
  simp only [wt_st, wts_cons, wts_nil, wt_str, wt_int, wt_bool] at hwt
  have hA : AtF H shRdn _ _ _ := AtF_st.2 ⟨_, rfl, AtsF_cons.2 ⟨[_], _, _, _, [], [], rfl, rfl, rfl, AtF_str.2 ⟨⟨_, rfl, rfl, w0⟩, rfl⟩, AtsF_cons.2 ⟨[_], _, _, _, [], [], rfl, rfl, rfl, AtF_str.2 ⟨⟨_, rfl, rfl, w1⟩, rfl⟩, AtsF_nil.2 ⟨rfl, rfl, rfl⟩⟩⟩⟩
  apply Ret.to
  rw [op158]
  simp [code158, Tryz.f158, valC]
  exact ⟨[], by simpa using hA, by simp, by simp⟩
theorem to_RdnS : ToFn 54 (.slice shRdn) :=
  toSlc (f := 54) (g := 158) (tS := 22) (tE := 188) (tS2 := 29) (tE2 := 190) (F := Tryz.f54) (op_ren (c := code54) (by kernel_rfl) op54) rfl ty22 (by rw [ty188]; rfl) (by rw [ty188]; rfl) (by rw [ty188]; decide) (by decide) ty29 ty190 rfl to_Rdn
set_option maxRecDepth 10000 in
theorem to_Attr : ToFn 220 shAttr := by
  intro H cs u h hwt
  replace h := At_st.1 h
  obtain ⟨us, rfl, h⟩ := h
  replace h := Ats_cons.1 h
  obtain ⟨c0, d0, u0, rr0, rfl, rfl, h0, h⟩ := h
  replace h := Ats_cons.1 h
  obtain ⟨c1, d1, u1, rr1, rfl, rfl, h1, h⟩ := h
  replace h := Ats_nil.1 h
  obtain ⟨rfl, rfl⟩ := h
  replace h0 := At_str.1 h0
  obtain ⟨s0, rfl, rfl, w0⟩ := h0
  have k1 := h1
  replace h1 := At_slice.1 h1
  obtain ⟨v1, l1, rfl, rfl, w1, hv1⟩ := h1
  have o1 := hv1.one
  simp only [wt_st, wts_cons, wts_nil, wt_str, wt_int, wt_bool] at hwt
  obtain ⟨T1, x1, G1, q1, a1, m1, g1⟩ := to_StringS (H) _ _ (k1) (by omega)
  have y1 := a1
  obtain ⟨z1, _, rfl, zz1, _, _⟩ := AtF_slice.1 y1
  cases zz1
  have oz1 := (At_slice.1 (AtF.at _ a1))
  obtain ⟨_, _, x1, x2, _, oz1⟩ := oz1
  cases x1
  cases x2
  have oz1 := oz1.one
  simp only [valC, List.headD_cons, List.append_nil, List.cons_append, List.nil_append, List.append_assoc] at q1
  have hA : AtF (H ++ T1) shAttr _ _ _ := AtF_st.2 ⟨_, rfl, AtsF_cons.2 ⟨[_], _, _, _, [], _, rfl, rfl, rfl, AtF_str.2 ⟨⟨_, rfl, rfl, w0⟩, rfl⟩, AtsF_cons.2 ⟨[_], _, _, _, G1, _, rfl, rfl, rfl, (a1), AtsF_nil.2 ⟨rfl, rfl, rfl⟩⟩⟩⟩
  simp only [List.append_assoc, List.nil_append, List.append_nil] at hA
  skip
  have hge : ∀ q ∈ G1, H.length ≤ q := by
    intro q hq
    try simp only [List.mem_append] at hq
    · have := g1 q hq; omega
  have hnd : (G1).Nodup := by
    have b1 := AtF.mem _ a1
    exact m1
  obtain ⟨T, hT, hA⟩ := gcH_to hA hge
  simp only [List.cons_append, List.nil_append, List.append_nil] at hT
  apply Ret.to
  rw [op220]
  simp [code220, Tryz.f220, valC, hT, q1, o1, oz1]
  exact ⟨_, hA, hnd, hge⟩
theorem to_AttrS : ToFn 100 (.slice shAttr) :=
  toSlc (f := 100) (g := 220) (tS := 23) (tE := 232) (tS2 := 30) (tE2 := 73) (F := Tryz.f100) (op_ren (c := code100) (by kernel_rfl) op100) rfl ty23 (by rw [ty232]; rfl) (by rw [ty232]; rfl) (by rw [ty232]; decide) (by decide) ty30 ty73 rfl to_Attr
set_option maxRecDepth 10000 in
theorem to_Entry : ToFn 18 shEntry := by
  intro H cs u h hwt
  replace h := At_st.1 h
  obtain ⟨us, rfl, h⟩ := h
  replace h := Ats_cons.1 h
  obtain ⟨c0, d0, u0, rr0, rfl, rfl, h0, h⟩ := h
  replace h := Ats_cons.1 h
  obtain ⟨c1, d1, u1, rr1, rfl, rfl, h1, h⟩ := h
  replace h := Ats_nil.1 h
  obtain ⟨rfl, rfl⟩ := h
  have k0 := h0
  replace h0 := At_slice.1 h0
  obtain ⟨v0, l0, rfl, rfl, w0, hv0⟩ := h0
  have o0 := hv0.one
  have k1 := h1
  replace h1 := At_slice.1 h1
  obtain ⟨v1, l1, rfl, rfl, w1, hv1⟩ := h1
  have o1 := hv1.one
  simp only [wt_st, wts_cons, wts_nil, wt_str, wt_int, wt_bool] at hwt
  obtain ⟨T0, x0, G0, q0, a0, m0, g0⟩ := to_RdnS (H) _ _ (k0) (by omega)
  have y0 := a0
  obtain ⟨z0, _, rfl, zz0, _, _⟩ := AtF_slice.1 y0
  cases zz0
  have oz0 := (At_slice.1 (AtF.at _ a0))
  obtain ⟨_, _, x1, x2, _, oz0⟩ := oz0
  cases x1
  cases x2
  have oz0 := oz0.one
  simp only [valC, List.headD_cons, List.append_nil, List.cons_append, List.nil_append, List.append_assoc] at q0
  obtain ⟨T1, x1, G1, q1, a1, m1, g1⟩ := to_AttrS (H ++ T0) _ _ (k1.ext) (by omega)
  have y1 := a1
  obtain ⟨z1, _, rfl, zz1, _, _⟩ := AtF_slice.1 y1
  cases zz1
  have oz1 := (At_slice.1 (AtF.at _ a1))
  obtain ⟨_, _, x1, x2, _, oz1⟩ := oz1
  cases x1
  cases x2
  have oz1 := oz1.one
  simp only [valC, List.headD_cons, List.append_nil, List.cons_append, List.nil_append, List.append_assoc] at q1
  have hA : AtF (H ++ T0 ++ T1) shEntry _ _ _ := AtF_st.2 ⟨_, rfl, AtsF_cons.2 ⟨[_], _, _, _, G0, _, rfl, rfl, rfl, (a0.app), AtsF_cons.2 ⟨[_], _, _, _, G1, _, rfl, rfl, rfl, (a1), AtsF_nil.2 ⟨rfl, rfl, rfl⟩⟩⟩⟩
  simp only [List.append_assoc, List.nil_append, List.append_nil] at hA
  simp only [List.length_append] at g0 g1
  have hge : ∀ q ∈ G0 ++ (G1), H.length ≤ q := by
    intro q hq
    try simp only [List.mem_append] at hq
    rcases hq with hq | hq
    · have := g0 q hq; omega
    · have := g1 q hq; omega
  have hnd : (G0 ++ (G1)).Nodup := by
    have b0 := AtF.mem _ a0
    have b1 := AtF.mem _ a1
    simp only [List.length_append] at b0 b1
    refine List.nodup_append.2 ⟨m0, ?_, fun x hx y hy e => ?_⟩
    rotate_left
    · subst e
      have := b0 x hx
      try simp only [List.mem_append] at hy
      · have := g1 x hy; omega
    exact m1
  obtain ⟨T, hT, hA⟩ := gcH_to hA hge
  simp only [List.cons_append, List.nil_append, List.append_nil] at hT
  apply Ret.to
  rw [op18]
  simp [code18, Tryz.f18, valC, hT, q0, q1, o0, o1, oz0, oz1]
  exact ⟨_, hA, hnd, hge⟩
theorem to_EntryS : ToFn 125 (.slice shEntry) :=
  toSlc (f := 125) (g := 18) (tS := 47) (tE := 25) (tS2 := 53) (tE2 := 32) (F := Tryz.f125) (op_ren (c := code125) (by kernel_rfl) op125) rfl ty47 (by rw [ty25]; rfl) (by rw [ty25]; rfl) (by rw [ty25]; decide) (by decide) ty53 ty32 rfl to_Entry
set_option maxRecDepth 10000 in
theorem to_Class : ToFn 237 shClass := by
  intro H cs u h hwt
  replace h := At_st.1 h
  obtain ⟨us, rfl, h⟩ := h
  replace h := Ats_cons.1 h
  obtain ⟨c0, d0, u0, rr0, rfl, rfl, h0, h⟩ := h
  replace h := Ats_cons.1 h
  obtain ⟨c1, d1, u1, rr1, rfl, rfl, h1, h⟩ := h
  replace h := Ats_cons.1 h
  obtain ⟨c2, d2, u2, rr2, rfl, rfl, h2, h⟩ := h
  replace h := Ats_cons.1 h
  obtain ⟨c3, d3, u3, rr3, rfl, rfl, h3, h⟩ := h
  replace h := Ats_nil.1 h
  obtain ⟨rfl, rfl⟩ := h
  replace h0 := At_str.1 h0
  obtain ⟨s0, rfl, rfl, w0⟩ := h0
  have k1 := h1
  replace h1 := At_slice.1 h1
  obtain ⟨v1, l1, rfl, rfl, w1, hv1⟩ := h1
  have o1 := hv1.one
  have k2 := h2
  replace h2 := At_slice.1 h2
  obtain ⟨v2, l2, rfl, rfl, w2, hv2⟩ := h2
  have o2 := hv2.one
  have k3 := h3
  replace h3 := At_slice.1 h3
  obtain ⟨v3, l3, rfl, rfl, w3, hv3⟩ := h3
  have o3 := hv3.one
  simp only [wt_st, wts_cons, wts_nil, wt_str, wt_int, wt_bool] at hwt
  obtain ⟨T1, x1, G1, q1, a1, m1, g1⟩ := to_StringS (H) _ _ (k1) (by omega)
  have y1 := a1
  obtain ⟨z1, _, rfl, zz1, _, _⟩ := AtF_slice.1 y1
  cases zz1
  have oz1 := (At_slice.1 (AtF.at _ a1))
  obtain ⟨_, _, x1, x2, _, oz1⟩ := oz1
  cases x1
  cases x2
  have oz1 := oz1.one
  simp only [valC, List.headD_cons, List.append_nil, List.cons_append, List.nil_append, List.append_assoc] at q1
  obtain ⟨T2, x2, G2, q2, a2, m2, g2⟩ := to_StringS (H ++ T1) _ _ (k2.ext) (by omega)
  have y2 := a2
  obtain ⟨z2, _, rfl, zz2, _, _⟩ := AtF_slice.1 y2
  cases zz2
  have oz2 := (At_slice.1 (AtF.at _ a2))
  obtain ⟨_, _, x1, x2, _, oz2⟩ := oz2
  cases x1
  cases x2
  have oz2 := oz2.one
  simp only [valC, List.headD_cons, List.append_nil, List.cons_append, List.nil_append, List.append_assoc] at q2
  obtain ⟨T3, x3, G3, q3, a3, m3, g3⟩ := to_StringS (H ++ T1 ++ T2) _ _ (k3.ext.ext) (by omega)
  have y3 := a3
  obtain ⟨z3, _, rfl, zz3, _, _⟩ := AtF_slice.1 y3
  cases zz3
  have oz3 := (At_slice.1 (AtF.at _ a3))
  obtain ⟨_, _, x1, x2, _, oz3⟩ := oz3
  cases x1
  cases x2
  have oz3 := oz3.one
  simp only [valC, List.headD_cons, List.append_nil, List.cons_append, List.nil_append, List.append_assoc] at q3
  have hA : AtF (H ++ T1 ++ T2 ++ T3) shClass _ _ _ := AtF_st.2 ⟨_, rfl, AtsF_cons.2 ⟨[_], _, _, _, [], _, rfl, rfl, rfl, AtF_str.2 ⟨⟨_, rfl, rfl, w0⟩, rfl⟩, AtsF_cons.2 ⟨[_], _, _, _, G1, _, rfl, rfl, rfl, (a1.app.app), AtsF_cons.2 ⟨[_], _, _, _, G2, _, rfl, rfl, rfl, (a2.app), AtsF_cons.2 ⟨[_], _, _, _, G3, _, rfl, rfl, rfl, (a3), AtsF_nil.2 ⟨rfl, rfl, rfl⟩⟩⟩⟩⟩⟩
  simp only [List.append_assoc, List.nil_append, List.append_nil] at hA
  simp only [List.length_append] at g1 g2 g3
  have hge : ∀ q ∈ G1 ++ (G2 ++ (G3)), H.length ≤ q := by
    intro q hq
    try simp only [List.mem_append] at hq
    rcases hq with hq | hq | hq
    · have := g1 q hq; omega
    · have := g2 q hq; omega
    · have := g3 q hq; omega
  have hnd : (G1 ++ (G2 ++ (G3))).Nodup := by
    have b1 := AtF.mem _ a1
    have b2 := AtF.mem _ a2
    have b3 := AtF.mem _ a3
    simp only [List.length_append] at b1 b2 b3
    refine List.nodup_append.2 ⟨m1, ?_, fun x hx y hy e => ?_⟩
    rotate_left
    · subst e
      have := b1 x hx
      try simp only [List.mem_append] at hy
      rcases hy with hy | hy
      · have := g2 x hy; omega
      · have := g3 x hy; omega
    refine List.nodup_append.2 ⟨m2, ?_, fun x hx y hy e => ?_⟩
    rotate_left
    · subst e
      have := b2 x hx
      try simp only [List.mem_append] at hy
      · have := g3 x hy; omega
    exact m3
  obtain ⟨T, hT, hA⟩ := gcH_to hA hge
  simp only [List.cons_append, List.nil_append, List.append_nil] at hT
  apply Ret.to
  rw [op237]
  simp [code237, Tryz.f237, valC, hT, q1, q2, q3, o1, o2, o3, oz1, oz2, oz3]
  exact ⟨_, hA, hnd, hge⟩
theorem to_ClassS : ToFn 124 (.slice shClass) :=
  toSlc (f := 124) (g := 237) (tS := 46) (tE := 243) (tS2 := 52) (tE2 := 68) (F := Tryz.f124) (op_ren (c := code124) (by kernel_rfl) op124) rfl ty46 (by rw [ty243]; rfl) (by rw [ty243]; rfl) (by rw [ty243]; decide) (by decide) ty52 ty68 rfl to_Class
set_option maxRecDepth 10000 in
theorem to_Tree : ToFn 32 shTree := by
  intro H cs u h hwt
  replace h := At_st.1 h
  obtain ⟨us, rfl, h⟩ := h
  replace h := Ats_cons.1 h
  obtain ⟨c0, d0, u0, rr0, rfl, rfl, h0, h⟩ := h
  replace h := Ats_cons.1 h
  obtain ⟨c1, d1, u1, rr1, rfl, rfl, h1, h⟩ := h
  replace h := Ats_nil.1 h
  obtain ⟨rfl, rfl⟩ := h
  have k0 := h0
  replace h0 := At_slice.1 h0
  obtain ⟨v0, l0, rfl, rfl, w0, hv0⟩ := h0
  have o0 := hv0.one
  have k1 := h1
  replace h1 := At_slice.1 h1
  obtain ⟨v1, l1, rfl, rfl, w1, hv1⟩ := h1
  have o1 := hv1.one
  simp only [wt_st, wts_cons, wts_nil, wt_str, wt_int, wt_bool] at hwt
  obtain ⟨T0, x0, G0, q0, a0, m0, g0⟩ := to_ClassS (H) _ _ (k0) (by omega)
  have y0 := a0
  obtain ⟨z0, _, rfl, zz0, _, _⟩ := AtF_slice.1 y0
  cases zz0
  have oz0 := (At_slice.1 (AtF.at _ a0))
  obtain ⟨_, _, x1, x2, _, oz0⟩ := oz0
  cases x1
  cases x2
  have oz0 := oz0.one
  simp only [valC, List.headD_cons, List.append_nil, List.cons_append, List.nil_append, List.append_assoc] at q0
  obtain ⟨T1, x1, G1, q1, a1, m1, g1⟩ := to_EntryS (H ++ T0) _ _ (k1.ext) (by omega)
  have y1 := a1
  obtain ⟨z1, _, rfl, zz1, _, _⟩ := AtF_slice.1 y1
  cases zz1
  have oz1 := (At_slice.1 (AtF.at _ a1))
  obtain ⟨_, _, x1, x2, _, oz1⟩ := oz1
  cases x1
  cases x2
  have oz1 := oz1.one
  simp only [valC, List.headD_cons, List.append_nil, List.cons_append, List.nil_append, List.append_assoc] at q1
  have hA : AtF (H ++ T0 ++ T1) shTree _ _ _ := AtF_st.2 ⟨_, rfl, AtsF_cons.2 ⟨[_], _, _, _, G0, _, rfl, rfl, rfl, (a0.app), AtsF_cons.2 ⟨[_], _, _, _, G1, _, rfl, rfl, rfl, (a1), AtsF_nil.2 ⟨rfl, rfl, rfl⟩⟩⟩⟩
  simp only [List.append_assoc, List.nil_append, List.append_nil] at hA
  simp only [List.length_append] at g0 g1
  have hge : ∀ q ∈ G0 ++ (G1), H.length ≤ q := by
    intro q hq
    try simp only [List.mem_append] at hq
    rcases hq with hq | hq
    · have := g0 q hq; omega
    · have := g1 q hq; omega
  have hnd : (G0 ++ (G1)).Nodup := by
    have b0 := AtF.mem _ a0
    have b1 := AtF.mem _ a1
    simp only [List.length_append] at b0 b1
    refine List.nodup_append.2 ⟨m0, ?_, fun x hx y hy e => ?_⟩
    rotate_left
    · subst e
      have := b0 x hx
      try simp only [List.mem_append] at hy
      · have := g1 x hy; omega
    exact m1
  obtain ⟨T, hT, hA⟩ := gcH_to hA hge
  simp only [List.cons_append, List.nil_append, List.append_nil] at hT
  apply Ret.to
  rw [op32]
  simp [code32, Tryz.f32, valC, hT, q0, q1, o0, o1, oz0, oz1]
  exact ⟨_, hA, hnd, hge⟩
end Go.Proofs.Try1
end

section
namespace Go.Proofs.Try1
open Go Go.Lite
set_option linter.unusedSimpArgs false
set_option linter.unusedVariables false

set_option maxRecDepth 10000 in
theorem markText {H : List Ob} {k : Nat} (hk : k ≤ 100000000) : callW C 111 [.int .i64 k] H = some (.str (markStr k), H) := by
  apply Ret.eq
  rw [op111]
  by_cases h0 : k = 0
  · subst h0
    simp [code111, Tryz.f111, markStr]
  · have hp : ¬ ((k : Int) ≤ 0) := by omega
    simp [code111, Tryz.f111, hp, h0]
    refine WP_loop (fun m σ => ∃ (r : Nat → R) (out : Str) (G T : List Ob), G = H ++ T ∧ σ = ⟨r, 0, G⟩ ∧ r 0 = .val (.int .i64 m) ∧ r 3 = .val (.str out) ∧ markLoop k [] = markLoop m out ∧ m ≤ 100000000 ∧ out.length + m ≤ 100000000) ?_ k _ ⟨_, [], H, [], by simp, rfl, by simp, by simp, rfl, hk, by simpa using hk⟩
    rintro m σ ⟨r, out, G, T, hG, rfl, r0, r3, hm, m1, m2⟩
    by_cases hz : m = 0
    · subst hz
      rw [markLoop_zero] at hm
      have hl : out.length + 1 ≤ maxStr := by unfold maxStr; omega
      have hl' : 1 + out.length ≤ maxStr := by unfold maxStr; omega
      subst hG
      simp [r0, r3, markStr, h0, hm, hl, hl']
    · have hpm : (0 : Int) < (m : Int) := by omega
      have hr : ((m : Int).tmod 10) = (m : Int) % 10 := by rw [Int.tmod_eq_emod_of_nonneg (by omega)]
      have hw : IntKind.i64.wrap (48 + (m : Int) % 10) = 48 + (m : Int) % 10 := wrap_i64 (by omega) (by omega)
      have hu : IntKind.u8.wrap (48 + (m : Int) % 10) = 48 + (m : Int) % 10 := by unfold IntKind.wrap; simp [IntKind.bits, IntKind.signed]; omega
      have hn : (48 + (m : Int) % 10).toNat = 48 + m % 10 := by omega
      have hq : ((m : Int).tdiv 10) = (m : Int) / 10 := by rw [Int.tdiv_eq_ediv_of_nonneg (by omega)]
      have hw2 : IntKind.i64.wrap ((m : Int) / 10) = (m : Int) / 10 := wrap_i64 (by omega) (by omega)
      have hl' : 1 + out.length ≤ maxStr := by unfold maxStr; omega
      have hmp : 0 < m := by omega
      simp [r0, r3, hpm, elemT, hz, hr, hw, hq, hw2, hu, hn, hl', hmp, fillL, zerosL, slcCells, isByte, byteOfV]
      refine ⟨m / 10, by omega, _, (48 + UInt8.ofNat (m % 10)) :: out, _, ⟨T ++ _, by rw [hG, List.append_assoc]⟩, ⟨rfl, rfl⟩, by simp, by simp, ?_, by omega, by simp; omega⟩
      rw [hm, markLoop_step hz]

theorem mark_ok {k : Nat} (h : k ≤ 50000000) : (markStr k).length ≤ maxLen := by
  have := markStr_len (k := k)
  unfold maxLen
  omega

/-- The function puts marks into what belongs to a datum. -/
def MkFn (f : Nat) (sh : Sh) : Prop := ∀ (H : List Ob) (cs : List V) (u : U) (F : List Nat) (k : Nat), AtF H sh cs u F → F.Nodup → k + cntV u ≤ 50000000 →
  ∃ H', callW C f [valC sh cs, .int .i64 k] H = some (.int .i64 ((k + cntV u : Nat) : Int), H') ∧ H'.length = H.length ∧ (∀ q, q ∉ F → H'[q]? = H[q]?) ∧ AtF H' sh cs (mkV u k) F

theorem Ret.mark {f : Nat} {a : List V} {H : List Ob} {n : Int} {P : List Ob → Prop} (h : Ret C f a H fun r H' => r = .int .i64 n ∧ P H') : ∃ H', callW C f a H = some (.int .i64 n, H') ∧ P H' := by
  obtain ⟨r, H', hc, rfl, h⟩ := h
  exact ⟨H', hc, h⟩

theorem gcH_len {H H' : List Ob} {r : V} (h : H'.length = H.length) : gcH H H' r = H' := by
  unfold gcH
  split
  · rename_i hc
    obtain ⟨⟨T, rfl⟩, _⟩ := hc
    simp at h
    rw [h, List.append_nil]
  · rfl

set_option maxRecDepth 10000 in
theorem mk_StringS : MkFn 25 (.slice .str) := by
  intro H cs u F k h hn hk
  obtain ⟨v, l, rfl, rfl, hlen, hv⟩ := AtF_slice.1 h
  have hv := (AtF_slice.2 ⟨v, l, rfl, rfl, hlen, hv⟩).at
  obtain ⟨_, _, hx1, hx2, _, hv⟩ := At_slice.1 hv
  cases hx1; cases hx2
  apply Ret.mark
  rw [op25]
  simp only [cntV] at hk
  have hl64 : l.length ≤ 9223372036854775807 := hlen
  simp [code25, Tryz.f25, valC, -setRange]
  refine WP_loop (fun m σ => ∃ (i : Nat) (r : Nat → R) (G : List Ob), i + m = l.length ∧ σ = ⟨r, 0, G⟩ ∧ r 0 = .val v ∧ r 1 = .val (.int .i64 ((k + cntPs (l.take i) : Nat) : Int)) ∧ r 5 = .val (.int .i64 i) ∧ G.length = H.length ∧ (∀ q, q ∉ F → G[q]? = H[q]?) ∧ AtF G (.slice .str) [v] (.lst (mkPs (l.take i) k ++ l.drop i)) F) ?_ l.length _ ⟨0, _, H, by simp, rfl, by simp, by simp [cntPs], by simp, rfl, fun _ _ => rfl, by simpa [mkPs] using h⟩
  rintro m σ ⟨i, r, G, him, rfl, r0, r1, r5, g1, g2, g3⟩
  cases m with
  | zero =>
    have hi : i = l.length := by omega
    subst hi
    simp at g3
    simp [r0, r1, r5, hv.len, gcH_len g1, cntV, mkV]
    exact ⟨g1, g2, g3⟩
  | succ m =>
    have hi : i < l.length := by omega
    obtain ⟨x, hx⟩ : ∃ x, l[i]? = some x := ⟨l[i], by simp [hi]⟩
    obtain ⟨id, off, cells, K, e0, e1, e2, e3, e4, e5, e6, e7, e8⟩ := AtF.elem g3 hn (i := i) (x := x) (by rw [mk_get hi, hx])
    have hL : (mkPs (l.take i) k ++ l.drop i).length = l.length := by simp [mkPs_len]; omega
    rw [hL] at e0
    subst e0
    obtain ⟨⟨s, e3, rfl, _⟩, rfl⟩ := AtF_str.1 e3
    have hcnt := cntPs_take hx
    have hle := cntPs_take_le (l := l) (i := i + 1)
    simp only [cntP] at hcnt
    have hm := markText (H := G) (k := k + cntPs (l.take i)) (by omega)
    simp only [Sh.size_str, Nat.mul_one] at e1 e2 e8
    have st := store1 (v := .str (markStr (k + cntPs (l.take i)))) (o := off + i) e1 (by omega) rfl rfl
    have hre := e8 (G.set id (.mk true 1 (cells.set (off + i) (.str (markStr (k + cntPs (l.take i))))))) [.str (markStr (k + cntPs (l.take i)))] (.str (markStr (k + cntPs (l.take i)))) rfl
      (by rw [List.getElem?_set_self (List.getElem?_eq_some_iff.1 e1).1, setRange_one (by omega)]) (fun q _ hq _ => by rw [List.getElem?_set_ne (Ne.symm hq)]) (AtF_str.2 ⟨⟨_, rfl, rfl, mark_ok (by omega)⟩, rfl⟩)
    have hmk := mk_set (k := k) hx
    simp only [mkP] at hmk
    rw [hmk] at hre
    have hw : IntKind.i64.wrap ((i : Int) + 1) = ((i : Int) + 1) := wrap_i64 (by omega) (by omega)
    have hw2 : IntKind.i64.wrap ((k : Int) + cntPs (l.take i) + 1) = (k : Int) + cntPs (l.take i) + 1 := wrap_i64 (by omega) (by omega)
    simp only [Int.natCast_add] at hm r1
    simp [r0, r1, r5, hi, hm, st, hw, hw2, -setRange]
    exact ⟨m, by omega, i + 1, by omega, _, _, ⟨rfl, rfl⟩, by simp [r0], by simp; omega, by simp, by simpa using g1, fun q hq => by rw [List.getElem?_set_ne (by rintro rfl; exact hq e6)]; exact g2 q hq, hre⟩

/-- The function finds the marks again. -/
def HeldFn (f : Nat) (sh : Sh) : Prop := ∀ (H : List Ob) (cs : List V) (u : U) (k : Nat), At H sh cs (mkV u k) → k + cntV u ≤ 50000000 →
  callW C f [valC sh cs, .int .i64 k] H = some (.int .i64 ((k + cntV u : Nat) : Int), H)

set_option maxRecDepth 10000 in
theorem held_StringS : HeldFn 335 (.slice .str) := by
  intro H cs u k h hk
  obtain ⟨v, l', rfl, hu, hlen, hv⟩ := At_slice.1 h
  obtain ⟨l, rfl, rfl⟩ := mkV_lst hu
  apply Ret.eq
  rw [op335]
  simp only [cntV] at hk ⊢
  have hl64 : (mkPs l k).length ≤ 9223372036854775807 := hlen
  rw [mkPs_len] at hl64
  have hvl := fun {e s b : Nat} {z : List V} => hv.len (e := e) (s := s) (b := b) (z := z)
  simp only [mkPs_len] at hvl
  simp [code335, Tryz.f335, valC]
  refine WP_loop (fun m σ => ∃ (i : Nat) (r : Nat → R), i + m = l.length ∧ σ = ⟨r, 0, H⟩ ∧ r 0 = .val v ∧ r 1 = .val (.int .i64 ((k + cntPs (l.take i) : Nat) : Int)) ∧ r 5 = .val (.int .i64 i)) ?_ l.length _ ⟨0, _, by simp, rfl, by simp, by simp [cntPs], by simp⟩
  rintro m σ ⟨i, r, him, rfl, r0, r1, r5⟩
  cases m with
  | zero =>
    have hi : i = l.length := by omega
    subst hi
    simp at r1
    simp [r0, r1, r5, hvl]
  | succ m =>
    have hi : i < l.length := by omega
    obtain ⟨x, hx⟩ : ∃ x, l[i]? = some x := ⟨l[i], by simp [hi]⟩
    obtain ⟨eid, o, own, cells, e1, e2, e3, e0⟩ := hv.idx (mkPs_get hx) (by decide)
    obtain ⟨s, e4, e5, e6⟩ := At_str.1 e0
    obtain ⟨⟨t, rfl⟩, rfl⟩ := mkP_str e5
    simp only [Sh.size_str] at e1
    have c0 : cells[o]? = some (.str (markStr (k + cntPs (l.take i)))) := by simpa using cells_get e4 (j := 0) rfl
    have ld := load1 e2 c0
    have hid : eid < H.length := (List.getElem?_eq_some_iff.1 e2).1
    have hcnt := cntPs_take hx
    have hle := cntPs_take_le (l := l) (i := i + 1)
    simp only [cntP] at hcnt
    have hm := markText (H := H) (k := k + cntPs (l.take i)) (by omega)
    have hw : IntKind.i64.wrap ((i : Int) + 1) = ((i : Int) + 1) := wrap_i64 (by omega) (by omega)
    have hw2 : IntKind.i64.wrap ((k : Int) + cntPs (l.take i) + 1) = (k : Int) + cntPs (l.take i) + 1 := wrap_i64 (by omega) (by omega)
    simp only [Int.natCast_add] at hm r1
    simp [r0, r1, r5, hi, hvl, e1, ld, hid, hm, hw, hw2]
    exact ⟨m, by omega, i + 1, by omega, by omega, by omega⟩
end Go.Proofs.Try1
end

section
namespace Go.Proofs.Try1
open Go Go.Lite
set_option linter.unusedSimpArgs false
set_option linter.unusedVariables false
set_option maxRecDepth 10000 in
theorem mk_RdnS : MkFn 58 (.slice shRdn) := by
  intro H cs u F k h hn hk
  obtain ⟨v, l, rfl, rfl, hlen, hv⟩ := AtF_slice.1 h
  have hv := (AtF_slice.2 ⟨v, l, rfl, rfl, hlen, hv⟩).at
  obtain ⟨_, _, hx1, hx2, _, hv⟩ := At_slice.1 hv
  cases hx1; cases hx2
  apply Ret.mark
  rw [op58]
  simp only [cntV] at hk
  have hl64 : l.length ≤ 9223372036854775807 := hlen
  simp [code58, Tryz.f58, valC, -setRange]
  refine WP_loop (fun m σ => ∃ (i : Nat) (r : Nat → R) (G : List Ob), i + m = l.length ∧ σ = ⟨r, 0, G⟩ ∧ r 0 = .val v ∧ r 1 = .val (.int .i64 ((k + cntPs (l.take i) : Nat) : Int)) ∧ r 5 = .val (.int .i64 i) ∧ G.length = H.length ∧ (∀ q, q ∉ F → G[q]? = H[q]?) ∧ AtF G (.slice shRdn) [v] (.lst (mkPs (l.take i) k ++ l.drop i)) F) ?_ l.length _ ⟨0, _, H, by simp, rfl, by simp, by simp [cntPs], by simp, rfl, fun _ _ => rfl, by simpa [mkPs] using h⟩
  rintro m σ ⟨i, r, G, him, rfl, r0, r1, r5, g1, g2, g3⟩
  cases m with
  | zero =>
    have hi : i = l.length := by omega
    subst hi
    simp at g3
    simp [r0, r1, r5, hv.len, gcH_len g1, cntV, mkV]
    exact ⟨g1, g2, g3⟩
  | succ m =>
    have hi : i < l.length := by omega
    obtain ⟨x, hx⟩ : ∃ x, l[i]? = some x := ⟨l[i], by simp [hi]⟩
    have hx0 : (mkPs (l.take i) k ++ l.drop i)[i]? = some x := by rw [mk_get hi, hx]
    have hmk := mk_set (k := k) hx
    have hcnt := cntPs_take hx
    have hle := cntPs_take_le (l := l) (i := i + 1)
    have hL : (mkPs (l.take i) k ++ l.drop i).length = l.length := by simp [mkPs_len]; omega
    obtain ⟨L, hLd⟩ : ∃ L, L = mkPs (l.take i) k ++ l.drop i := ⟨_, rfl⟩
    rw [← hLd] at hx0 hmk hL g3
    clear hLd
    obtain ⟨id, off, cells, K, e0, e1, e2, e3, e4, e5, e6, e7, e8⟩ := AtF.elem g3 hn hx0
    clear e1 e2 e4 e5 e7 e8
    rw [hL] at e0
    subst e0
    generalize List.take (shRdn).size (List.drop (off + i * (shRdn).size) cells) = cc at e3
    replace e3 := AtF_st.1 e3
    obtain ⟨us, rfl, e3⟩ := e3
    replace e3 := AtsF_cons.1 e3
    obtain ⟨c0, d0, u0, rr0, F0, E0, rfl, rfl, rfl, h0, e3⟩ := e3
    replace e3 := AtsF_cons.1 e3
    obtain ⟨c1, d1, u1, rr1, F1, E1, rfl, rfl, rfl, h1, e3⟩ := e3
    replace e3 := AtsF_nil.1 e3
    obtain ⟨rfl, rfl, rfl⟩ := e3
    replace h0 := AtF_str.1 h0
    obtain ⟨⟨s0, rfl, rfl, w0⟩, rfl⟩ := h0
    replace h1 := AtF_str.1 h1
    obtain ⟨⟨s1, rfl, rfl, w1⟩, rfl⟩ := h1
    simp only [cntP, cntPs_cons, cntPs_nil, Nat.add_zero] at hcnt
    obtain ⟨kk, hkk⟩ : ∃ kk, kk = k + cntPs (l.take i) := ⟨_, rfl⟩
    rw [← hkk] at r1
    obtain ⟨id0, off0, cells0, w0, K0, ev0, eg0, ei0, ek0, ew0, ea0, en0, es0, er0, et0⟩ := AtF.field [] g3 hn (i := i) (us1 := []) (u := (.str s0)) (us2 := [(.str s1)]) hx0 rfl rfl
    simp only [V.slc.injEq, Option.some.injEq, Prod.mk.injEq] at ev0
    obtain ⟨⟨rfl, rfl⟩, _⟩ := ev0
    simp only [shRdn, Sh.size_st, Sh.sizes_cons, Sh.sizes_nil, Sh.size_str, Sh.size_slice, Sh.size_int, Sh.size_bool, List.cons_append, List.nil_append, Nat.reduceAdd, Nat.add_zero] at eg0 ew0 et0 er0
    obtain ⟨_, rfl⟩ := AtF_str.1 ea0
    have q0 := markText (H := G) (k := kk) (by omega)
    have st0 := store1 (v := (.str (markStr kk))) eg0 (List.getElem?_eq_some_iff.1 ew0).1 rfl rfl
    have A0 := et0 (.str (markStr kk)) (.str (markStr kk)) (AtF_str.2 ⟨⟨_, rfl, rfl, mark_ok (by omega)⟩, rfl⟩)
    obtain ⟨G0, hG0⟩ : ∃ G', G' = G.set id (.mk true 2 (cells0.set (off + i * 2) (.str (markStr kk)))) := ⟨_, rfl⟩
    rw [← hG0] at st0 A0
    have ln0 : G0.length = H.length := by rw [hG0, List.length_set]; exact g1
    have fr0 : ∀ q, q ∉ F → G0[q]? = H[q]? := fun q hq => by rw [hG0, List.getElem?_set_ne (by rintro rfl; exact hq e6)]; exact g2 q hq
    clear hG0
    obtain ⟨kk0, hkk0⟩ : ∃ n, n = kk + 1 := ⟨_, rfl⟩
    have hw0 : IntKind.i64.wrap ((kk : Int) + 1) = (kk0 : Int) := by rw [wrap_i64 (by omega) (by omega)]; omega
    have hx0_ : (L.set i (.st [(.str (markStr kk)), (.str s1)]))[i]? = some (.st [(.str (markStr kk)), (.str s1)]) := List.getElem?_set_self (by omega)
    obtain ⟨id1, off1, cells1, w1, K1, ev1, eg1, ei1, ek1, ew1, ea1, en1, es1, er1, et1⟩ := AtF.field [.str] A0 hn (i := i) (us1 := [(.str (markStr kk))]) (u := (.str s1)) (us2 := []) hx0_ rfl rfl
    simp only [V.slc.injEq, Option.some.injEq, Prod.mk.injEq] at ev1
    obtain ⟨⟨rfl, rfl⟩, _⟩ := ev1
    simp only [shRdn, Sh.size_st, Sh.sizes_cons, Sh.sizes_nil, Sh.size_str, Sh.size_slice, Sh.size_int, Sh.size_bool, List.cons_append, List.nil_append, Nat.reduceAdd, Nat.add_zero] at eg1 ew1 et1 er1
    obtain ⟨_, rfl⟩ := AtF_str.1 ea1
    have q1 := markText (H := G0) (k := kk0) (by omega)
    have st1 := store1 (v := (.str (markStr kk0))) eg1 (List.getElem?_eq_some_iff.1 ew1).1 rfl rfl
    have A1 := et1 (.str (markStr kk0)) (.str (markStr kk0)) (AtF_str.2 ⟨⟨_, rfl, rfl, mark_ok (by omega)⟩, rfl⟩)
    obtain ⟨G1, hG1⟩ : ∃ G', G' = G0.set id (.mk true 2 (cells1.set (off + i * 2 + 1) (.str (markStr kk0)))) := ⟨_, rfl⟩
    rw [← hG1] at st1 A1
    have ln1 : G1.length = H.length := by rw [hG1, List.length_set]; exact ln0
    have fr1 : ∀ q, q ∉ F → G1[q]? = H[q]? := fun q hq => by rw [hG1, List.getElem?_set_ne (by rintro rfl; exact hq e6)]; exact fr0 q hq
    clear hG1
    obtain ⟨kk1, hkk1⟩ : ∃ n, n = kk0 + 1 := ⟨_, rfl⟩
    have hw1 : IntKind.i64.wrap ((kk0 : Int) + 1) = (kk1 : Int) := by rw [wrap_i64 (by omega) (by omega)]; omega
    rw [List.set_set] at A1
    have hx1_ : (L.set i (.st [(.str (markStr kk)), (.str (markStr kk0))]))[i]? = some (.st [(.str (markStr kk)), (.str (markStr kk0))]) := List.getElem?_set_self (by omega)
    have hks : k + cntPs (l.take (i + 1)) = kk1 := by omega
    rw [show L.set i (.st [(.str (markStr kk)), (.str (markStr kk0))]) = _ from (by simp only [hkk0, hkk1, hkk]; exact hmk)] at A1
    have hw : IntKind.i64.wrap ((i : Int) + 1) = ((i : Int) + 1) := wrap_i64 (by omega) (by omega)
    have hix : i + 1 ≤ l.length := hi
    simp [r0, r1, r5, hi, hw, q0, st0, hw0, q1, st1, hw1, -setRange]
    exact ⟨m, by omega, i + 1, by omega, _, _, ⟨rfl, rfl⟩, by simp [r0], by simp; omega, by simp, ln1, fr1, A1⟩
set_option maxRecDepth 10000 in
theorem held_RdnS : HeldFn 229 (.slice shRdn) := by
  intro H cs u k h hk
  obtain ⟨v, l', rfl, hu, hlen, hv⟩ := At_slice.1 h
  obtain ⟨l, rfl, rfl⟩ := mkV_lst hu
  apply Ret.eq
  rw [op229]
  simp only [cntV] at hk ⊢
  have hl64 : (mkPs l k).length ≤ 9223372036854775807 := hlen
  rw [mkPs_len] at hl64
  have hvl := fun {e s b : Nat} {z : List V} => hv.len (e := e) (s := s) (b := b) (z := z)
  simp only [mkPs_len] at hvl
  simp [code229, Tryz.f229, valC]
  refine WP_loop (fun m σ => ∃ (i kk : Nat) (r : Nat → R), i + m = l.length ∧ kk = k + cntPs (l.take i) ∧ σ = ⟨r, 0, H⟩ ∧ r 0 = .val v ∧ r 1 = .val (.int .i64 kk) ∧ r 5 = .val (.int .i64 i)) ?_ l.length _ ⟨0, k, _, by simp, by simp [cntPs], rfl, by simp, by simp, by simp⟩
  rintro m σ ⟨i, kk, r, him, hkk, rfl, r0, r1, r5⟩
  cases m with
  | zero =>
    have hi : i = l.length := by omega
    subst hi
    rw [List.take_length] at hkk
    simp [r0, r1, r5, hvl, hkk]
  | succ m =>
    have hi : i < l.length := by omega
    obtain ⟨x, hx⟩ : ∃ x, l[i]? = some x := ⟨l[i], by simp [hi]⟩
    obtain ⟨eid, o, own, cells, e1, e2, e3, e0⟩ := hv.idx (mkPs_get hx) (by decide)
    rw [← hkk] at e0
    have hcnt := cntPs_take hx
    have hle := cntPs_take_le (l := l) (i := i + 1)
    have hid : eid < H.length := (List.getElem?_eq_some_iff.1 e2).1
    have hw : IntKind.i64.wrap ((i : Int) + 1) = ((i : Int) + 1) := wrap_i64 (by omega) (by omega)
    obtain ⟨us0, hu0, E0⟩ := At_st.1 e0
    obtain ⟨us0, rfl, rfl⟩ := mkP_st hu0
    obtain ⟨c0, d0, u0, rr0, hc0, hu, h0, E1⟩ := Ats_cons.1 E0
    obtain ⟨u0, us0, rfl, rfl, rfl⟩ := mkPs_cons hu
    obtain ⟨s0, rfl, hs, _⟩ := At_str.1 h0
    obtain ⟨⟨t0, rfl⟩, rfl⟩ := mkP_str hs
    obtain ⟨kk1, hkk1⟩ : ∃ n, n = kk + cntP (.str t0) := ⟨_, rfl⟩
    rw [← hkk1] at E1
    obtain ⟨c1, d1, u1, rr1, rfl, hu, h1, E2⟩ := Ats_cons.1 E1
    obtain ⟨u1, us0, rfl, rfl, rfl⟩ := mkPs_cons hu
    obtain ⟨s1, rfl, hs, _⟩ := At_str.1 h1
    obtain ⟨⟨t1, rfl⟩, rfl⟩ := mkP_str hs
    obtain ⟨kk2, hkk2⟩ : ∃ n, n = kk1 + cntP (.str t1) := ⟨_, rfl⟩
    rw [← hkk2] at E2
    obtain ⟨rfl, hun⟩ := Ats_nil.1 E2
    obtain rfl := mkPs_nil hun
    simp only [List.cons_append, List.nil_append, List.append_nil] at hc0
    simp only [cntP_st, cntPs_cons, cntPs_nil, cntP_str, cntP_int, cntP_bool, Nat.add_zero] at hcnt hkk1 hkk2
    have ld0 := load1 e2 (by simpa using cells_get hc0 (j := 0) rfl)
    have hm0 := markText (H := H) (k := kk) (by omega)
    have hw0 : IntKind.i64.wrap ((kk : Int) + 1) = (kk1 : Int) := by rw [wrap_i64 (by omega) (by omega)]; omega
    have ld1 := load1 e2 (by simpa using cells_get hc0 (j := 1) rfl)
    have hm1 := markText (H := H) (k := kk1) (by omega)
    have hw1 : IntKind.i64.wrap ((kk1 : Int) + 1) = (kk2 : Int) := by rw [wrap_i64 (by omega) (by omega)]; omega
    rw [show (shRdn).size = 2 from rfl] at e1
    simp [r0, r1, r5, hi, hvl, e1, hid, hw, ld0, hm0, hw0, ld1, hm1, hw1]
    exact ⟨m, by omega, i + 1, by omega, by omega, by omega⟩
set_option maxRecDepth 10000 in
theorem mk_AttrS : MkFn 110 (.slice shAttr) := by
  intro H cs u F k h hn hk
  obtain ⟨v, l, rfl, rfl, hlen, hv⟩ := AtF_slice.1 h
  have hv := (AtF_slice.2 ⟨v, l, rfl, rfl, hlen, hv⟩).at
  obtain ⟨_, _, hx1, hx2, _, hv⟩ := At_slice.1 hv
  cases hx1; cases hx2
  apply Ret.mark
  rw [op110]
  simp only [cntV] at hk
  have hl64 : l.length ≤ 9223372036854775807 := hlen
  simp [code110, Tryz.f110, valC, -setRange]
  refine WP_loop (fun m σ => ∃ (i : Nat) (r : Nat → R) (G : List Ob), i + m = l.length ∧ σ = ⟨r, 0, G⟩ ∧ r 0 = .val v ∧ r 1 = .val (.int .i64 ((k + cntPs (l.take i) : Nat) : Int)) ∧ r 5 = .val (.int .i64 i) ∧ G.length = H.length ∧ (∀ q, q ∉ F → G[q]? = H[q]?) ∧ AtF G (.slice shAttr) [v] (.lst (mkPs (l.take i) k ++ l.drop i)) F) ?_ l.length _ ⟨0, _, H, by simp, rfl, by simp, by simp [cntPs], by simp, rfl, fun _ _ => rfl, by simpa [mkPs] using h⟩
  rintro m σ ⟨i, r, G, him, rfl, r0, r1, r5, g1, g2, g3⟩
  cases m with
  | zero =>
    have hi : i = l.length := by omega
    subst hi
    simp at g3
    simp [r0, r1, r5, hv.len, gcH_len g1, cntV, mkV]
    exact ⟨g1, g2, g3⟩
  | succ m =>
    have hi : i < l.length := by omega
    obtain ⟨x, hx⟩ : ∃ x, l[i]? = some x := ⟨l[i], by simp [hi]⟩
    have hx0 : (mkPs (l.take i) k ++ l.drop i)[i]? = some x := by rw [mk_get hi, hx]
    have hmk := mk_set (k := k) hx
    have hcnt := cntPs_take hx
    have hle := cntPs_take_le (l := l) (i := i + 1)
    have hL : (mkPs (l.take i) k ++ l.drop i).length = l.length := by simp [mkPs_len]; omega
    obtain ⟨L, hLd⟩ : ∃ L, L = mkPs (l.take i) k ++ l.drop i := ⟨_, rfl⟩
    rw [← hLd] at hx0 hmk hL g3
    clear hLd
    obtain ⟨id, off, cells, K, e0, e1, e2, e3, e4, e5, e6, e7, e8⟩ := AtF.elem g3 hn hx0
    clear e1 e2 e4 e5 e7 e8
    rw [hL] at e0
    subst e0
    generalize List.take (shAttr).size (List.drop (off + i * (shAttr).size) cells) = cc at e3
    replace e3 := AtF_st.1 e3
    obtain ⟨us, rfl, e3⟩ := e3
    replace e3 := AtsF_cons.1 e3
    obtain ⟨c0, d0, u0, rr0, F0, E0, rfl, rfl, rfl, h0, e3⟩ := e3
    replace e3 := AtsF_cons.1 e3
    obtain ⟨c1, d1, u1, rr1, F1, E1, rfl, rfl, rfl, h1, e3⟩ := e3
    replace e3 := AtsF_nil.1 e3
    obtain ⟨rfl, rfl, rfl⟩ := e3
    replace h0 := AtF_str.1 h0
    obtain ⟨⟨s0, rfl, rfl, w0⟩, rfl⟩ := h0
    have k1 := h1
    replace h1 := AtF_slice.1 h1
    obtain ⟨v1, l1, rfl, rfl, w1, hv1⟩ := h1
    have o1 := (At_slice.1 (AtF.at _ k1))
    obtain ⟨_, _, x1, x2, _, o1⟩ := o1
    cases x1
    cases x2
    have o1 := o1.one
    simp only [cntP, cntPs_cons, cntPs_nil, Nat.add_zero] at hcnt
    obtain ⟨kk, hkk⟩ : ∃ kk, kk = k + cntPs (l.take i) := ⟨_, rfl⟩
    rw [← hkk] at r1
    obtain ⟨id0, off0, cells0, w0, K0, ev0, eg0, ei0, ek0, ew0, ea0, en0, es0, er0, et0⟩ := AtF.field [] g3 hn (i := i) (us1 := []) (u := (.str s0)) (us2 := [(.lst l1)]) hx0 rfl rfl
    simp only [V.slc.injEq, Option.some.injEq, Prod.mk.injEq] at ev0
    obtain ⟨⟨rfl, rfl⟩, _⟩ := ev0
    simp only [shAttr, Sh.size_st, Sh.sizes_cons, Sh.sizes_nil, Sh.size_str, Sh.size_slice, Sh.size_int, Sh.size_bool, List.cons_append, List.nil_append, Nat.reduceAdd, Nat.add_zero] at eg0 ew0 et0 er0
    obtain ⟨_, rfl⟩ := AtF_str.1 ea0
    have q0 := markText (H := G) (k := kk) (by omega)
    have st0 := store1 (v := (.str (markStr kk))) eg0 (List.getElem?_eq_some_iff.1 ew0).1 rfl rfl
    have A0 := et0 (.str (markStr kk)) (.str (markStr kk)) (AtF_str.2 ⟨⟨_, rfl, rfl, mark_ok (by omega)⟩, rfl⟩)
    obtain ⟨G0, hG0⟩ : ∃ G', G' = G.set id (.mk true 2 (cells0.set (off + i * 2) (.str (markStr kk)))) := ⟨_, rfl⟩
    rw [← hG0] at st0 A0
    have ln0 : G0.length = H.length := by rw [hG0, List.length_set]; exact g1
    have fr0 : ∀ q, q ∉ F → G0[q]? = H[q]? := fun q hq => by rw [hG0, List.getElem?_set_ne (by rintro rfl; exact hq e6)]; exact g2 q hq
    clear hG0
    obtain ⟨kk0, hkk0⟩ : ∃ n, n = kk + 1 := ⟨_, rfl⟩
    have hw0 : IntKind.i64.wrap ((kk : Int) + 1) = (kk0 : Int) := by rw [wrap_i64 (by omega) (by omega)]; omega
    have hx0_ : (L.set i (.st [(.str (markStr kk)), (.lst l1)]))[i]? = some (.st [(.str (markStr kk)), (.lst l1)]) := List.getElem?_set_self (by omega)
    obtain ⟨id1, off1, cells1, w1, K1, ev1, eg1, ei1, ek1, ew1, ea1, en1, es1, er1, et1⟩ := AtF.field [.str] A0 hn (i := i) (us1 := [(.str (markStr kk))]) (u := (.lst l1)) (us2 := []) hx0_ rfl rfl
    simp only [V.slc.injEq, Option.some.injEq, Prod.mk.injEq] at ev1
    obtain ⟨⟨rfl, rfl⟩, _⟩ := ev1
    simp only [shAttr, Sh.size_st, Sh.sizes_cons, Sh.sizes_nil, Sh.size_str, Sh.size_slice, Sh.size_int, Sh.size_bool, List.cons_append, List.nil_append, Nat.reduceAdd, Nat.add_zero] at eg1 ew1 et1 er1
    obtain ⟨G1, q1, ln1, fr1, ma1⟩ := mk_StringS G0 [w1] _ K1 kk0 ea1 en1 (by simp only [cntPV, cntP]; omega)
    simp only [valC, List.headD_cons] at q1
    have ld1 := load1 eg1 ew1
    have A1 := er1 G1 (.lst (mkPs l1 kk0)) (fun q _ hq => fr1 q hq) ma1
    have ln1 : G1.length = H.length := by rw [ln1]; first | exact g1 | exact ln0
    have fr1 : ∀ q, q ∉ F → G1[q]? = H[q]? := fun q hq => by rw [fr1 q fun h => hq (es1 q h)]; first | exact g2 q hq | exact fr0 q hq
    obtain ⟨kk1, hkk1⟩ : ∃ n, n = kk0 + cntP (.lst l1) := ⟨_, rfl⟩
    rw [cntPV, ← hkk1] at q1
    simp only [cntP] at hkk1
    rw [List.set_set] at A1
    have hx1_ : (L.set i (.st [(.str (markStr kk)), (.lst (mkPs l1 kk0))]))[i]? = some (.st [(.str (markStr kk)), (.lst (mkPs l1 kk0))]) := List.getElem?_set_self (by omega)
    have hks : k + cntPs (l.take (i + 1)) = kk1 := by omega
    rw [show L.set i (.st [(.str (markStr kk)), (.lst (mkPs l1 kk0))]) = _ from (by simp only [hkk0, hkk1, hkk]; exact hmk)] at A1
    have hw : IntKind.i64.wrap ((i : Int) + 1) = ((i : Int) + 1) := wrap_i64 (by omega) (by omega)
    have hix : i + 1 ≤ l.length := hi
    simp [r0, r1, r5, hi, hw, q0, st0, hw0, q1, ld1, -setRange]
    exact ⟨m, by omega, i + 1, by omega, _, _, ⟨rfl, rfl⟩, by simp [r0], by simp; omega, by simp, ln1, fr1, A1⟩
set_option maxRecDepth 10000 in
theorem held_AttrS : HeldFn 230 (.slice shAttr) := by
  intro H cs u k h hk
  obtain ⟨v, l', rfl, hu, hlen, hv⟩ := At_slice.1 h
  obtain ⟨l, rfl, rfl⟩ := mkV_lst hu
  apply Ret.eq
  rw [op230]
  simp only [cntV] at hk ⊢
  have hl64 : (mkPs l k).length ≤ 9223372036854775807 := hlen
  rw [mkPs_len] at hl64
  have hvl := fun {e s b : Nat} {z : List V} => hv.len (e := e) (s := s) (b := b) (z := z)
  simp only [mkPs_len] at hvl
  simp [code230, Tryz.f230, valC]
  refine WP_loop (fun m σ => ∃ (i kk : Nat) (r : Nat → R), i + m = l.length ∧ kk = k + cntPs (l.take i) ∧ σ = ⟨r, 0, H⟩ ∧ r 0 = .val v ∧ r 1 = .val (.int .i64 kk) ∧ r 5 = .val (.int .i64 i)) ?_ l.length _ ⟨0, k, _, by simp, by simp [cntPs], rfl, by simp, by simp, by simp⟩
  rintro m σ ⟨i, kk, r, him, hkk, rfl, r0, r1, r5⟩
  cases m with
  | zero =>
    have hi : i = l.length := by omega
    subst hi
    rw [List.take_length] at hkk
    simp [r0, r1, r5, hvl, hkk]
  | succ m =>
    have hi : i < l.length := by omega
    obtain ⟨x, hx⟩ : ∃ x, l[i]? = some x := ⟨l[i], by simp [hi]⟩
    obtain ⟨eid, o, own, cells, e1, e2, e3, e0⟩ := hv.idx (mkPs_get hx) (by decide)
    rw [← hkk] at e0
    have hcnt := cntPs_take hx
    have hle := cntPs_take_le (l := l) (i := i + 1)
    have hid : eid < H.length := (List.getElem?_eq_some_iff.1 e2).1
    have hw : IntKind.i64.wrap ((i : Int) + 1) = ((i : Int) + 1) := wrap_i64 (by omega) (by omega)
    obtain ⟨us0, hu0, E0⟩ := At_st.1 e0
    obtain ⟨us0, rfl, rfl⟩ := mkP_st hu0
    obtain ⟨c0, d0, u0, rr0, hc0, hu, h0, E1⟩ := Ats_cons.1 E0
    obtain ⟨u0, us0, rfl, rfl, rfl⟩ := mkPs_cons hu
    obtain ⟨s0, rfl, hs, _⟩ := At_str.1 h0
    obtain ⟨⟨t0, rfl⟩, rfl⟩ := mkP_str hs
    obtain ⟨kk1, hkk1⟩ : ∃ n, n = kk + cntP (.str t0) := ⟨_, rfl⟩
    rw [← hkk1] at E1
    obtain ⟨c1, d1, u1, rr1, rfl, hu, h1, E2⟩ := Ats_cons.1 E1
    obtain ⟨u1, us0, rfl, rfl, rfl⟩ := mkPs_cons hu
    have k1 := h1
    obtain ⟨v1, l1, rfl, hs, _, _⟩ := At_slice.1 h1
    obtain ⟨m1, rfl, rfl⟩ := mkP_lst hs
    obtain ⟨kk2, hkk2⟩ : ∃ n, n = kk1 + cntP (.lst m1) := ⟨_, rfl⟩
    rw [← hkk2] at E2
    obtain ⟨rfl, hun⟩ := Ats_nil.1 E2
    obtain rfl := mkPs_nil hun
    simp only [List.cons_append, List.nil_append, List.append_nil] at hc0
    simp only [cntP_st, cntPs_cons, cntPs_nil, cntP_str, cntP_int, cntP_bool, Nat.add_zero] at hcnt hkk1 hkk2
    have ld0 := load1 e2 (by simpa using cells_get hc0 (j := 0) rfl)
    have hm0 := markText (H := H) (k := kk) (by omega)
    have hw0 : IntKind.i64.wrap ((kk : Int) + 1) = (kk1 : Int) := by rw [wrap_i64 (by omega) (by omega)]; omega
    have ld1 := load1 e2 (by simpa using cells_get hc0 (j := 1) rfl)
    have q1 := held_StringS H [v1] (.lst m1) kk1 k1 (by rw [cntPV]; omega)
    rw [cntPV, ← hkk2] at q1
    simp only [valC, List.headD_cons] at q1
    have p1 : ¬ ((kk2 : Int) < 0) := by omega
    rw [show (shAttr).size = 2 from rfl] at e1
    simp [r0, r1, r5, hi, hvl, e1, hid, hw, ld0, hm0, hw0, ld1, q1, p1]
    exact ⟨m, by omega, i + 1, by omega, by omega, by omega⟩
set_option maxRecDepth 10000 in
theorem mk_ClassS : MkFn 164 (.slice shClass) := by
  intro H cs u F k h hn hk
  obtain ⟨v, l, rfl, rfl, hlen, hv⟩ := AtF_slice.1 h
  have hv := (AtF_slice.2 ⟨v, l, rfl, rfl, hlen, hv⟩).at
  obtain ⟨_, _, hx1, hx2, _, hv⟩ := At_slice.1 hv
  cases hx1; cases hx2
  apply Ret.mark
  rw [op164]
  simp only [cntV] at hk
  have hl64 : l.length ≤ 9223372036854775807 := hlen
  simp [code164, Tryz.f164, valC, -setRange]
  refine WP_loop (fun m σ => ∃ (i : Nat) (r : Nat → R) (G : List Ob), i + m = l.length ∧ σ = ⟨r, 0, G⟩ ∧ r 0 = .val v ∧ r 1 = .val (.int .i64 ((k + cntPs (l.take i) : Nat) : Int)) ∧ r 5 = .val (.int .i64 i) ∧ G.length = H.length ∧ (∀ q, q ∉ F → G[q]? = H[q]?) ∧ AtF G (.slice shClass) [v] (.lst (mkPs (l.take i) k ++ l.drop i)) F) ?_ l.length _ ⟨0, _, H, by simp, rfl, by simp, by simp [cntPs], by simp, rfl, fun _ _ => rfl, by simpa [mkPs] using h⟩
  rintro m σ ⟨i, r, G, him, rfl, r0, r1, r5, g1, g2, g3⟩
  cases m with
  | zero =>
    have hi : i = l.length := by omega
    subst hi
    simp at g3
    simp [r0, r1, r5, hv.len, gcH_len g1, cntV, mkV]
    exact ⟨g1, g2, g3⟩
  | succ m =>
    have hi : i < l.length := by omega
    obtain ⟨x, hx⟩ : ∃ x, l[i]? = some x := ⟨l[i], by simp [hi]⟩
    have hx0 : (mkPs (l.take i) k ++ l.drop i)[i]? = some x := by rw [mk_get hi, hx]
    have hmk := mk_set (k := k) hx
    have hcnt := cntPs_take hx
    have hle := cntPs_take_le (l := l) (i := i + 1)
    have hL : (mkPs (l.take i) k ++ l.drop i).length = l.length := by simp [mkPs_len]; omega
    obtain ⟨L, hLd⟩ : ∃ L, L = mkPs (l.take i) k ++ l.drop i := ⟨_, rfl⟩
    rw [← hLd] at hx0 hmk hL g3
    clear hLd
    obtain ⟨id, off, cells, K, e0, e1, e2, e3, e4, e5, e6, e7, e8⟩ := AtF.elem g3 hn hx0
    clear e1 e2 e4 e5 e7 e8
    rw [hL] at e0
    subst e0
    generalize List.take (shClass).size (List.drop (off + i * (shClass).size) cells) = cc at e3
    replace e3 := AtF_st.1 e3
    obtain ⟨us, rfl, e3⟩ := e3
    replace e3 := AtsF_cons.1 e3
    obtain ⟨c0, d0, u0, rr0, F0, E0, rfl, rfl, rfl, h0, e3⟩ := e3
    replace e3 := AtsF_cons.1 e3
    obtain ⟨c1, d1, u1, rr1, F1, E1, rfl, rfl, rfl, h1, e3⟩ := e3
    replace e3 := AtsF_cons.1 e3
    obtain ⟨c2, d2, u2, rr2, F2, E2, rfl, rfl, rfl, h2, e3⟩ := e3
    replace e3 := AtsF_cons.1 e3
    obtain ⟨c3, d3, u3, rr3, F3, E3, rfl, rfl, rfl, h3, e3⟩ := e3
    replace e3 := AtsF_nil.1 e3
    obtain ⟨rfl, rfl, rfl⟩ := e3
    replace h0 := AtF_str.1 h0
    obtain ⟨⟨s0, rfl, rfl, w0⟩, rfl⟩ := h0
    have k1 := h1
    replace h1 := AtF_slice.1 h1
    obtain ⟨v1, l1, rfl, rfl, w1, hv1⟩ := h1
    have o1 := (At_slice.1 (AtF.at _ k1))
    obtain ⟨_, _, x1, x2, _, o1⟩ := o1
    cases x1
    cases x2
    have o1 := o1.one
    have k2 := h2
    replace h2 := AtF_slice.1 h2
    obtain ⟨v2, l2, rfl, rfl, w2, hv2⟩ := h2
    have o2 := (At_slice.1 (AtF.at _ k2))
    obtain ⟨_, _, x1, x2, _, o2⟩ := o2
    cases x1
    cases x2
    have o2 := o2.one
    have k3 := h3
    replace h3 := AtF_slice.1 h3
    obtain ⟨v3, l3, rfl, rfl, w3, hv3⟩ := h3
    have o3 := (At_slice.1 (AtF.at _ k3))
    obtain ⟨_, _, x1, x2, _, o3⟩ := o3
    cases x1
    cases x2
    have o3 := o3.one
    simp only [cntP, cntPs_cons, cntPs_nil, Nat.add_zero] at hcnt
    obtain ⟨kk, hkk⟩ : ∃ kk, kk = k + cntPs (l.take i) := ⟨_, rfl⟩
    rw [← hkk] at r1
    obtain ⟨id0, off0, cells0, w0, K0, ev0, eg0, ei0, ek0, ew0, ea0, en0, es0, er0, et0⟩ := AtF.field [] g3 hn (i := i) (us1 := []) (u := (.str s0)) (us2 := [(.lst l1), (.lst l2), (.lst l3)]) hx0 rfl rfl
    simp only [V.slc.injEq, Option.some.injEq, Prod.mk.injEq] at ev0
    obtain ⟨⟨rfl, rfl⟩, _⟩ := ev0
    simp only [shClass, Sh.size_st, Sh.sizes_cons, Sh.sizes_nil, Sh.size_str, Sh.size_slice, Sh.size_int, Sh.size_bool, List.cons_append, List.nil_append, Nat.reduceAdd, Nat.add_zero] at eg0 ew0 et0 er0
    obtain ⟨_, rfl⟩ := AtF_str.1 ea0
    have q0 := markText (H := G) (k := kk) (by omega)
    have st0 := store1 (v := (.str (markStr kk))) eg0 (List.getElem?_eq_some_iff.1 ew0).1 rfl rfl
    have A0 := et0 (.str (markStr kk)) (.str (markStr kk)) (AtF_str.2 ⟨⟨_, rfl, rfl, mark_ok (by omega)⟩, rfl⟩)
    obtain ⟨G0, hG0⟩ : ∃ G', G' = G.set id (.mk true 4 (cells0.set (off + i * 4) (.str (markStr kk)))) := ⟨_, rfl⟩
    rw [← hG0] at st0 A0
    have ln0 : G0.length = H.length := by rw [hG0, List.length_set]; exact g1
    have fr0 : ∀ q, q ∉ F → G0[q]? = H[q]? := fun q hq => by rw [hG0, List.getElem?_set_ne (by rintro rfl; exact hq e6)]; exact g2 q hq
    clear hG0
    obtain ⟨kk0, hkk0⟩ : ∃ n, n = kk + 1 := ⟨_, rfl⟩
    have hw0 : IntKind.i64.wrap ((kk : Int) + 1) = (kk0 : Int) := by rw [wrap_i64 (by omega) (by omega)]; omega
    have hx0_ : (L.set i (.st [(.str (markStr kk)), (.lst l1), (.lst l2), (.lst l3)]))[i]? = some (.st [(.str (markStr kk)), (.lst l1), (.lst l2), (.lst l3)]) := List.getElem?_set_self (by omega)
    obtain ⟨id1, off1, cells1, w1, K1, ev1, eg1, ei1, ek1, ew1, ea1, en1, es1, er1, et1⟩ := AtF.field [.str] A0 hn (i := i) (us1 := [(.str (markStr kk))]) (u := (.lst l1)) (us2 := [(.lst l2), (.lst l3)]) hx0_ rfl rfl
    simp only [V.slc.injEq, Option.some.injEq, Prod.mk.injEq] at ev1
    obtain ⟨⟨rfl, rfl⟩, _⟩ := ev1
    simp only [shClass, Sh.size_st, Sh.sizes_cons, Sh.sizes_nil, Sh.size_str, Sh.size_slice, Sh.size_int, Sh.size_bool, List.cons_append, List.nil_append, Nat.reduceAdd, Nat.add_zero] at eg1 ew1 et1 er1
    obtain ⟨G1, q1, ln1, fr1, ma1⟩ := mk_StringS G0 [w1] _ K1 kk0 ea1 en1 (by simp only [cntPV, cntP]; omega)
    simp only [valC, List.headD_cons] at q1
    have ld1 := load1 eg1 ew1
    have A1 := er1 G1 (.lst (mkPs l1 kk0)) (fun q _ hq => fr1 q hq) ma1
    have ln1 : G1.length = H.length := by rw [ln1]; first | exact g1 | exact ln0
    have fr1 : ∀ q, q ∉ F → G1[q]? = H[q]? := fun q hq => by rw [fr1 q fun h => hq (es1 q h)]; first | exact g2 q hq | exact fr0 q hq
    obtain ⟨kk1, hkk1⟩ : ∃ n, n = kk0 + cntP (.lst l1) := ⟨_, rfl⟩
    rw [cntPV, ← hkk1] at q1
    simp only [cntP] at hkk1
    rw [List.set_set] at A1
    have hx1_ : (L.set i (.st [(.str (markStr kk)), (.lst (mkPs l1 kk0)), (.lst l2), (.lst l3)]))[i]? = some (.st [(.str (markStr kk)), (.lst (mkPs l1 kk0)), (.lst l2), (.lst l3)]) := List.getElem?_set_self (by omega)
    obtain ⟨id2, off2, cells2, w2, K2, ev2, eg2, ei2, ek2, ew2, ea2, en2, es2, er2, et2⟩ := AtF.field [.str, (.slice .str)] A1 hn (i := i) (us1 := [(.str (markStr kk)), (.lst (mkPs l1 kk0))]) (u := (.lst l2)) (us2 := [(.lst l3)]) hx1_ rfl rfl
    simp only [V.slc.injEq, Option.some.injEq, Prod.mk.injEq] at ev2
    obtain ⟨⟨rfl, rfl⟩, _⟩ := ev2
    simp only [shClass, Sh.size_st, Sh.sizes_cons, Sh.sizes_nil, Sh.size_str, Sh.size_slice, Sh.size_int, Sh.size_bool, List.cons_append, List.nil_append, Nat.reduceAdd, Nat.add_zero] at eg2 ew2 et2 er2
    obtain ⟨G2, q2, ln2, fr2, ma2⟩ := mk_StringS G1 [w2] _ K2 kk1 ea2 en2 (by simp only [cntPV, cntP]; omega)
    simp only [valC, List.headD_cons] at q2
    have ld2 := load1 eg2 ew2
    have A2 := er2 G2 (.lst (mkPs l2 kk1)) (fun q _ hq => fr2 q hq) ma2
    have ln2 : G2.length = H.length := by rw [ln2]; first | exact g1 | exact ln1
    have fr2 : ∀ q, q ∉ F → G2[q]? = H[q]? := fun q hq => by rw [fr2 q fun h => hq (es2 q h)]; first | exact g2 q hq | exact fr1 q hq
    obtain ⟨kk2, hkk2⟩ : ∃ n, n = kk1 + cntP (.lst l2) := ⟨_, rfl⟩
    rw [cntPV, ← hkk2] at q2
    simp only [cntP] at hkk2
    rw [List.set_set] at A2
    have hx2_ : (L.set i (.st [(.str (markStr kk)), (.lst (mkPs l1 kk0)), (.lst (mkPs l2 kk1)), (.lst l3)]))[i]? = some (.st [(.str (markStr kk)), (.lst (mkPs l1 kk0)), (.lst (mkPs l2 kk1)), (.lst l3)]) := List.getElem?_set_self (by omega)
    obtain ⟨id3, off3, cells3, w3, K3, ev3, eg3, ei3, ek3, ew3, ea3, en3, es3, er3, et3⟩ := AtF.field [.str, (.slice .str), (.slice .str)] A2 hn (i := i) (us1 := [(.str (markStr kk)), (.lst (mkPs l1 kk0)), (.lst (mkPs l2 kk1))]) (u := (.lst l3)) (us2 := []) hx2_ rfl rfl
    simp only [V.slc.injEq, Option.some.injEq, Prod.mk.injEq] at ev3
    obtain ⟨⟨rfl, rfl⟩, _⟩ := ev3
    simp only [shClass, Sh.size_st, Sh.sizes_cons, Sh.sizes_nil, Sh.size_str, Sh.size_slice, Sh.size_int, Sh.size_bool, List.cons_append, List.nil_append, Nat.reduceAdd, Nat.add_zero] at eg3 ew3 et3 er3
    obtain ⟨G3, q3, ln3, fr3, ma3⟩ := mk_StringS G2 [w3] _ K3 kk2 ea3 en3 (by simp only [cntPV, cntP]; omega)
    simp only [valC, List.headD_cons] at q3
    have ld3 := load1 eg3 ew3
    have A3 := er3 G3 (.lst (mkPs l3 kk2)) (fun q _ hq => fr3 q hq) ma3
    have ln3 : G3.length = H.length := by rw [ln3]; first | exact g1 | exact ln2
    have fr3 : ∀ q, q ∉ F → G3[q]? = H[q]? := fun q hq => by rw [fr3 q fun h => hq (es3 q h)]; first | exact g2 q hq | exact fr2 q hq
    obtain ⟨kk3, hkk3⟩ : ∃ n, n = kk2 + cntP (.lst l3) := ⟨_, rfl⟩
    rw [cntPV, ← hkk3] at q3
    simp only [cntP] at hkk3
    rw [List.set_set] at A3
    have hx3_ : (L.set i (.st [(.str (markStr kk)), (.lst (mkPs l1 kk0)), (.lst (mkPs l2 kk1)), (.lst (mkPs l3 kk2))]))[i]? = some (.st [(.str (markStr kk)), (.lst (mkPs l1 kk0)), (.lst (mkPs l2 kk1)), (.lst (mkPs l3 kk2))]) := List.getElem?_set_self (by omega)
    have hks : k + cntPs (l.take (i + 1)) = kk3 := by omega
    rw [show L.set i (.st [(.str (markStr kk)), (.lst (mkPs l1 kk0)), (.lst (mkPs l2 kk1)), (.lst (mkPs l3 kk2))]) = _ from (by simp only [hkk0, hkk1, hkk2, hkk3, hkk]; exact hmk)] at A3
    have hw : IntKind.i64.wrap ((i : Int) + 1) = ((i : Int) + 1) := wrap_i64 (by omega) (by omega)
    have hix : i + 1 ≤ l.length := hi
    simp [r0, r1, r5, hi, hw, q0, st0, hw0, q1, ld1, q2, ld2, q3, ld3, -setRange]
    exact ⟨m, by omega, i + 1, by omega, _, _, ⟨rfl, rfl⟩, by simp [r0], by simp; omega, by simp, ln3, fr3, A3⟩
set_option maxRecDepth 10000 in
theorem held_ClassS : HeldFn 285 (.slice shClass) := by
  intro H cs u k h hk
  obtain ⟨v, l', rfl, hu, hlen, hv⟩ := At_slice.1 h
  obtain ⟨l, rfl, rfl⟩ := mkV_lst hu
  apply Ret.eq
  rw [op285]
  simp only [cntV] at hk ⊢
  have hl64 : (mkPs l k).length ≤ 9223372036854775807 := hlen
  rw [mkPs_len] at hl64
  have hvl := fun {e s b : Nat} {z : List V} => hv.len (e := e) (s := s) (b := b) (z := z)
  simp only [mkPs_len] at hvl
  simp [code285, Tryz.f285, valC]
  refine WP_loop (fun m σ => ∃ (i kk : Nat) (r : Nat → R), i + m = l.length ∧ kk = k + cntPs (l.take i) ∧ σ = ⟨r, 0, H⟩ ∧ r 0 = .val v ∧ r 1 = .val (.int .i64 kk) ∧ r 5 = .val (.int .i64 i)) ?_ l.length _ ⟨0, k, _, by simp, by simp [cntPs], rfl, by simp, by simp, by simp⟩
  rintro m σ ⟨i, kk, r, him, hkk, rfl, r0, r1, r5⟩
  cases m with
  | zero =>
    have hi : i = l.length := by omega
    subst hi
    rw [List.take_length] at hkk
    simp [r0, r1, r5, hvl, hkk]
  | succ m =>
    have hi : i < l.length := by omega
    obtain ⟨x, hx⟩ : ∃ x, l[i]? = some x := ⟨l[i], by simp [hi]⟩
    obtain ⟨eid, o, own, cells, e1, e2, e3, e0⟩ := hv.idx (mkPs_get hx) (by decide)
    rw [← hkk] at e0
    have hcnt := cntPs_take hx
    have hle := cntPs_take_le (l := l) (i := i + 1)
    have hid : eid < H.length := (List.getElem?_eq_some_iff.1 e2).1
    have hw : IntKind.i64.wrap ((i : Int) + 1) = ((i : Int) + 1) := wrap_i64 (by omega) (by omega)
    obtain ⟨us0, hu0, E0⟩ := At_st.1 e0
    obtain ⟨us0, rfl, rfl⟩ := mkP_st hu0
    obtain ⟨c0, d0, u0, rr0, hc0, hu, h0, E1⟩ := Ats_cons.1 E0
    obtain ⟨u0, us0, rfl, rfl, rfl⟩ := mkPs_cons hu
    obtain ⟨s0, rfl, hs, _⟩ := At_str.1 h0
    obtain ⟨⟨t0, rfl⟩, rfl⟩ := mkP_str hs
    obtain ⟨kk1, hkk1⟩ : ∃ n, n = kk + cntP (.str t0) := ⟨_, rfl⟩
    rw [← hkk1] at E1
    obtain ⟨c1, d1, u1, rr1, rfl, hu, h1, E2⟩ := Ats_cons.1 E1
    obtain ⟨u1, us0, rfl, rfl, rfl⟩ := mkPs_cons hu
    have k1 := h1
    obtain ⟨v1, l1, rfl, hs, _, _⟩ := At_slice.1 h1
    obtain ⟨m1, rfl, rfl⟩ := mkP_lst hs
    obtain ⟨kk2, hkk2⟩ : ∃ n, n = kk1 + cntP (.lst m1) := ⟨_, rfl⟩
    rw [← hkk2] at E2
    obtain ⟨c2, d2, u2, rr2, rfl, hu, h2, E3⟩ := Ats_cons.1 E2
    obtain ⟨u2, us0, rfl, rfl, rfl⟩ := mkPs_cons hu
    have k2 := h2
    obtain ⟨v2, l2, rfl, hs, _, _⟩ := At_slice.1 h2
    obtain ⟨m2, rfl, rfl⟩ := mkP_lst hs
    obtain ⟨kk3, hkk3⟩ : ∃ n, n = kk2 + cntP (.lst m2) := ⟨_, rfl⟩
    rw [← hkk3] at E3
    obtain ⟨c3, d3, u3, rr3, rfl, hu, h3, E4⟩ := Ats_cons.1 E3
    obtain ⟨u3, us0, rfl, rfl, rfl⟩ := mkPs_cons hu
    have k3 := h3
    obtain ⟨v3, l3, rfl, hs, _, _⟩ := At_slice.1 h3
    obtain ⟨m3, rfl, rfl⟩ := mkP_lst hs
    obtain ⟨kk4, hkk4⟩ : ∃ n, n = kk3 + cntP (.lst m3) := ⟨_, rfl⟩
    rw [← hkk4] at E4
    obtain ⟨rfl, hun⟩ := Ats_nil.1 E4
    obtain rfl := mkPs_nil hun
    simp only [List.cons_append, List.nil_append, List.append_nil] at hc0
    simp only [cntP_st, cntPs_cons, cntPs_nil, cntP_str, cntP_int, cntP_bool, Nat.add_zero] at hcnt hkk1 hkk2 hkk3 hkk4
    have ld0 := load1 e2 (by simpa using cells_get hc0 (j := 0) rfl)
    have hm0 := markText (H := H) (k := kk) (by omega)
    have hw0 : IntKind.i64.wrap ((kk : Int) + 1) = (kk1 : Int) := by rw [wrap_i64 (by omega) (by omega)]; omega
    have ld1 := load1 e2 (by simpa using cells_get hc0 (j := 1) rfl)
    have q1 := held_StringS H [v1] (.lst m1) kk1 k1 (by rw [cntPV]; omega)
    rw [cntPV, ← hkk2] at q1
    simp only [valC, List.headD_cons] at q1
    have p1 : ¬ ((kk2 : Int) < 0) := by omega
    have ld2 := load1 e2 (by simpa using cells_get hc0 (j := 2) rfl)
    have q2 := held_StringS H [v2] (.lst m2) kk2 k2 (by rw [cntPV]; omega)
    rw [cntPV, ← hkk3] at q2
    simp only [valC, List.headD_cons] at q2
    have p2 : ¬ ((kk3 : Int) < 0) := by omega
    have ld3 := load1 e2 (by simpa using cells_get hc0 (j := 3) rfl)
    have q3 := held_StringS H [v3] (.lst m3) kk3 k3 (by rw [cntPV]; omega)
    rw [cntPV, ← hkk4] at q3
    simp only [valC, List.headD_cons] at q3
    have p3 : ¬ ((kk4 : Int) < 0) := by omega
    rw [show (shClass).size = 4 from rfl] at e1
    simp [r0, r1, r5, hi, hvl, e1, hid, hw, ld0, hm0, hw0, ld1, q1, p1, ld2, q2, p2, ld3, q3, p3]
    exact ⟨m, by omega, i + 1, by omega, by omega, by omega⟩
end Go.Proofs.Try1
end

section
namespace Go.Proofs.Try1
open Go Go.Lite
set_option linter.unusedSimpArgs false
set_option linter.unusedVariables false
set_option maxRecDepth 10000 in
theorem mk_Entry : MkFn 24 shEntry := by
  intro H cs u F k h hn hk
  replace h := AtF_st.1 h
  obtain ⟨us, rfl, h⟩ := h
  replace h := AtsF_cons.1 h
  obtain ⟨c0, d0, u0, rr0, F0, E0, rfl, rfl, rfl, h0, h⟩ := h
  replace h := AtsF_cons.1 h
  obtain ⟨c1, d1, u1, rr1, F1, E1, rfl, rfl, rfl, h1, h⟩ := h
  replace h := AtsF_nil.1 h
  obtain ⟨rfl, rfl, rfl⟩ := h
  have k0 := h0
  replace h0 := AtF_slice.1 h0
  obtain ⟨v0, l0, rfl, rfl, w0, hv0⟩ := h0
  have o0 := (At_slice.1 (AtF.at _ k0))
  obtain ⟨_, _, x1, x2, _, o0⟩ := o0
  cases x1
  cases x2
  have o0 := o0.one
  have k1 := h1
  replace h1 := AtF_slice.1 h1
  obtain ⟨v1, l1, rfl, rfl, w1, hv1⟩ := h1
  have o1 := (At_slice.1 (AtF.at _ k1))
  obtain ⟨_, _, x1, x2, _, o1⟩ := o1
  cases x1
  cases x2
  have o1 := o1.one
  simp only [cntV_st, cntVs_cons, cntVs_nil, cntV_str, cntV_int, cntV_bool, Nat.zero_add] at hk
  simp only [List.nil_append, List.append_nil] at hn
  have hn0 := hn
  obtain ⟨nd0, hn0, dj0⟩ := List.nodup_append.1 hn0
  have nd1 := hn0
  obtain ⟨H0, q0, len0, fr0, k0'⟩ := mk_RdnS H _ _ _ (k) k0 nd0 (by omega)
  simp only [valC, List.headD_cons, List.append_nil, List.cons_append, List.nil_append, Int.natCast_add] at q0
  have k1 := AtF.frame _ (H' := H0) (fun q hq2 => fr0 q (fun hq1 => dj0 q hq1 q hq2 rfl)) k1
  obtain ⟨H1, q1, len1, fr1, k1'⟩ := mk_AttrS H0 _ _ _ (k + cntV (.lst l0)) k1 nd1 (by omega)
  simp only [valC, List.headD_cons, List.append_nil, List.cons_append, List.nil_append, Int.natCast_add] at q1
  have k0' := AtF.frame _ (H' := H1) (fun q hq2 => fr1 q (fun hq1 => dj0 q hq2 q hq1 rfl)) k0'
  have hK : k + cntV (U.st [(.lst l0), (.lst l1)]) = k + cntV (.lst l0) + cntV (.lst l1) := by simp only [cntV_st, cntVs_cons, cntVs_nil, cntV_str, cntV_int, cntV_bool, Nat.zero_add]; omega
  have hA : AtF H1 shEntry _ _ _ := AtF_st.2 ⟨_, rfl, AtsF_cons.2 ⟨[_], _, _, _, F0, _, rfl, rfl, rfl, k0', AtsF_cons.2 ⟨[_], _, _, _, F1, _, rfl, rfl, rfl, k1', AtsF_nil.2 ⟨rfl, rfl, rfl⟩⟩⟩⟩
  simp only [List.append_nil, List.nil_append, List.cons_append] at hA
  have hl : H1.length = H.length := by rw [len1, len0]
  have hfr : ∀ q, q ∉ F0 ++ (F1) → H1[q]? = H[q]? := by
    intro q hq
    try simp only [List.mem_append, not_or] at hq
    rw [fr1 q hq.2, fr0 q hq.1]
  apply Ret.mark
  rw [op24, hK]
  simp [code24, Tryz.f24, valC, gcH_len hl, q0, q1, o0, o1]
  exact ⟨hl, by simpa using hfr, hA⟩
end Go.Proofs.Try1
end

section
namespace Go.Lite
open Go
set_option linter.unusedSimpArgs false
set_option linter.unusedVariables false

/-- A heap goes on. -/
def Le (G G' : List Ob) : Prop := ∃ S, G' = G ++ S
/-- What is there stays there. -/
def Up (G G' : List Ob) : Prop := ∀ (q : Nat) o, G[q]? = some o → G'[q]? = some o
section
variable {A B D G G' : List Ob} {sh : Sh} {cs : List V} {u : U} {F : List Nat} {b e : Nat}
theorem Le.refl : Le A A := ⟨[], by simp⟩
theorem Le.app {T : List Ob} : Le A (A ++ T) := ⟨T, rfl⟩
theorem Le.trans (h : Le A B) (k : Le B D) : Le A D := by
  obtain ⟨S, rfl⟩ := h
  obtain ⟨T, rfl⟩ := k
  exact ⟨S ++ T, by rw [List.append_assoc]⟩
theorem Le.len (h : Le A B) : A.length ≤ B.length := by obtain ⟨S, rfl⟩ := h; simp
theorem Le.up (h : Le A B) : Up A B := by obtain ⟨S, rfl⟩ := h; exact up_append
theorem Up.refl : Up A A := fun _ _ h => h
theorem Up.trans (h : Up A B) (k : Up B D) : Up A D := fun q o hq => k q o (h q o hq)
theorem At.Up (h : At A sh cs u) (k : Up A B) : At B sh cs u := At.up k sh h
theorem At.Le (h : At A sh cs u) (k : Le A B) : At B sh cs u := At.up k.up sh h
theorem New.Le (h : New b e A sh cs u) (k : Le A B) : New b e B sh cs u := by obtain ⟨S, rfl⟩ := k; exact h.ext
theorem Up.frame (h : ∀ q, q < A.length → B[q]? = A[q]?) : Up A B := fun q o hq => by
  rw [h q (List.getElem?_eq_some_iff.1 hq).1]; exact hq
theorem isOne_cells {v : V} (h : isOne v = true) : cellsOf v = some [v] := by cases v <;> first | rfl | simp [isOne] at h
theorem ones_all (h : At A sh cs u) : ∀ x ∈ cs, isOne x = true ∧ cellsOf x = some [x] := fun x hx => by
  have := List.all_eq_true.1 (At.ones _ h) x hx
  exact ⟨this, isOne_cells this⟩
theorem list1 {α : Type} {l : List α} (h : l.length = 1) : ∃ a, l = [a] := by
  match l, h with
  | [a], _ => exact ⟨a, rfl⟩
theorem list2 {α : Type} {l : List α} (h : l.length = 2) : ∃ a b, l = [a, b] := by
  match l, h with
  | [a, b], _ => exact ⟨a, b, rfl⟩
theorem list4 {α : Type} {l : List α} (h : l.length = 4) : ∃ a b c d, l = [a, b, c, d] := by
  match l, h with
  | [a, b, c, d], _ => exact ⟨a, b, c, d, rfl⟩
end

/-! ### How many marks -/
mutual
def Sh.fan : Sh → Nat
  | .slice e => e.fan
  | .st fs => Sh.fans fs
  | _ => 1
def Sh.fans : List Sh → Nat
  | [] => 0
  | f :: fs => f.fan + Sh.fans fs
end
theorem cntPs_sum {f : Nat} {l : List U} (h : ∀ u ∈ l, cntP u ≤ f * (1 + wt u)) : cntPs l ≤ f * (l.length + wts l) := by
  induction l with
  | nil => simp [cntPs]
  | cons u us ih =>
    have h1 := h u List.mem_cons_self
    have h2 := ih fun w hw => h w (List.mem_cons_of_mem _ hw)
    have e : f * ((u :: us).length + wts (u :: us)) = f * (1 + wt u) + f * (us.length + wts us) := by
      rw [← Nat.mul_add]
      simp only [List.length_cons, wts]
      congr 1
      omega
    simp only [cntPs]
    omega
theorem Sl.each {H : List Ob} {n : Nat} {R : List V → U → Prop} {v : V} {l : List U} (h : Sl H n R v l) : ∀ u ∈ l, ∃ cs, R cs u := by
  intro u hu
  rcases h with ⟨_, rfl⟩ | ⟨id, off, own, cells, _, _, _, h4⟩
  · cases hu
  · obtain ⟨i, hi, rfl⟩ := List.getElem_of_mem hu
    exact ⟨_, h4 i _ (List.getElem?_eq_getElem hi)⟩
mutual
theorem cntP_bound {H : List Ob} : ∀ (sh : Sh) {cs : List V} {u : U}, At H sh cs u → cntP u ≤ sh.fan * (1 + wt u)
  | .int k, _, _, h => by obtain ⟨n, _, rfl, _⟩ := At_int.1 h; simp [cntP, Sh.fan, wt]
  | .bool, _, _, h => by obtain ⟨n, _, rfl⟩ := At_bool.1 h; simp [cntP, Sh.fan, wt]
  | .str, _, _, h => by obtain ⟨n, _, rfl, _⟩ := At_str.1 h; simp only [cntP, Sh.fan, wt]; omega
  | .slice e, _, _, h => by
    obtain ⟨v, l, _, rfl, _, h4⟩ := At_slice.1 h
    have := cntPs_sum (f := e.fan) (l := l) fun u hu => by
      obtain ⟨cs, hc⟩ := h4.each u hu
      exact cntP_bound e hc
    simp only [cntP, Sh.fan, wt]
    refine Nat.le_trans this (Nat.mul_le_mul_left _ (by omega))
  | .st fs, _, _, h => by
    obtain ⟨us, rfl, h2⟩ := At_st.1 h
    have := cntPs_bound fs h2
    simp only [cntP, Sh.fan, wt]
    exact this
theorem cntPs_bound {H : List Ob} : ∀ (fs : List Sh) {cs : List V} {us : List U}, Ats H fs cs us → cntPs us ≤ Sh.fans fs * (1 + wts us)
  | [], _, _, h => by obtain ⟨_, rfl⟩ := Ats_nil.1 h; simp [cntPs]
  | f :: fs, _, _, h => by
    obtain ⟨c1, c2, u, us', _, rfl, h3, h4⟩ := Ats_cons.1 h
    have h5 := cntP_bound f h3
    have h6 := cntPs_bound fs h4
    simp only [cntPs, Sh.fans, wts]
    have e1 : f.fan * (1 + wt u) ≤ f.fan * (1 + (wt u + wts us')) := Nat.mul_le_mul_left _ (by omega)
    have e2 : Sh.fans fs * (1 + wts us') ≤ Sh.fans fs * (1 + (wt u + wts us')) := Nat.mul_le_mul_left _ (by omega)
    rw [Nat.add_mul]
    omega
end
mutual
theorem cntV_le : ∀ (u : U), cntV u ≤ cntP u
  | .int _ => by simp [cntV]
  | .bool _ => by simp [cntV]
  | .str _ => by simp [cntV]
  | .lst l => by rw [cntPV]; exact Nat.le_refl _
  | .st us => by simp only [cntV, cntP]; exact cntVs_le us
theorem cntVs_le : ∀ (us : List U), cntVs us ≤ cntPs us
  | [] => by simp [cntVs]
  | u :: us => by simp only [cntVs, cntPs]; have h1 := cntV_le u; have h2 := cntVs_le us; omega
end
theorem cntV_bound {H : List Ob} {sh : Sh} {cs : List V} {u : U} (h : At H sh cs u) (n : Nat) (hn : sh.fan ≤ n) : cntV u ≤ n * (1 + wt u) :=
  Nat.le_trans (Nat.le_trans (cntV_le u) (cntP_bound sh h)) (Nat.mul_le_mul_right _ hn)
end Go.Lite
end

section
namespace Go.Proofs.Try1
open Go Go.Lite
set_option linter.unusedSimpArgs false
set_option linter.unusedVariables false

section
variable {f k b e : Nat} {sh : Sh} {H : List Ob} {cs ds : List V} {u : U}
theorem toN (hf : ToFn f sh) (h : At H sh cs u) (hw : wt u ≤ 1048576) : ∃ G cs', callW C f [valC sh cs] H = some (valC sh cs', G) ∧ Le H G ∧ New H.length G.length G sh cs' u := by
  obtain ⟨S, cs', F, c1, a1, n1, g1⟩ := hf H cs u h hw
  exact ⟨_, cs', c1, ⟨S, rfl⟩, F, a1, n1, fun q hq => ⟨g1 q hq, AtF.mem _ a1 q hq⟩⟩
theorem eqN (hf : EqFn f sh) (h : At H sh cs u) (h' : At H sh ds u) : callW C f [valC sh cs, valC sh ds] H = some (.bool true, H) := by
  obtain ⟨t, ht, c⟩ := hf H cs ds u u h h'
  obtain rfl := ht.2 rfl
  exact c
theorem mkN (hf : MkFn f sh) (h : New b e H sh cs u) (hk : k + cntV u ≤ 50000000) : ∃ G, callW C f [valC sh cs, .int .i64 k] H = some (.int .i64 ((k + cntV u : Nat) : Int), G) ∧ G.length = H.length ∧ (∀ q, q < b ∨ e ≤ q → G[q]? = H[q]?) ∧ New b e G sh cs (mkV u k) := by
  obtain ⟨F, h1, h2, h3⟩ := h
  obtain ⟨G, c, l, fr, a⟩ := hf H cs u F k h1 h2 hk
  exact ⟨G, c, l, fun q hq => fr q fun hm => by have := h3 q hm; omega, F, a, h2, h3⟩
end
theorem cntPs_map {α : Type} {f : α → U} {l : List α} {k : Nat} (h : ∀ x ∈ l, cntP (f x) ≤ k) : cntPs (l.map f) ≤ l.length * k := by
  induction l with
  | nil => simp [cntPs]
  | cons x l ih =>
    have h1 := h x List.mem_cons_self
    have h2 := ih fun y hy => h y (List.mem_cons_of_mem _ hy)
    simp only [List.map_cons, cntPs, List.length_cons, Nat.add_mul]
    omega

end Go.Proofs.Try1
end

section
namespace Go.Proofs.Try1
open Go Go.Lite
set_option linter.unusedSimpArgs false
set_option linter.unusedVariables false
set_option maxRecDepth 10000 in
theorem mk_EntryS : MkFn 165 (.slice shEntry) := by
  intro H cs u F k h hn hk
  obtain ⟨v, l, rfl, rfl, hlen, hv⟩ := AtF_slice.1 h
  have hv := (AtF_slice.2 ⟨v, l, rfl, rfl, hlen, hv⟩).at
  obtain ⟨_, _, hx1, hx2, _, hv⟩ := At_slice.1 hv
  cases hx1; cases hx2
  apply Ret.mark
  rw [op165]
  simp only [cntV] at hk
  have hl64 : l.length ≤ 9223372036854775807 := hlen
  simp [code165, Tryz.f165, valC, -setRange]
  refine WP_loop (fun m σ => ∃ (i : Nat) (r : Nat → R) (G : List Ob), i + m = l.length ∧ σ = ⟨r, 0, G⟩ ∧ r 0 = .val v ∧ r 1 = .val (.int .i64 ((k + cntPs (l.take i) : Nat) : Int)) ∧ r 5 = .val (.int .i64 i) ∧ G.length = H.length ∧ (∀ q, q ∉ F → G[q]? = H[q]?) ∧ AtF G (.slice shEntry) [v] (.lst (mkPs (l.take i) k ++ l.drop i)) F) ?_ l.length _ ⟨0, _, H, by simp, rfl, by simp, by simp [cntPs], by simp, rfl, fun _ _ => rfl, by simpa [mkPs] using h⟩
  rintro m σ ⟨i, r, G, him, rfl, r0, r1, r5, g1, g2, g3⟩
  cases m with
  | zero =>
    have hi : i = l.length := by omega
    subst hi
    simp at g3
    simp [r0, r1, r5, hv.len, gcH_len g1, cntV, mkV]
    exact ⟨g1, g2, g3⟩
  | succ m =>
    have hi : i < l.length := by omega
    obtain ⟨x, hx⟩ : ∃ x, l[i]? = some x := ⟨l[i], by simp [hi]⟩
    have hx0 : (mkPs (l.take i) k ++ l.drop i)[i]? = some x := by rw [mk_get hi, hx]
    have hmk := mk_set (k := k) hx
    have hcnt := cntPs_take hx
    have hle := cntPs_take_le (l := l) (i := i + 1)
    have hL : (mkPs (l.take i) k ++ l.drop i).length = l.length := by simp [mkPs_len]; omega
    obtain ⟨L, hLd⟩ : ∃ L, L = mkPs (l.take i) k ++ l.drop i := ⟨_, rfl⟩
    rw [← hLd] at hx0 hmk hL g3
    clear hLd
    obtain ⟨id, off, cells, K, e0, e1, e2, e3, e4, e5, e6, e7, e8⟩ := AtF.elem g3 hn hx0
    clear e1 e2 e4 e5 e7 e8
    rw [hL] at e0
    subst e0
    generalize List.take (shEntry).size (List.drop (off + i * (shEntry).size) cells) = cc at e3
    replace e3 := AtF_st.1 e3
    obtain ⟨us, rfl, e3⟩ := e3
    replace e3 := AtsF_cons.1 e3
    obtain ⟨c0, d0, u0, rr0, F0, E0, rfl, rfl, rfl, h0, e3⟩ := e3
    replace e3 := AtsF_cons.1 e3
    obtain ⟨c1, d1, u1, rr1, F1, E1, rfl, rfl, rfl, h1, e3⟩ := e3
    replace e3 := AtsF_nil.1 e3
    obtain ⟨rfl, rfl, rfl⟩ := e3
    have k0 := h0
    replace h0 := AtF_slice.1 h0
    obtain ⟨v0, l0, rfl, rfl, w0, hv0⟩ := h0
    have o0 := (At_slice.1 (AtF.at _ k0))
    obtain ⟨_, _, x1, x2, _, o0⟩ := o0
    cases x1
    cases x2
    have o0 := o0.one
    have k1 := h1
    replace h1 := AtF_slice.1 h1
    obtain ⟨v1, l1, rfl, rfl, w1, hv1⟩ := h1
    have o1 := (At_slice.1 (AtF.at _ k1))
    obtain ⟨_, _, x1, x2, _, o1⟩ := o1
    cases x1
    cases x2
    have o1 := o1.one
    simp only [cntP, cntPs_cons, cntPs_nil, Nat.add_zero] at hcnt
    obtain ⟨kk, hkk⟩ : ∃ kk, kk = k + cntPs (l.take i) := ⟨_, rfl⟩
    rw [← hkk] at r1
    obtain ⟨id0, off0, cells0, w0, K0, ev0, eg0, ei0, ek0, ew0, ea0, en0, es0, er0, et0⟩ := AtF.field [] g3 hn (i := i) (us1 := []) (u := (.lst l0)) (us2 := [(.lst l1)]) hx0 rfl rfl
    simp only [V.slc.injEq, Option.some.injEq, Prod.mk.injEq] at ev0
    obtain ⟨⟨rfl, rfl⟩, _⟩ := ev0
    simp only [shEntry, Sh.size_st, Sh.sizes_cons, Sh.sizes_nil, Sh.size_str, Sh.size_slice, Sh.size_int, Sh.size_bool, List.cons_append, List.nil_append, Nat.reduceAdd, Nat.add_zero] at eg0 ew0 et0 er0
    obtain ⟨G0, q0, ln0, fr0, ma0⟩ := mk_RdnS G [w0] _ K0 kk ea0 en0 (by simp only [cntPV, cntP]; omega)
    simp only [valC, List.headD_cons] at q0
    have ld0 := load1 eg0 ew0
    have A0 := er0 G0 (.lst (mkPs l0 kk)) (fun q _ hq => fr0 q hq) ma0
    have ln0 : G0.length = H.length := by rw [ln0]; first | exact g1 | exact ln-1
    have fr0 : ∀ q, q ∉ F → G0[q]? = H[q]? := fun q hq => by rw [fr0 q fun h => hq (es0 q h)]; first | exact g2 q hq | exact fr0 q hq
    obtain ⟨kk0, hkk0⟩ : ∃ n, n = kk + cntP (.lst l0) := ⟨_, rfl⟩
    rw [cntPV, ← hkk0] at q0
    simp only [cntP] at hkk0
    have hx0_ : (L.set i (.st [(.lst (mkPs l0 kk)), (.lst l1)]))[i]? = some (.st [(.lst (mkPs l0 kk)), (.lst l1)]) := List.getElem?_set_self (by omega)
    obtain ⟨id1, off1, cells1, w1, K1, ev1, eg1, ei1, ek1, ew1, ea1, en1, es1, er1, et1⟩ := AtF.field [(.slice shRdn)] A0 hn (i := i) (us1 := [(.lst (mkPs l0 kk))]) (u := (.lst l1)) (us2 := []) hx0_ rfl rfl
    simp only [V.slc.injEq, Option.some.injEq, Prod.mk.injEq] at ev1
    obtain ⟨⟨rfl, rfl⟩, _⟩ := ev1
    simp only [shEntry, Sh.size_st, Sh.sizes_cons, Sh.sizes_nil, Sh.size_str, Sh.size_slice, Sh.size_int, Sh.size_bool, List.cons_append, List.nil_append, Nat.reduceAdd, Nat.add_zero] at eg1 ew1 et1 er1
    obtain ⟨G1, q1, ln1, fr1, ma1⟩ := mk_AttrS G0 [w1] _ K1 kk0 ea1 en1 (by simp only [cntPV, cntP]; omega)
    simp only [valC, List.headD_cons] at q1
    have ld1 := load1 eg1 ew1
    have A1 := er1 G1 (.lst (mkPs l1 kk0)) (fun q _ hq => fr1 q hq) ma1
    have ln1 : G1.length = H.length := by rw [ln1]; first | exact g1 | exact ln0
    have fr1 : ∀ q, q ∉ F → G1[q]? = H[q]? := fun q hq => by rw [fr1 q fun h => hq (es1 q h)]; first | exact g2 q hq | exact fr0 q hq
    obtain ⟨kk1, hkk1⟩ : ∃ n, n = kk0 + cntP (.lst l1) := ⟨_, rfl⟩
    rw [cntPV, ← hkk1] at q1
    simp only [cntP] at hkk1
    rw [List.set_set] at A1
    have hx1_ : (L.set i (.st [(.lst (mkPs l0 kk)), (.lst (mkPs l1 kk0))]))[i]? = some (.st [(.lst (mkPs l0 kk)), (.lst (mkPs l1 kk0))]) := List.getElem?_set_self (by omega)
    have hks : k + cntPs (l.take (i + 1)) = kk1 := by omega
    rw [show L.set i (.st [(.lst (mkPs l0 kk)), (.lst (mkPs l1 kk0))]) = _ from (by simp only [hkk0, hkk1, hkk]; exact hmk)] at A1
    have hw : IntKind.i64.wrap ((i : Int) + 1) = ((i : Int) + 1) := wrap_i64 (by omega) (by omega)
    have hix : i + 1 ≤ l.length := hi
    simp [r0, r1, r5, hi, hw, q0, ld0, q1, ld1, -setRange]
    exact ⟨m, by omega, i + 1, by omega, _, _, ⟨rfl, rfl⟩, by simp [r0], by simp; omega, by simp, ln1, fr1, A1⟩
set_option maxRecDepth 10000 in
theorem held_EntryS : HeldFn 184 (.slice shEntry) := by
  intro H cs u k h hk
  obtain ⟨v, l', rfl, hu, hlen, hv⟩ := At_slice.1 h
  obtain ⟨l, rfl, rfl⟩ := mkV_lst hu
  apply Ret.eq
  rw [op184]
  simp only [cntV] at hk ⊢
  have hl64 : (mkPs l k).length ≤ 9223372036854775807 := hlen
  rw [mkPs_len] at hl64
  have hvl := fun {e s b : Nat} {z : List V} => hv.len (e := e) (s := s) (b := b) (z := z)
  simp only [mkPs_len] at hvl
  simp [code184, Tryz.f184, valC]
  refine WP_loop (fun m σ => ∃ (i kk : Nat) (r : Nat → R), i + m = l.length ∧ kk = k + cntPs (l.take i) ∧ σ = ⟨r, 0, H⟩ ∧ r 0 = .val v ∧ r 1 = .val (.int .i64 kk) ∧ r 5 = .val (.int .i64 i)) ?_ l.length _ ⟨0, k, _, by simp, by simp [cntPs], rfl, by simp, by simp, by simp⟩
  rintro m σ ⟨i, kk, r, him, hkk, rfl, r0, r1, r5⟩
  cases m with
  | zero =>
    have hi : i = l.length := by omega
    subst hi
    rw [List.take_length] at hkk
    simp [r0, r1, r5, hvl, hkk]
  | succ m =>
    have hi : i < l.length := by omega
    obtain ⟨x, hx⟩ : ∃ x, l[i]? = some x := ⟨l[i], by simp [hi]⟩
    obtain ⟨eid, o, own, cells, e1, e2, e3, e0⟩ := hv.idx (mkPs_get hx) (by decide)
    rw [← hkk] at e0
    have hcnt := cntPs_take hx
    have hle := cntPs_take_le (l := l) (i := i + 1)
    have hid : eid < H.length := (List.getElem?_eq_some_iff.1 e2).1
    have hw : IntKind.i64.wrap ((i : Int) + 1) = ((i : Int) + 1) := wrap_i64 (by omega) (by omega)
    obtain ⟨us0, hu0, E0⟩ := At_st.1 e0
    obtain ⟨us0, rfl, rfl⟩ := mkP_st hu0
    obtain ⟨c0, d0, u0, rr0, hc0, hu, h0, E1⟩ := Ats_cons.1 E0
    obtain ⟨u0, us0, rfl, rfl, rfl⟩ := mkPs_cons hu
    have k0 := h0
    obtain ⟨v0, l0, rfl, hs, _, _⟩ := At_slice.1 h0
    obtain ⟨m0, rfl, rfl⟩ := mkP_lst hs
    obtain ⟨kk1, hkk1⟩ : ∃ n, n = kk + cntP (.lst m0) := ⟨_, rfl⟩
    rw [← hkk1] at E1
    obtain ⟨c1, d1, u1, rr1, rfl, hu, h1, E2⟩ := Ats_cons.1 E1
    obtain ⟨u1, us0, rfl, rfl, rfl⟩ := mkPs_cons hu
    have k1 := h1
    obtain ⟨v1, l1, rfl, hs, _, _⟩ := At_slice.1 h1
    obtain ⟨m1, rfl, rfl⟩ := mkP_lst hs
    obtain ⟨kk2, hkk2⟩ : ∃ n, n = kk1 + cntP (.lst m1) := ⟨_, rfl⟩
    rw [← hkk2] at E2
    obtain ⟨rfl, hun⟩ := Ats_nil.1 E2
    obtain rfl := mkPs_nil hun
    simp only [List.cons_append, List.nil_append, List.append_nil] at hc0
    simp only [cntP_st, cntPs_cons, cntPs_nil, cntP_str, cntP_int, cntP_bool, Nat.add_zero] at hcnt hkk1 hkk2
    have ld0 := load1 e2 (by simpa using cells_get hc0 (j := 0) rfl)
    have q0 := held_RdnS H [v0] (.lst m0) kk k0 (by rw [cntPV]; omega)
    rw [cntPV, ← hkk1] at q0
    simp only [valC, List.headD_cons] at q0
    have p0 : ¬ ((kk1 : Int) < 0) := by omega
    have ld1 := load1 e2 (by simpa using cells_get hc0 (j := 1) rfl)
    have q1 := held_AttrS H [v1] (.lst m1) kk1 k1 (by rw [cntPV]; omega)
    rw [cntPV, ← hkk2] at q1
    simp only [valC, List.headD_cons] at q1
    have p1 : ¬ ((kk2 : Int) < 0) := by omega
    rw [show (shEntry).size = 2 from rfl] at e1
    simp [r0, r1, r5, hi, hvl, e1, hid, hw, ld0, q0, p0, ld1, q1, p1]
    exact ⟨m, by omega, i + 1, by omega, by omega, by omega⟩
end Go.Proofs.Try1
end

section
namespace Go.Proofs.Try1
open Go Go.Lite
set_option linter.unusedSimpArgs false
set_option linter.unusedVariables false
set_option maxRecDepth 10000 in
theorem mk_Tree : MkFn 57 shTree := by
  intro H cs u F k h hn hk
  replace h := AtF_st.1 h
  obtain ⟨us, rfl, h⟩ := h
  replace h := AtsF_cons.1 h
  obtain ⟨c0, d0, u0, rr0, F0, E0, rfl, rfl, rfl, h0, h⟩ := h
  replace h := AtsF_cons.1 h
  obtain ⟨c1, d1, u1, rr1, F1, E1, rfl, rfl, rfl, h1, h⟩ := h
  replace h := AtsF_nil.1 h
  obtain ⟨rfl, rfl, rfl⟩ := h
  have k0 := h0
  replace h0 := AtF_slice.1 h0
  obtain ⟨v0, l0, rfl, rfl, w0, hv0⟩ := h0
  have o0 := (At_slice.1 (AtF.at _ k0))
  obtain ⟨_, _, x1, x2, _, o0⟩ := o0
  cases x1
  cases x2
  have o0 := o0.one
  have k1 := h1
  replace h1 := AtF_slice.1 h1
  obtain ⟨v1, l1, rfl, rfl, w1, hv1⟩ := h1
  have o1 := (At_slice.1 (AtF.at _ k1))
  obtain ⟨_, _, x1, x2, _, o1⟩ := o1
  cases x1
  cases x2
  have o1 := o1.one
  simp only [cntV_st, cntVs_cons, cntVs_nil, cntV_str, cntV_int, cntV_bool, Nat.zero_add] at hk
  simp only [List.nil_append, List.append_nil] at hn
  have hn0 := hn
  obtain ⟨nd0, hn0, dj0⟩ := List.nodup_append.1 hn0
  have nd1 := hn0
  obtain ⟨H0, q0, len0, fr0, k0'⟩ := mk_ClassS H _ _ _ (k) k0 nd0 (by omega)
  simp only [valC, List.headD_cons, List.append_nil, List.cons_append, List.nil_append, Int.natCast_add] at q0
  have k1 := AtF.frame _ (H' := H0) (fun q hq2 => fr0 q (fun hq1 => dj0 q hq1 q hq2 rfl)) k1
  obtain ⟨H1, q1, len1, fr1, k1'⟩ := mk_EntryS H0 _ _ _ (k + cntV (.lst l0)) k1 nd1 (by omega)
  simp only [valC, List.headD_cons, List.append_nil, List.cons_append, List.nil_append, Int.natCast_add] at q1
  have k0' := AtF.frame _ (H' := H1) (fun q hq2 => fr1 q (fun hq1 => dj0 q hq2 q hq1 rfl)) k0'
  have hK : k + cntV (U.st [(.lst l0), (.lst l1)]) = k + cntV (.lst l0) + cntV (.lst l1) := by simp only [cntV_st, cntVs_cons, cntVs_nil, cntV_str, cntV_int, cntV_bool, Nat.zero_add]; omega
  have hA : AtF H1 shTree _ _ _ := AtF_st.2 ⟨_, rfl, AtsF_cons.2 ⟨[_], _, _, _, F0, _, rfl, rfl, rfl, k0', AtsF_cons.2 ⟨[_], _, _, _, F1, _, rfl, rfl, rfl, k1', AtsF_nil.2 ⟨rfl, rfl, rfl⟩⟩⟩⟩
  simp only [List.append_nil, List.nil_append, List.cons_append] at hA
  have hl : H1.length = H.length := by rw [len1, len0]
  have hfr : ∀ q, q ∉ F0 ++ (F1) → H1[q]? = H[q]? := by
    intro q hq
    try simp only [List.mem_append, not_or] at hq
    rw [fr1 q hq.2, fr0 q hq.1]
  apply Ret.mark
  rw [op57, hK]
  simp [code57, Tryz.f57, valC, gcH_len hl, q0, q1, o0, o1]
  exact ⟨hl, by simpa using hfr, hA⟩
set_option maxRecDepth 10000 in
theorem held_Tree : HeldFn 183 shTree := by
  intro H cs u k h hk
  obtain ⟨us, hu, h⟩ := At_st.1 h
  obtain ⟨us, rfl, rfl⟩ := mkV_st hu
  obtain ⟨c0, d0, u0, r0, rfl, hu, h0, h⟩ := Ats_cons.1 h
  obtain ⟨u0, us, rfl, rfl, rfl⟩ := mkVs_cons hu
  obtain ⟨c1, d1, u1, r1, rfl, hu, h1, h⟩ := Ats_cons.1 h
  obtain ⟨u1, us, rfl, rfl, rfl⟩ := mkVs_cons hu
  obtain ⟨rfl, hu⟩ := Ats_nil.1 h
  obtain rfl := mkVs_nil hu
  have k0 := h0
  obtain ⟨v0, l0, rfl, hu, _, hv0⟩ := At_slice.1 h0
  have o0 := hv0.one
  obtain ⟨m0, rfl, rfl⟩ := mkV_lst hu
  have k1 := h1
  obtain ⟨v1, l1, rfl, hu, _, hv1⟩ := At_slice.1 h1
  have o1 := hv1.one
  obtain ⟨m1, rfl, rfl⟩ := mkV_lst hu
  simp only [cntV_st, cntVs_cons, cntVs_nil, cntV_str, cntV_int, cntV_bool, Nat.zero_add, Nat.add_zero] at *
  have q0 := held_ClassS H _ _ (k) k0 (by omega)
  simp only [valC, List.headD_cons, List.append_nil, List.cons_append, List.nil_append, Int.natCast_add] at q0
  have p0 : ¬ (((k + cntV (.lst m0) : Nat) : Int) < 0) := by omega
  simp only [Int.natCast_add] at p0
  have q1 := held_EntryS H _ _ (k + cntV (.lst m0)) k1 (by omega)
  simp only [valC, List.headD_cons, List.append_nil, List.cons_append, List.nil_append, Int.natCast_add] at q1
  have p1 : ¬ (((k + cntV (.lst m0) + cntV (.lst m1) : Nat) : Int) < 0) := by omega
  simp only [Int.natCast_add] at p1
  have hK : k + (cntV (.lst m0) + (cntV (.lst m1))) = k + cntV (.lst m0) + cntV (.lst m1) := by omega
  rw [hK]
  apply Ret.eq
  rw [op183]
  simp [code183, Tryz.f183, valC, q0, p0, q1, p1, o0, o1]
end Go.Proofs.Try1
end

section
namespace Go.Proofs.Try1
open Go Go.Lite
set_option linter.unusedSimpArgs false
set_option linter.unusedVariables false

set_option maxRecDepth 10000 in
theorem s_Plain {t : Str} {H : List Ob} (ht : t.length ≤ 1000) : callW C 316 [.str t] H = some (.bool (dec (Plain t)), H) := by
  apply Ret.dec
  rw [op316]
  simp [code316, Tryz.f316]
  refine WP_loop (fun k σ => ∃ (i : Nat) (r : Nat → R), i + k = t.length ∧ σ = ⟨r, 0, H⟩ ∧ r 0 = .val (.str t) ∧ r 3 = .val (.int .i64 i) ∧ ∀ j, j < i → ∀ c, t[j]? = some c → PlainB c) ?_ t.length _ ⟨0, _, by simp, rfl, by simp, by simp, by simp⟩
  rintro k σ ⟨i, r, hik, rfl, r0, r3, hall⟩
  cases k with
  | zero =>
    have hi : i = t.length := by omega
    subst hi
    simp [r0, r3]
    intro j c hc
    exact hall j (List.getElem?_eq_some_iff.1 hc).1 c hc
  | succ k =>
    have hi : i < t.length := by omega
    obtain ⟨c, hc⟩ : ∃ c, t[i]? = some c := ⟨t[i], by simp [hi]⟩
    have hc' : t[i] = c := (List.getElem?_eq_some_iff.1 hc).2
    have hw : IntKind.i64.wrap ((i : Int) + 1) = ((i : Int) + 1) := wrap_i64 (by omega) (by omega)
    by_cases h1 : (c.toNat : Int) < 32
    · simp [r0, r3, hi, hc', h1]
      intro hp
      have := (hp i c hc).1
      omega
    · by_cases h2 : (c.toNat : Int) > 126
      · simp [r0, r3, hi, hc', h1, h2]
        intro hp
        have := (hp i c hc).2
        omega
      · simp [r0, r3, hi, hc', h1, h2, hw]
        exact ⟨k, by omega, i + 1, by omega, by omega, all_step (P := fun _ c => PlainB c) hall hc ⟨by omega, by omega⟩⟩

set_option maxRecDepth 10000 in
theorem i_Plain {t : Str} {H : List Ob} (ht : t.length ≤ 1000) : callW C 151 [.str t] H = some (.bool (dec (Plain t)), H) := by
  apply Ret.dec
  rw [op151]
  simp [code151, Tryz.f151]
  refine WP_loop (fun k σ => ∃ (i : Nat) (r : Nat → R), i + k = t.length ∧ σ = ⟨r, 0, H⟩ ∧ r 0 = .val (.str t) ∧ r 5 = .val (.int .i64 t.length) ∧ r 6 = .val (.int .i64 i) ∧ ∀ j, j < i → ∀ c, t[j]? = some c → PlainB c) ?_ t.length _ ⟨0, _, by simp, rfl, by simp, by simp, by simp, by simp⟩
  rintro k σ ⟨i, r, hik, rfl, r0, r5, r6, hall⟩
  cases k with
  | zero =>
    have hi : i = t.length := by omega
    subst hi
    simp [r0, r5, r6]
    intro j c hc
    exact hall j (List.getElem?_eq_some_iff.1 hc).1 c hc
  | succ k =>
    have hi : i < t.length := by omega
    obtain ⟨c, hc⟩ : ∃ c, t[i]? = some c := ⟨t[i], by simp [hi]⟩
    have hc' : t[i] = c := (List.getElem?_eq_some_iff.1 hc).2
    have hw : IntKind.i64.wrap ((i : Int) + 1) = ((i : Int) + 1) := wrap_i64 (by omega) (by omega)
    by_cases h1 : (c.toNat : Int) < 32
    · simp [r0, r5, r6, hi, hc', h1]
      intro hp
      have := (hp i c hc).1
      omega
    · by_cases h2 : (c.toNat : Int) > 126
      · simp [r0, r5, r6, hi, hc', h1, h2]
        intro hp
        have := (hp i c hc).2
        omega
      · simp [r0, r5, r6, hi, hc', h1, h2, hw]
        exact ⟨k, by omega, i + 1, by omega, by omega, all_step (P := fun _ c => PlainB c) hall hc ⟨by omega, by omega⟩⟩

set_option maxRecDepth 10000 in
set_option maxHeartbeats 2000000 in
theorem s_Name {t : Str} {H : List Ob} : callW C 97 [.str t] H = some (.bool (dec (NameOk t)), H) := by
  apply Ret.dec
  rw [op97]
  by_cases g1 : (t.length : Int) < 1
  · have g2 : ¬ NameOk t := fun h => by have := h.1; omega
    simp [code97, Tryz.f97, g1, g2]
  by_cases g2 : (t.length : Int) > 20
  · have g3 : ¬ NameOk t := fun h => by have := h.2.1; omega
    simp [code97, Tryz.f97, g1, g2, g3]
  simp [code97, Tryz.f97, g1, g2]
  refine WP_loop (fun k σ => ∃ (i : Nat) (r : Nat → R), i + k = t.length ∧ σ = ⟨r, 0, H⟩ ∧ r 0 = .val (.str t) ∧ r 3 = .val (.int .i64 i) ∧ ∀ j, j < i → ∀ c, t[j]? = some c → LowB c ∨ (0 < j ∧ (DigB c ∨ c.toNat = 95))) ?_ t.length _ ⟨0, _, by simp, rfl, by simp, by simp, by simp⟩
  rintro k σ ⟨i, r, hik, rfl, r0, r3, hall⟩
  cases k with
  | zero =>
    have hi : i = t.length := by omega
    subst hi
    have hok : NameOk t := ⟨by omega, by omega, fun j c hc => hall j (List.getElem?_eq_some_iff.1 hc).1 c hc⟩
    simp [r0, r3, hok]
  | succ k =>
    have hi : i < t.length := by omega
    obtain ⟨c, hc⟩ : ∃ c, t[i]? = some c := ⟨t[i], by simp [hi]⟩
    have hc' : t[i] = c := (List.getElem?_eq_some_iff.1 hc).2
    have hw : IntKind.i64.wrap ((i : Int) + 1) = ((i : Int) + 1) := wrap_i64 (by omega) (by omega)
    have hgo : LowB c ∨ (0 < i ∧ (DigB c ∨ c.toNat = 95)) → ∃ k', k' < k + 1 ∧ ∃ i', i' + k' = t.length ∧ (i : Int) + 1 = i' ∧ ∀ j, j < i' → ∀ c, t[j]? = some c → LowB c ∨ (0 < j ∧ (DigB c ∨ c.toNat = 95)) := fun h =>
      ⟨k, by omega, i + 1, by omega, by omega, all_step (P := fun j c => LowB c ∨ (0 < j ∧ (DigB c ∨ c.toNat = 95))) hall hc h⟩
    by_cases h1 : LowB c
    · have h1a : (c.toNat : Int) ≥ 97 := by have := h1.1; omega
      have h1b : (c.toNat : Int) ≤ 122 := by have := h1.2; omega
      simp [r0, r3, hi, hc', h1a, h1b, hw]
      exact hgo (.inl h1)
    have hl : (¬ (c.toNat : Int) ≥ 97) ∨ ((c.toNat : Int) ≥ 97 ∧ ¬ (c.toNat : Int) ≤ 122) := by unfold LowB at h1; omega
    have hno : ¬ (0 < i ∧ (DigB c ∨ c.toNat = 95)) → ¬ NameOk t := fun h hk => (hk.2.2 i c hc).elim h1 h
    by_cases h2 : i = 0
    · have hno := hno (by omega)
      subst h2
      rcases hl with hl | ⟨hl, hl2⟩
      · simp [r0, r3, hi, hc', hl, hno]
      · simp [r0, r3, hi, hc', hl, hl2, hno]
    have h2' : ¬ (i : Int) = 0 := by omega
    by_cases h3 : DigB c
    · have h3a : (c.toNat : Int) ≥ 48 := by have := h3.1; omega
      have h3b : (c.toNat : Int) ≤ 57 := by have := h3.2; omega
      have h3c : ¬ (c.toNat : Int) ≥ 97 := by omega
      simp [r0, r3, hi, hc', h2, h3a, h3b, h3c, hw]
      exact hgo (.inr ⟨by omega, .inl h3⟩)
    have hd : (¬ (c.toNat : Int) ≥ 48) ∨ ((c.toNat : Int) ≥ 48 ∧ ¬ (c.toNat : Int) ≤ 57) := by unfold DigB at h3; omega
    by_cases h4 : c.toNat = 95
    · have := hgo (.inr ⟨by omega, .inr h4⟩)
      simp [r0, r3, hi, hc', h2, h4, hw]
      exact this
    · have h4' : ¬ (c.toNat : Int) = 95 := by omega
      have hno := hno (fun h => h.2.elim h3 h4)
      rcases hl with hl | ⟨hl, hl2⟩ <;> rcases hd with hd | ⟨hd, hd2⟩
      · simp [r0, r3, hi, hc', h2, h4', hl, hd, hno]
      · simp [r0, r3, hi, hc', h2, h4', hl, hd, hd2, hno]
      · simp [r0, r3, hi, hc', h2, h4', hl, hl2, hd, hno]
      · simp [r0, r3, hi, hc', h2, h4', hl, hl2, hd, hd2, hno]
end Go.Proofs.Try1
end

section
namespace Go.Proofs.Try1
open Go Go.Lite
set_option linter.unusedSimpArgs false
set_option linter.unusedVariables false

/-- The set of some bytes, as 256 cells. -/
def setB (l : Str) : List V := (List.range 256).map fun i => V.bool (l.any fun c => c.toNat == i)
theorem setOf_len {l : Str} : (setB l).length = 256 := by simp [setB]
theorem setOf_get {l : Str} {i : Nat} (h : i < 256) : (setB l)[i]? = some (.bool (l.any fun c => c.toNat == i)) := by
  unfold setB
  rw [List.getElem?_map, List.getElem?_range h]
  rfl
theorem setOf_mem {l : Str} {c : UInt8} : (setB l)[c.toNat]? = some (.bool (decide (c ∈ l))) := by
  rw [setOf_get c.toNat_lt]
  congr 2
  rw [Bool.eq_iff_iff]
  simp only [List.any_eq_true, decide_eq_true_eq, beq_iff_eq]
  constructor
  · rintro ⟨d, hd, he⟩
    rw [← UInt8.toNat_inj.1 he]
    exact hd
  · intro h
    exact ⟨c, h, rfl⟩
theorem setOf_nil : setB [] = List.replicate 256 (.bool false) := by
  apply List.ext_getElem?
  intro i
  by_cases h : i < 256
  · rw [setOf_get h, List.getElem?_replicate, if_pos h]
    rfl
  · rw [List.getElem?_eq_none (by rw [setOf_len]; omega), List.getElem?_eq_none (by rw [List.length_replicate]; omega)]
theorem setOf_snoc {l : Str} {c : UInt8} : (setB l).set c.toNat (.bool true) = setB (l ++ [c]) := by
  apply List.ext_getElem?
  intro i
  have hc := c.toNat_lt
  by_cases h : i < 256
  · rw [setOf_get h]
    by_cases hi : i = c.toNat
    · subst hi
      rw [List.getElem?_set_self (by rw [setOf_len]; omega)]
      simp
    · rw [List.getElem?_set_ne (by omega), setOf_get h]
      congr 2
      have : (c.toNat == i) = false := by simp; omega
      simp [this]
  · rw [List.getElem?_eq_none (by simp [setOf_len]; omega), List.getElem?_eq_none (by rw [setOf_len]; omega)]

set_option maxRecDepth 10000 in
theorem mkSet {t : Str} {H : List Ob} (ht : ∀ c ∈ t, c.toNat < 128) (hl : t.length ≤ 1000) : callW C 326 [.str t] H = some (.tup [.agg (setB t), .bool true], H) := by
  apply Ret.eq
  rw [op326]
  simp [code326, Tryz.f326, -List.reduceReplicate]
  refine WP_loop (fun k σ => ∃ (i : Nat) (r : Nat → R), i + k = t.length ∧ σ = ⟨r, 1, H⟩ ∧ r 0 = .val (.str t) ∧ r 2 = .box 0 (setB (t.take i)) ∧ r 4 = .val (.int .i64 i)) ?_ t.length _ ⟨0, _, by simp, rfl, by simp, by simp [setOf_nil, -List.reduceReplicate], by simp⟩
  rintro k σ ⟨i, r, hik, rfl, r0, r2, r4⟩
  cases k with
  | zero =>
    have hi : i = t.length := by omega
    subst hi
    rw [List.take_length] at r2
    have htk : (setB t).take 256 = setB t := List.take_of_length_le (by rw [setOf_len]; omega)
    have hdr : (setB t).drop 256 = [] := List.drop_of_length_le (by rw [setOf_len]; omega)
    have hall : ∀ x ∈ setB t, isOne x = true := fun x hx => by
      simp only [setB, List.mem_map] at hx
      obtain ⟨_, _, rfl⟩ := hx
      rfl
    simp [r0, r2, r4, setOf_len, htk, hdr, if_pos hall, -List.reduceReplicate]
  | succ k =>
    have hi : i < t.length := by omega
    obtain ⟨c, hc⟩ : ∃ c, t[i]? = some c := ⟨t[i], by simp [hi]⟩
    have hc' : t[i] = c := (List.getElem?_eq_some_iff.1 hc).2
    have hw : IntKind.i64.wrap ((i : Int) + 1) = ((i : Int) + 1) := wrap_i64 (by omega) (by omega)
    have h128 : c.toNat < 128 := ht c (List.mem_of_getElem? hc)
    have h1 : ¬ (c.toNat : Int) ≥ 128 := by omega
    have h2 : (c.toNat : Int) < 256 := by omega
    have h3 : c.toNat < 256 := by omega
    have hs : setRange (setB (t.take i)) c.toNat [.bool true] = setB (t.take (i + 1)) := by rw [setRange_one (by rw [setOf_len]; omega), setOf_snoc, take_get hc]
    have h4 : c.toNat + 1 ≤ 256 := by omega
    simp [r0, r2, r4, hi, hc', h1, h2, h3, h4, hw, setOf_len, hs, indexR, -setRange, -List.reduceReplicate]
    exact ⟨k, by omega, i + 1, by omega, rfl, by omega⟩

set_option maxRecDepth 10000 in
theorem setHas {l : Str} {H : List Ob} {id : Nat} {own : Bool} {c : UInt8} (h : H[id]? = some (.mk own 1 (setB l))) : callW C 393 [.ptr (some (id, 0)), .int .u8 c.toNat] H = some (.bool (decide (c ∈ l)), H) := by
  apply Ret.eq
  rw [op393]
  have h2 : (c.toNat : Int) < 256 := by have := c.toNat_lt; omega
  have ld := load1 (o := c.toNat) h setOf_mem
  simp [code393, Tryz.f393, indexR, h2, ld, -List.reduceReplicate]

def kset : Str := [97, 98, 99, 100, 101, 102, 103, 104, 105, 106, 107, 108, 109, 110, 111, 112, 113, 114, 115, 116, 117, 118, 119, 120, 121, 122, 48, 49, 50, 51, 52, 53, 54, 55, 56, 57, 95]
theorem kset_mem {c : UInt8} : c ∈ kset ↔ LowB c ∨ DigB c ∨ c.toNat = 95 := by
  unfold kset LowB DigB
  simp only [List.mem_cons, List.not_mem_nil, or_false, ← UInt8.toNat_inj]
  have h := c.toNat_lt
  simp only [UInt8.toNat_ofNat, Nat.reducePow, Nat.reduceMod]
  omega
def AllK (t : Str) : Prop := ∀ c ∈ t, c ∈ kset

set_option maxRecDepth 10000 in
theorem trimR {t : Str} {H : List Ob} {id : Nat} {own : Bool} (h : H[id]? = some (.mk own 1 (setB kset))) (hl : t.length ≤ 1000) : ∃ s, callW C 328 [.str t, .ptr (some (id, 0))] H = some (.str s, H) ∧ (AllK s ↔ AllK t) ∧ (s = [] ∨ ¬ AllK s) ∧ s.length ≤ 1000 := by
  suffices hs : Ret C 328 [.str t, .ptr (some (id, 0))] H fun q H' => (∃ s, q = .str s ∧ (AllK s ↔ AllK t) ∧ (s = [] ∨ ¬ AllK s) ∧ s.length ≤ 1000) ∧ H' = H by
    obtain ⟨q, H', hc, ⟨s, rfl, hr⟩, rfl⟩ := hs
    exact ⟨s, hc, hr⟩
  rw [op328]
  simp [code328, Tryz.f328, -List.reduceReplicate]
  refine WP_loop (fun k σ => ∃ (s : Str) (r : Nat → R), s.length = k ∧ σ = ⟨r, 0, H⟩ ∧ r 0 = .val (.str s) ∧ r 1 = .val (.ptr (some (id, 0))) ∧ (AllK s ↔ AllK t) ∧ s.length ≤ 1000) ?_ t.length _ ⟨t, _, rfl, rfl, by simp, by simp, Iff.rfl, hl⟩
  rintro k σ ⟨s, r, hk, rfl, r0, r1, hall, hs⟩
  cases k with
  | zero =>
    have hs0 : s = [] := List.length_eq_zero_iff.1 hk
    subst hs0
    simp [r0, r1]
    exact hall
  | succ k =>
    have hp : (0 : Int) < (s.length : Int) := by omega
    have hne : s ≠ [] := by rintro rfl; simp at hk
    obtain ⟨d, hd⟩ : ∃ d, s.getLast hne = d := ⟨_, rfl⟩
    have hd' : s[s.length - 1]? = some d := by rw [← List.getLast?_eq_getElem?, List.getLast?_eq_some_getLast hne, hd]
    have hd2 : s[s.length - 1]'(by omega) = d := (List.getElem?_eq_some_iff.1 hd').2
    have hw1 : IntKind.i64.wrap ((s.length : Int) - 1) = (s.length : Int) - 1 := wrap_i64 (by omega) (by omega)
    have h3 : (1 : Int) ≤ (s.length : Int) := by omega
    have h4 : ((s.length : Int) - 1).toNat = s.length - 1 := by omega
    have h5 : s.length - 1 < s.length := by omega
    have c1 := setHas (c := d) h
    have hdrop : s = s.take (s.length - 1) ++ [d] := by
      have := take_get hd'
      rw [show s.length - 1 + 1 = s.length by omega, List.take_length] at this
      exact this
    by_cases hm : d ∈ kset
    · have h6 : s.length - 1 ≤ s.length := by omega
      simp [r0, r1, hp, hne, hw1, h3, h4, h5, h6, hd2, hd', c1, hm, -List.reduceReplicate]
      refine ⟨by omega, k, by omega, _, by simp; omega, rfl, ?_, by simp; omega⟩
      rw [← hall]
      constructor
      · intro hA c hc
        rw [hdrop] at hc
        rcases List.mem_append.1 hc with hc | hc
        · exact hA c hc
        · simp at hc; rw [hc]; exact hm
      · intro hA c hc
        exact hA c (List.mem_of_mem_take hc)
    · have hn : ¬ AllK s := fun hA => hm (hA d (List.mem_of_getElem? hd'))
      simp [r0, r1, hp, hne, hw1, h3, h4, h5, hd2, hd', c1, hm, -List.reduceReplicate]
      exact ⟨by omega, hall, hn, hs⟩

set_option maxRecDepth 10000 in
theorem trimL {t : Str} {H : List Ob} {id : Nat} {own : Bool} (h : H[id]? = some (.mk own 1 (setB kset))) (hl : t.length ≤ 1000) : ∃ s, callW C 327 [.str t, .ptr (some (id, 0))] H = some (.str s, H) ∧ (AllK s ↔ AllK t) ∧ (s = [] ∨ ¬ AllK s) := by
  suffices hs : Ret C 327 [.str t, .ptr (some (id, 0))] H fun q H' => (∃ s, q = .str s ∧ (AllK s ↔ AllK t) ∧ (s = [] ∨ ¬ AllK s)) ∧ H' = H by
    obtain ⟨q, H', hc, ⟨s, rfl, hr⟩, rfl⟩ := hs
    exact ⟨s, hc, hr⟩
  rw [op327]
  simp [code327, Tryz.f327, -List.reduceReplicate]
  refine WP_loop (fun k σ => ∃ (s : Str) (r : Nat → R), s.length = k ∧ σ = ⟨r, 0, H⟩ ∧ r 0 = .val (.str s) ∧ r 1 = .val (.ptr (some (id, 0))) ∧ (AllK s ↔ AllK t)) ?_ t.length _ ⟨t, _, rfl, rfl, by simp, by simp, Iff.rfl⟩
  rintro k σ ⟨s, r, hk, rfl, r0, r1, hall⟩
  cases k with
  | zero =>
    have hs0 : s = [] := List.length_eq_zero_iff.1 hk
    subst hs0
    simp [r0, r1]
    exact hall
  | succ k =>
    match s, hk with
    | d :: s, hk =>
    have hk' : s.length = k := by simpa using hk
    have c1 := setHas (c := d) h
    have hp : (0 : Int) < (s.length : Int) + 1 := by omega
    by_cases hm : d ∈ kset
    · simp [r0, r1, hp, c1, hm, -List.reduceReplicate]
      refine ⟨k, by omega, s, hk', rfl, ?_⟩
      rw [← hall]
      constructor
      · intro hA c hc
        rcases List.mem_cons.1 hc with rfl | hc
        · exact hm
        · exact hA c hc
      · intro hA c hc
        exact hA c (List.mem_cons_of_mem _ hc)
    · have hn : ¬ AllK (d :: s) := fun hA => hm (hA d List.mem_cons_self)
      simp [r0, r1, hp, c1, hm, -List.reduceReplicate]
      exact ⟨hall, hn⟩
end Go.Proofs.Try1
end

section
namespace Go.Proofs.Try1
open Go Go.Lite
set_option linter.unusedSimpArgs false
set_option linter.unusedVariables false

theorem lowC_up {c : UInt8} (h1 : 65 ≤ c.toNat) (h2 : c.toNat ≤ 90) : IntKind.u8.wrap ((c.toNat : Int) + 32) = ((lowC c).toNat : Int) := by
  have : lowC c = c + 32 := by unfold lowC; rw [if_pos ⟨h1, h2⟩]
  rw [this]
  unfold IntKind.wrap
  simp [IntKind.bits, IntKind.signed, UInt8.toNat_add]
theorem lowC_up32 {c : UInt8} (h1 : 65 ≤ c.toNat) (h2 : c.toNat ≤ 90) : (lowC c).toNat = c.toNat + 32 := by
  have : lowC c = c + 32 := by unfold lowC; rw [if_pos ⟨h1, h2⟩]
  rw [this, UInt8.toNat_add]
  have : c.toNat + 32 < 256 := by omega
  simp
  omega
theorem lowC_no {c : UInt8} (h : ¬ (65 ≤ c.toNat ∧ c.toNat ≤ 90)) : lowC c = c := by unfold lowC; rw [if_neg h]
theorem u8_32 {c : UInt8} : c = 32 ↔ c.toNat = 32 := ⟨fun h => by rw [h]; rfl, fun h => UInt8.toNat_inj.1 h⟩
theorem foldl_step {t : Str} {i : Nat} {c : UInt8} (h : t[i]? = some c) (f : Str → UInt8 → Str) (b : Str) : (t.take (i + 1)).foldl f b = f ((t.take i).foldl f b) c := by
  rw [take_get h, List.foldl_append]
  rfl
theorem endSp_last {b : Str} {d : UInt8} (h : b.getLast? = some d) : endSp b = true ↔ d = 32 := by
  unfold endSp
  rw [h]
  simp
theorem last_some {b : Str} (h : b ≠ []) : ∃ d, b.getLast? = some d := ⟨b.getLast h, List.getLast?_eq_some_getLast h⟩

set_option maxRecDepth 10000 in
set_option maxHeartbeats 4000000 in
theorem s_Norm {t : Str} {H : List Ob} : callW C 219 [.str t] H = some (.str (norm t), H) := by
  apply Ret.eq
  rw [op219]
  by_cases g1 : (t.length : Int) > 100
  · have : norm t = [] := by unfold norm; rw [if_neg (by omega)]
    simp [code219, Tryz.f219, g1, this]
  have hp := s_Plain (t := t) (H := H) (by omega)
  by_cases g2 : Plain t
  rotate_left
  · rw [dec_neg g2] at hp
    have : norm t = [] := by unfold norm; rw [dec_neg g2]; simp
    simp [code219, Tryz.f219, g1, hp, this]
  rw [dec_pos g2] at hp
  have hn : norm t = nfin (t.foldl nstep []) := by unfold norm; rw [if_pos ⟨by omega, dec_pos g2⟩]
  have hbz : ∀ i, ((t.take i).foldl nstep []).length ≤ 100 := fun i => by
    have := foldl_len (t.take i) []
    simp at this
    omega
  simp [code219, Tryz.f219, g1, hp, elemT, fillL, zerosL, St.new]
  refine WP_loop (fun k σ => ∃ (i : Nat) (r : Nat → R) (G : List Ob) (v : V), i + k = t.length ∧ σ = ⟨r, 0, G⟩ ∧ r 0 = .val (.str t) ∧ r 3 = .val v ∧ r 4 = .val (.int .i64 i) ∧ Bs H G v ((t.take i).foldl nstep [])) ?_ t.length _ ⟨0, _, _, _, by simp, rfl, by simp, by simp, by simp, Bs.init⟩
  rintro k σ ⟨i, r, G, v, hik, rfl, r0, r3, r4, hB⟩
  have hbl := hbz i
  generalize hb : (t.take i).foldl nstep [] = b at hB hbl
  have hw1 : IntKind.i64.wrap ((b.length : Int) - 1) = (b.length : Int) - 1 := wrap_i64 (by omega) (by omega)
  cases k with
  | zero =>
    have hi : i = t.length := by omega
    subst hi
    rw [List.take_length] at hb
    rw [hb] at hn
    obtain ⟨TT, rfl⟩ := hB.ext
    by_cases hb0 : b = []
    · subst hb0
      obtain ⟨id, rfl, hst, hsl⟩ := hB.cut (n := 0) (Nat.le_refl _)
      simp [r0, r3, r4, hsl, isByte, bys_mapM, hn, nfin, endSp]
    · obtain ⟨d, hd⟩ := last_some hb0
      have hb1 : 0 < b.length := List.length_pos_iff.2 hb0
      have hb2 : 0 < (b.length : Int) := by omega
      have hb3 : (1 : Int) ≤ (b.length : Int) := by omega
      have hb5 : (b.length : Int) - 1 < (b.length : Int) := by omega
      have hb4 : ((b.length : Int) - 1).toNat = b.length - 1 := by omega
      obtain ⟨id, rfl, hld⟩ := hB.last hd
      by_cases hd32 : d = 32
      · obtain ⟨_, hv, hst, hsl⟩ := hB.cut (n := b.length - 1) (by omega)
        cases hv
        have he : nfin b = b.take (b.length - 1) := by unfold nfin; rw [if_pos ((endSp_last hd).2 hd32), List.dropLast_eq_take]
        have hd' : (d.toNat : Int) = 32 := by rw [hd32]; rfl
        simp [r0, r3, r4, hb0, hb1, hb2, hb3, hb4, hb5, hw1, hld, hd', hst, hsl, isByte, bys_mapM, hn, he]
      · obtain ⟨_, hv, hst, hsl⟩ := hB.cut (n := b.length) (Nat.le_refl _)
        cases hv
        have he : nfin b = b := by unfold nfin; rw [if_neg (fun h => hd32 ((endSp_last hd).1 h))]
        have hd' : ¬ (d.toNat : Int) = 32 := by have := mt u8_32.2 hd32; omega
        rw [List.take_length] at hsl
        simp [r0, r3, r4, hb0, hb1, hb2, hb3, hb4, hb5, hw1, hld, hd', hst, hsl, isByte, bys_mapM, hn, he]
  | succ k =>
    have hi : i < t.length := by omega
    obtain ⟨c, hc⟩ : ∃ c, t[i]? = some c := ⟨t[i], by simp [hi]⟩
    have hc' : t[i] = c := (List.getElem?_eq_some_iff.1 hc).2
    have hw : IntKind.i64.wrap ((i : Int) + 1) = ((i : Int) + 1) := wrap_i64 (by omega) (by omega)
    have hfs := foldl_step hc nstep []
    rw [hb] at hfs
    have hgo : ∀ G' v', Bs H G' v' (nstep b c) → ∃ k', k' < k + 1 ∧ ∃ i', i' + k' = t.length ∧ (i : Int) + 1 = i' ∧ Bs H G' v' ((t.take i').foldl nstep []) := fun G' v' h =>
      ⟨k, by omega, i + 1, by omega, by omega, by rw [hfs]; exact h⟩
    by_cases hup : 65 ≤ c.toNat ∧ c.toNat ≤ 90
    · have hu1 : (c.toNat : Int) ≥ 65 := by omega
      have hu2 : (c.toNat : Int) ≤ 90 := by omega
      have hlw := lowC_up hup.1 hup.2
      have hl32 : ¬ ((lowC c).toNat : Int) = 32 := by rw [lowC_up32 hup.1 hup.2]; omega
      have hns : nstep b c = b ++ [lowC c] := by unfold nstep; rw [if_neg (fun h => hl32 (by rw [u8_32.1 h.1]; rfl))]
      obtain ⟨v', G', ha, hB'⟩ := hB.push (by omega) (c := lowC c) (d := .int .u8) (z := [.int .u8 0]) rfl
      rw [← hns] at hB'
      simp [r0, r3, r4, hi, hc', hu1, hu2, hlw, hl32, elemT, fillL, zerosL, St.new, badArg, ha, hw]
      obtain ⟨k', q1, i', q2, q3, q4⟩ := hgo G' v' hB'
      exact ⟨k', q1, i', q2, _, _, ⟨rfl, rfl⟩, by simp [r0], _, by simp [r3], by simp [q3], q4⟩
    have hlc := lowC_no hup
    have hu : (¬ (c.toNat : Int) ≥ 65) ∨ ((c.toNat : Int) ≥ 65 ∧ ¬ (c.toNat : Int) ≤ 90) := by omega
    by_cases h32 : c = 32
    · have h32' : (c.toNat : Int) = 32 := by rw [h32]; rfl
      have hu1 : ¬ (c.toNat : Int) ≥ 65 := by omega
      by_cases hb0 : b = []
      · have hns : nstep b c = b := by unfold nstep; rw [if_pos ⟨by rw [hlc, h32], .inl hb0⟩]
        rw [hns] at hgo
        have hbl0 : b.length = 0 := by rw [hb0]; rfl
        have := hgo G v hB
        simp [r0, r3, r4, hi, hc', h32', hB.len, hbl0, hw]
        obtain ⟨k', q1, i', q2, q3, q4⟩ := this
        exact ⟨k', q1, i', q2, _, _, ⟨rfl, rfl⟩, by simp [r0], _, by simp [r3], by simp [q3], q4⟩
      · obtain ⟨d, hd⟩ := last_some hb0
        have hb1 : 0 < b.length := List.length_pos_iff.2 hb0
        have hb3 : (1 : Int) ≤ (b.length : Int) := by omega
        have hb5 : (b.length : Int) - 1 < (b.length : Int) := by omega
        have hb4 : ((b.length : Int) - 1).toNat = b.length - 1 := by omega
        obtain ⟨id, hv, hld⟩ := hB.last hd
        have hB0 := hB
        subst hv
        by_cases hd32 : d = 32
        · have hns : nstep b c = b := by unfold nstep; rw [if_pos ⟨by rw [hlc, h32], .inr ((endSp_last hd).2 hd32)⟩]
          rw [hns] at hgo
          have hd' : (d.toNat : Int) = 32 := by rw [hd32]; rfl
          have := hgo G _ hB
          simp [r0, r3, r4, hi, hc', h32', hb0, hb1, hb3, hb4, hb5, hw1, hld, hd', hw]
          obtain ⟨k', q1, i', q2, q3, q4⟩ := this
          exact ⟨k', q1, i', q2, _, _, ⟨rfl, rfl⟩, by simp [r0], _, by simp [r3], by simp [q3], q4⟩
        · have hns : nstep b c = b ++ [c] := by unfold nstep; rw [if_neg (fun h => h.2.elim hb0 (fun h => hd32 ((endSp_last hd).1 h))), hlc]
          have hd' : ¬ (d.toNat : Int) = 32 := by have := mt u8_32.2 hd32; omega
          obtain ⟨v', G', ha, hB'⟩ := hB.push (by omega) (c := c) (d := .int .u8) (z := [.int .u8 0]) rfl
          rw [← hns] at hB'
          rw [h32'] at ha
          simp [r0, r3, r4, hi, hc', h32', hb0, hb1, hb3, hb4, hb5, hw1, hld, hd', elemT, fillL, zerosL, St.new, badArg, ha, hw]
          obtain ⟨k', q1, i', q2, q3, q4⟩ := hgo G' v' hB'
          exact ⟨k', q1, i', q2, _, _, ⟨rfl, rfl⟩, by simp [r0], _, by simp [r3], by simp [q3], q4⟩
    · have h32' : ¬ (c.toNat : Int) = 32 := by have := mt u8_32.2 h32; omega
      have hns : nstep b c = b ++ [c] := by unfold nstep; rw [if_neg (fun h => h32 (hlc ▸ h.1)), hlc]
      obtain ⟨v', G', ha, hB'⟩ := hB.push (by omega) (c := c) (d := .int .u8) (z := [.int .u8 0]) rfl
      rw [← hns] at hB'
      have := hgo G' v' hB'
      rcases hu with hu | ⟨hu, hu2⟩
      · simp [r0, r3, r4, hi, hc', hu, h32', elemT, fillL, zerosL, St.new, badArg, ha, hw]
        obtain ⟨k', q1, i', q2, q3, q4⟩ := this
        exact ⟨k', q1, i', q2, _, _, ⟨rfl, rfl⟩, by simp [r0], _, by simp [r3], by simp [q3], q4⟩
      · simp [r0, r3, r4, hi, hc', hu, hu2, h32', elemT, fillL, zerosL, St.new, badArg, ha, hw]
        obtain ⟨k', q1, i', q2, q3, q4⟩ := this
        exact ⟨k', q1, i', q2, _, _, ⟨rfl, rfl⟩, by simp [r0], _, by simp [r3], by simp [q3], q4⟩
end Go.Proofs.Try1
end

section
namespace Go.Proofs.Try1
open Go Go.Lite
set_option linter.unusedSimpArgs false
set_option linter.unusedVariables false

/-- Ends the one text with the other? -/
def EndsWith (s w : Str) : Prop := w.length ≤ s.length ∧ s.drop (s.length - w.length) = w

set_option maxRecDepth 10000 in
theorem hasSuffix {s w : Str} {H : List Ob} (hs : s.length ≤ 1000000) (hw : w.length ≤ 1000000) : callW C 345 [.str s, .str w] H = some (.bool (dec (EndsWith s w)), H) := by
  apply Ret.dec
  rw [op345]
  by_cases h1 : (s.length : Int) ≥ w.length
  · have hw1 : IntKind.i64.wrap ((s.length : Int) - w.length) = (s.length : Int) - w.length := wrap_i64 (by omega) (by omega)
    have h2 : (w.length : Int) ≤ (s.length : Int) := h1
    have h3 : ((s.length : Int) - w.length).toNat = s.length - w.length := by omega
    have h4 : (0 : Int) ≤ (s.length : Int) - w.length := by omega
    have h5 : w.length ≤ s.length := by omega
    by_cases h6 : s.drop (s.length - w.length) = w
    · have hn : EndsWith s w := ⟨h5, h6⟩
      simp [code345, Tryz.f345, h1, h2, h3, h4, h5, hw1, h6, hn]
    · have hn : ¬ EndsWith s w := fun h => h6 h.2
      simp [code345, Tryz.f345, h1, h2, h3, h4, h5, hw1, h6, hn]
  · have hn : ¬ EndsWith s w := fun h => h1 (by have := h.1; omega)
    simp [code345, Tryz.f345, h1, hn]

noncomputable def trimEnd (s w : Str) : Str := if dec (EndsWith s w) = true then s.take (s.length - w.length) else s

set_option maxRecDepth 10000 in
theorem trimSuffixL {s w : Str} {H : List Ob} (hs : s.length ≤ 1000000) (hw : w.length ≤ 1000000) : callW C 256 [.str s, .str w] H = some (.str (trimEnd s w), H) := by
  apply Ret.eq
  rw [op256]
  have hc := hasSuffix (H := H) hs hw
  by_cases h : EndsWith s w
  · rw [dec_pos h] at hc
    have h0 := h.1
    have hw1 : IntKind.i64.wrap ((s.length : Int) - w.length) = (s.length : Int) - w.length := wrap_i64 (by omega) (by omega)
    have h2 : (w.length : Int) ≤ (s.length : Int) := by omega
    have h3 : ((s.length : Int) - w.length).toNat = s.length - w.length := by omega
    have ht : trimEnd s w = s.take (s.length - w.length) := by unfold trimEnd; rw [dec_pos h]; rfl
    simp [code256, Tryz.f256, hc, hw1, h2, h3, ht]
  · rw [dec_neg h] at hc
    have ht : trimEnd s w = s := by unfold trimEnd; rw [dec_neg h]; rfl
    simp [code256, Tryz.f256, hc, ht]

theorem trimEnd_sp {s : Str} : trimEnd s [32] = nfin s := by
  have he : EndsWith s [32] ↔ endSp s = true := by
    unfold EndsWith endSp
    cases hl : s.getLast? with
    | none =>
      have : s = [] := by simpa using hl
      subst this
      simp
    | some d =>
      have hne : s ≠ [] := by rintro rfl; simp at hl
      have h1 : 1 ≤ s.length := List.length_pos_iff.2 hne
      rw [List.getLast?_eq_getElem?] at hl
      have h2 : s.drop (s.length - 1) = [d] := by
        apply List.ext_getElem?
        intro j
        rw [List.getElem?_drop]
        cases j with
        | zero => simpa using hl
        | succ j => simp; omega
      simp [h1, h2]
  unfold trimEnd nfin
  by_cases h : endSp s = true
  · rw [dec_pos (he.2 h), if_pos rfl, if_pos h, List.dropLast_eq_take]
    rfl
  · rw [dec_neg (mt he.1 h), if_neg (by simp), if_neg h]

set_option maxRecDepth 10000 in
theorem trimSp {s : Str} {H : List Ob} (hs : s.length ≤ 1000000) : callW C 152 [.str s, .str [32]] H = some (.str (nfin s), H) := by
  apply Ret.eq
  rw [op152]
  have hc := trimSuffixL (H := H) hs (w := [32]) (by simp)
  rw [trimEnd_sp] at hc
  simp [code152, Tryz.f152, hc]

set_option maxRecDepth 10000 in
set_option maxHeartbeats 4000000 in
theorem i_Norm {t : Str} {H : List Ob} : callW C 50 [.str t] H = some (.str (norm t), H) := by
  apply Ret.eq
  rw [op50]
  by_cases g1 : (t.length : Int) > 100
  · have : norm t = [] := by unfold norm; rw [if_neg (by omega)]
    simp [code50, Tryz.f50, g1, this]
  have hp := i_Plain (t := t) (H := H) (by omega)
  by_cases g2 : Plain t
  rotate_left
  · rw [dec_neg g2] at hp
    have : norm t = [] := by unfold norm; rw [dec_neg g2]; simp
    simp [code50, Tryz.f50, g1, hp, this]
  rw [dec_pos g2] at hp
  have hn : norm t = nfin (t.foldl nstep []) := by unfold norm; rw [if_pos ⟨by omega, dec_pos g2⟩]
  have hbz : ∀ i, ((t.take i).foldl nstep []).length ≤ 100 := fun i => by
    have := foldl_len (t.take i) []
    simp at this
    omega
  simp [code50, Tryz.f50, g1, hp, elemT, fillL, zerosL, St.new]
  refine WP_loop (fun k σ => ∃ (i : Nat) (r : Nat → R) (G : List Ob) (v : V), i + k = t.length ∧ σ = ⟨r, 0, G⟩ ∧ r 0 = .val (.str t) ∧ r 3 = .val v ∧ r 16 = .val (.int .i64 t.length) ∧ r 17 = .val (.int .i64 i) ∧ Bs H G v ((t.take i).foldl nstep [])) ?_ t.length _ ⟨0, _, _, _, by simp, rfl, by simp, by simp, by simp, by simp, Bs.init⟩
  rintro k σ ⟨i, r, G, v, hik, rfl, r0, r3, r16, r17, hB⟩
  have hbl := hbz i
  generalize hb : (t.take i).foldl nstep [] = b at hB hbl
  have hw1 : IntKind.i64.wrap ((b.length : Int) - 1) = (b.length : Int) - 1 := wrap_i64 (by omega) (by omega)
  cases k with
  | zero =>
    have hi : i = t.length := by omega
    subst hi
    rw [List.take_length] at hb
    rw [hb] at hn
    obtain ⟨TT, rfl⟩ := hB.ext
    obtain ⟨id, rfl, hst, hsl⟩ := hB.cut (n := b.length) (Nat.le_refl _)
    rw [List.take_length] at hsl
    have hts := trimSp (s := b) (H := H ++ TT) (by omega)
    simp [r0, r3, r16, r17, hsl, isByte, bys_mapM, hn, hts]
  | succ k =>
    have hi : i < t.length := by omega
    obtain ⟨c, hc⟩ : ∃ c, t[i]? = some c := ⟨t[i], by simp [hi]⟩
    have hc' : t[i] = c := (List.getElem?_eq_some_iff.1 hc).2
    have hw : IntKind.i64.wrap ((i : Int) + 1) = ((i : Int) + 1) := wrap_i64 (by omega) (by omega)
    have hfs := foldl_step hc nstep []
    rw [hb] at hfs
    have hgo : ∀ G' v', Bs H G' v' (nstep b c) → ∃ k', k' < k + 1 ∧ ∃ i', i' + k' = t.length ∧ (i : Int) + 1 = i' ∧ Bs H G' v' ((t.take i').foldl nstep []) := fun G' v' h =>
      ⟨k, by omega, i + 1, by omega, by omega, by rw [hfs]; exact h⟩
    by_cases hup : 65 ≤ c.toNat ∧ c.toNat ≤ 90
    · have hu1 : (c.toNat : Int) ≥ 65 := by omega
      have hu2 : (c.toNat : Int) ≤ 90 := by omega
      have hlw := lowC_up hup.1 hup.2
      have hl32 : ¬ ((lowC c).toNat : Int) = 32 := by rw [lowC_up32 hup.1 hup.2]; omega
      have hns : nstep b c = b ++ [lowC c] := by unfold nstep; rw [if_neg (fun h => hl32 (by rw [u8_32.1 h.1]; rfl))]
      obtain ⟨v', G', ha, hB'⟩ := hB.push (by omega) (c := lowC c) (d := .int .u8) (z := [.int .u8 0]) rfl
      rw [← hns] at hB'
      simp [r0, r3, r16, r17, hi, hc', hu1, hu2, hlw, hl32, elemT, fillL, zerosL, St.new, badArg, ha, hw]
      obtain ⟨k', q1, i', q2, q3, q4⟩ := hgo G' v' hB'
      exact ⟨k', q1, i', q2, _, _, ⟨rfl, rfl⟩, by simp [r0], _, by simp [r3], by simp [r16], by simp [q3], q4⟩
    have hlc := lowC_no hup
    have hu : (¬ (c.toNat : Int) ≥ 65) ∨ ((c.toNat : Int) ≥ 65 ∧ ¬ (c.toNat : Int) ≤ 90) := by omega
    by_cases h32 : c = 32
    · have h32' : (c.toNat : Int) = 32 := by rw [h32]; rfl
      have hu1 : ¬ (c.toNat : Int) ≥ 65 := by omega
      by_cases hb0 : b = []
      · have hns : nstep b c = b := by unfold nstep; rw [if_pos ⟨by rw [hlc, h32], .inl hb0⟩]
        rw [hns] at hgo
        have hbl0 : b.length = 0 := by rw [hb0]; rfl
        simp [r0, r3, r16, r17, hi, hc', h32', hB.len, hbl0, hw]
        obtain ⟨k', q1, i', q2, q3, q4⟩ := hgo G v hB
        exact ⟨k', q1, i', q2, _, _, ⟨rfl, rfl⟩, by simp [r0], _, by simp [r3], by simp [r16], by simp [q3], q4⟩
      · obtain ⟨d, hd⟩ := last_some hb0
        have hb1 : 0 < b.length := List.length_pos_iff.2 hb0
        have hb3 : (1 : Int) ≤ (b.length : Int) := by omega
        have hb5 : (b.length : Int) - 1 < (b.length : Int) := by omega
        have hb4 : ((b.length : Int) - 1).toNat = b.length - 1 := by omega
        obtain ⟨id, hv, hld⟩ := hB.last hd
        subst hv
        by_cases hd32 : d = 32
        · have hns : nstep b c = b := by unfold nstep; rw [if_pos ⟨by rw [hlc, h32], .inr ((endSp_last hd).2 hd32)⟩]
          rw [hns] at hgo
          have hd' : (d.toNat : Int) = 32 := by rw [hd32]; rfl
          simp [r0, r3, r16, r17, hi, hc', h32', hb0, hb1, hb3, hb4, hb5, hw1, hld, hd', hw]
          obtain ⟨k', q1, i', q2, q3, q4⟩ := hgo G _ hB
          exact ⟨k', q1, i', q2, _, _, ⟨rfl, rfl⟩, by simp [r0], _, by simp [r3], by simp [r16], by simp [q3], q4⟩
        · have hns : nstep b c = b ++ [c] := by unfold nstep; rw [if_neg (fun h => h.2.elim hb0 (fun h => hd32 ((endSp_last hd).1 h))), hlc]
          have hd' : ¬ (d.toNat : Int) = 32 := by have := mt u8_32.2 hd32; omega
          obtain ⟨v', G', ha, hB'⟩ := hB.push (by omega) (c := c) (d := .int .u8) (z := [.int .u8 0]) rfl
          rw [← hns] at hB'
          rw [h32'] at ha
          simp [r0, r3, r16, r17, hi, hc', h32', hb0, hb1, hb3, hb4, hb5, hw1, hld, hd', elemT, fillL, zerosL, St.new, badArg, ha, hw]
          obtain ⟨k', q1, i', q2, q3, q4⟩ := hgo G' v' hB'
          exact ⟨k', q1, i', q2, _, _, ⟨rfl, rfl⟩, by simp [r0], _, by simp [r3], by simp [r16], by simp [q3], q4⟩
    · have h32' : ¬ (c.toNat : Int) = 32 := by have := mt u8_32.2 h32; omega
      have hns : nstep b c = b ++ [c] := by unfold nstep; rw [if_neg (fun h => h32 (hlc ▸ h.1)), hlc]
      obtain ⟨v', G', ha, hB'⟩ := hB.push (by omega) (c := c) (d := .int .u8) (z := [.int .u8 0]) rfl
      rw [← hns] at hB'
      obtain ⟨k', q1, i', q2, q3, q4⟩ := hgo G' v' hB'
      rcases hu with hu | ⟨hu, hu2⟩
      · simp [r0, r3, r16, r17, hi, hc', hu, h32', elemT, fillL, zerosL, St.new, badArg, ha, hw]
        exact ⟨k', q1, i', q2, _, _, ⟨rfl, rfl⟩, by simp [r0], _, by simp [r3], by simp [r16], by simp [q3], q4⟩
      · simp [r0, r3, r16, r17, hi, hc', hu, hu2, h32', elemT, fillL, zerosL, St.new, badArg, ha, hw]
        exact ⟨k', q1, i', q2, _, _, ⟨rfl, rfl⟩, by simp [r0], _, by simp [r3], by simp [r16], by simp [q3], q4⟩

theorem s_Value {t : Str} {H : List Ob} : callW C 114 [.str t] H = some (.bool (dec (ValueOk t)), H) := by
  apply Ret.dec
  rw [op114]
  have hn := s_Norm (t := t) (H := H)
  by_cases g1 : (t.length : Int) ≥ 1
  · by_cases g2 : (t.length : Int) ≤ 40
    · by_cases g3 : norm t = []
      · have hv : ¬ ValueOk t := fun h => h.2.2 g3
        simp [code114, Tryz.f114, g1, g2, hn, g3, hv]
      · have hv : ValueOk t := ⟨by omega, by omega, g3⟩
        simp [code114, Tryz.f114, g1, g2, hn, g3, hv]
    · have : ¬ ValueOk t := fun h => by have := h.2.1; omega
      simp [code114, Tryz.f114, g1, g2, this]
  · have : ¬ ValueOk t := fun h => by have := h.1; omega
    simp [code114, Tryz.f114, g1, this]

theorem i_Value {t : Str} {H : List Ob} : callW C 232 [.str t] H = some (.bool (dec (ValueOk t)), H) := by
  apply Ret.dec
  rw [op232]
  have hn := i_Norm (t := t) (H := H)
  by_cases g1 : (t.length : Int) ≥ 1
  · by_cases g2 : (t.length : Int) ≤ 40
    · by_cases g3 : norm t = []
      · have hv : ¬ ValueOk t := fun h => h.2.2 g3
        simp [code232, Tryz.f232, g1, g2, hn, g3, hv]
      · have hv : ValueOk t := ⟨by omega, by omega, g3⟩
        simp [code232, Tryz.f232, g1, g2, hn, g3, hv]
    · have : ¬ ValueOk t := fun h => by have := h.2.1; omega
      simp [code232, Tryz.f232, g1, g2, this]
  · have : ¬ ValueOk t := fun h => by have := h.1; omega
    simp [code232, Tryz.f232, g1, this]
end Go.Proofs.Try1
end
