/- Part 14 of the proof of a law: the interpreter, its soundness, and what functions of the program compute over it. Conditions: none but those that each theorem names. -/
import Derived.Test.YtamgeahibepfnaaGreatDoorP10
import Derived.Test.YtamgeahibepfnaaGreatDoorP13
import Derived.Test.YtamgeahibepfnaaGreatDoorP08
import Derived.Test.YtamgeahibepfnaaGreatDoorP11
import Derived.Test.YtamgeahibepfnaaGreatDoorP06
import Derived.Test.YtamgeahibepfnaaGreatDoorP12

set_option linter.all false
set_option maxRecDepth 20000
set_option maxHeartbeats 40000000
section
namespace Go.Proofs.Try1
open Go Go.Lite
theorem Kv : Gw 43 gz := by
 intro H cs u F k h hn hk
 obtain ⟨us, rfl, g0⟩ := eQ.1 h
 obtain ⟨c1, c2, u1, us1, F1, F2, rfl, rfl, rfl, h1, g1⟩ := aC.1 g0
 obtain ⟨c3, c4, u2, us2, F3, F4, rfl, rfl, rfl, h2, g2⟩ := aC.1 g1
 obtain ⟨c5, c6, u3, us3, F5, F6, rfl, rfl, rfl, h3, g3⟩ := aC.1 g2
 obtain ⟨rfl, rfl, rfl⟩ := dC.1 g3
 obtain ⟨⟨n, rfl, rfl, w⟩, rfl⟩ := lQ.1 h3
 obtain ⟨e, rfl⟩ := uu (AtF.at _ h1)
 obtain ⟨v1, v2, rfl, a1, a2⟩ := pM.1 (AtF.at _ h1)
 obtain ⟨v3, l3, rfl, rfl, l3b, _⟩ := aF.1 h2
 have ho1 := a1.one
 have ho2 := a2.one
 have ho3 : aP v3 = true ∧ cellsOf v3 = some [v3] := by
  have := At.ones _ (AtF.at _ h2)
  simp only [List.all_cons, List.all_nil, Bool.and_true] at this
  exact ⟨this, jV this⟩
 simp only [List.append_nil] at hn ⊢
 simp only [vJ, ng, oJ, rC, Nat.add_zero] at hk ⊢
 obtain ⟨n1, n2, nd⟩ := List.nodup_append.1 hn
 obtain ⟨H1, q1, len1, fr1, m1⟩ := Nb H [v1, v2] _ F1 k h1 n1 (by omega)
 have h2' := AtF.frame (H' := H1) _ (fun q hq => fr1 q fun hm => nd q hm q hq rfl) h2
 obtain ⟨H2, q2, len2, fr2, m2⟩ := Dk H1 [v3] _ F3 (k + dF e.u) h2' n2 (by omega)
 have m1' := AtF.frame (H' := H2) _ (fun q hq => fr2 q fun hm => nd q hq q hm rfl) m1
 simp only [aG, List.headD_cons] at q1 q2
 apply Ret.mark
 rw [ald]
 simp only [Int.natCast_add] at q1 q2
 simp [KU, Tryz.f43, aG, q1, q2, ho1, ho2, ho3, nX (len2.trans len1)]
 refine ⟨by omega, len2.trans len1, fun q hq1 hq2 => (fr2 q hq2).trans (fr1 q hq1), ?_⟩
 have hA : AtF H2 gz [v1, v2, v3, .int .i64 n] (.st [mkV e.u k, mkV (.lst l3) (k + dF e.u), .int n]) (F1 ++ F3) := eQ.2 ⟨_, rfl, aC.2 ⟨[v1, v2], [v3, .int .i64 n], _, [_, .int n], F1, F3, rfl, rfl, rfl, m1', aC.2 ⟨[v3], [.int .i64 n], _, [.int n], F3, [], rfl, rfl, (List.append_nil _).symm, m2, aC.2 ⟨[.int .i64 n], [], _, [], [], [], rfl, rfl, rfl, lQ.2 ⟨⟨n, rfl, rfl, w⟩, rfl⟩, dC.2 ⟨rfl, rfl, rfl⟩⟩⟩⟩⟩
 have hM : mkV (U.st [e.u, .lst l3, .int n]) k = .st [mkV e.u k, mkV (.lst l3) (k + dF e.u), .int n] := by simp [mkV, Jy]
 rw [hM]
 exact hA
theorem xe : uI 44 gz := by
 intro H cs u k h hk
 obtain ⟨us, hu, g0⟩ := bV.1 h
 obtain ⟨us, rfl, rfl⟩ := RJ hu
 obtain ⟨c1, c2, u1, us1, rfl, hu1, h1, g1⟩ := ag.1 g0
 obtain ⟨u1, us, rfl, rfl, rfl⟩ := oQ hu1
 obtain ⟨c3, c4, u2, us2, rfl, hu2, h2, g2⟩ := ag.1 g1
 obtain ⟨u2, us, rfl, rfl, rfl⟩ := oQ hu2
 obtain ⟨c5, c6, u3, us3, rfl, hu3, h3, g3⟩ := ag.1 g2
 obtain ⟨u3, us, rfl, rfl, rfl⟩ := oQ hu3
 obtain ⟨rfl, hu4⟩ := aO.1 g3
 obtain rfl := JC hu4
 obtain ⟨n, rfl, hn, w⟩ := jK.1 h3
 obtain rfl := Ug hn
 obtain ⟨e, he⟩ := uu h1
 have h1' := h1
 rw [he] at h1'
 obtain ⟨v1, v2, rfl, a1, a2⟩ := pM.1 h1'
 obtain ⟨v3, rfl⟩ := mV (At.len _ h2 : _ = 1)
 have ho1 := a1.one
 have ho2 := a2.one
 have ho3 : aP v3 = true ∧ cellsOf v3 = some [v3] := by
  have := At.ones _ h2
  simp only [List.all_cons, List.all_nil, Bool.and_true] at this
  exact ⟨this, jV this⟩
 simp only [vJ, ng, oJ, rC, Nat.add_zero] at hk ⊢
 have q1 := NH H [v1, v2] u1 k h1 (by omega)
 have q2 := yu H [v3] u2 (k + dF u1) h2 (by omega)
 simp only [aG, List.headD_cons, Int.natCast_add] at q1 q2
 have p1 : ¬ ((k : Int) + (dF u1 : Nat) < 0) := by omega
 have p2 : ¬ ((k : Int) + (dF u1 : Nat) + (dF u2 : Nat) < 0) := by omega
 apply Ret.eq
 rw [alx]
 simp [JV, Tryz.f44, aG, q1, q2, p1, p2, ho1, ho2, ho3, Int.add_assoc]
 omega
end Go.Proofs.Try1
end
section
namespace Go.Proofs.Try1
open Go Go.Lite
attribute [-simp] jd mg
attribute [local simp] jM mY jF jI jD iU
attribute [local simp low] jE
theorem qM {H : List Ob} {c0 : List V} {u0 : U} {c1 : List V} {u1 : U} {c2 : List V} {u2 : U}  {uR : U} (h0 : At H dL c0 u0) (h1 : At H (.slice shRdn) c1 u1) (h2 : At H (.slice iJ) c2 u2)
  (hS : wt u0 ≤ 1048576 → wt u1 ≤ 1048576 → wt u2 ≤ 1048576 → ∀ (G : List Ob) (x0 x1 x2 : List V), At G dL x0 u0 → At G (.slice shRdn) x1 u1 → At G (.slice iJ) x2 u2 → ∃ G' y, callW C 50 [aG dL x0, aG (.slice shRdn) x1, aG (.slice iJ) x2] G = some (aG gz y, G') ∧ Le G G' ∧ At G' gz y uR)
  (hI : wt u0 ≤ 1048576 → wt u1 ≤ 1048576 → wt u2 ≤ 1048576 → ∀ (G : List Ob) (x0 x1 x2 : List V), At G dL x0 u0 → At G (.slice shRdn) x1 u1 → At G (.slice iJ) x2 u2 → ∃ G' y, callW C 52 [aG dL x0, aG (.slice shRdn) x1, aG (.slice iJ) x2] G = some (aG gz y, G') ∧ Le G G' ∧ New G.length G'.length G' gz y uR)
  (hR : 1 + dF uR ≤ 50000000) : Ret C 8 [aG dL c0, aG (.slice shRdn) c1, aG (.slice iJ) c2] H fun r _ => r = .bool true := by
 rw [op8]
 obtain ⟨c0_0, c0_1, rfl⟩ := H9 (At.len _ h0 : _ = 2)
 have on0 := dQ h0
 simp only [List.mem_cons, List.not_mem_nil, or_false, forall_eq_or_imp, forall_eq] at on0
 obtain ⟨c1_0, rfl⟩ := mV (At.len _ h1 : _ = 1)
 have on1 := dQ h1
 simp only [List.mem_cons, List.not_mem_nil, or_false, forall_eq_or_imp, forall_eq] at on1
 obtain ⟨c2_0, rfl⟩ := mV (At.len _ h2 : _ = 1)
 have on2 := dQ h2
 simp only [List.mem_cons, List.not_mem_nil, or_false, forall_eq_or_imp, forall_eq] at on2
 simp only [aG, List.headD_cons]
 have b0 := U6 H [c0_0, c0_1] _ (1048576) h0 (by omega)
 simp only [aG, List.headD_cons] at b0
 by_cases g0 : wt u0 ≤ 1048576
 rotate_left
 ·rw [if_neg g0] at b0
  simp at b0
  simp [Di, Tryz.f8, on0, on1, on2, b0]
 rw [if_pos g0] at b0
 have hw0 : wt u0 ≤ 1048576 := by omega
 have p0 : ¬ (((1048576 - wt u0 : Nat) : Int) < 0) := by omega
 obtain ⟨LL0, hLL0⟩ : ∃ n, n = 1048576 - wt u0 := ⟨_, rfl⟩
 rw [← hLL0] at b0 p0
 have q0 : LL0 + wt u0 = 1048576 := by omega
 have b1 := MJ H [c1_0] _ (LL0) h1 (by omega)
 simp only [aG, List.headD_cons] at b1
 by_cases g1 : wt u1 ≤ LL0
 rotate_left
 ·rw [if_neg g1] at b1
  simp at b0 b1
  simp [Di, Tryz.f8, on0, on1, on2, b0, p0, b1]
 rw [if_pos g1] at b1
 have hw1 : wt u1 ≤ 1048576 := by omega
 have p1 : ¬ (((LL0 - wt u1 : Nat) : Int) < 0) := by omega
 obtain ⟨LL1, hLL1⟩ : ∃ n, n = LL0 - wt u1 := ⟨_, rfl⟩
 rw [← hLL1] at b1 p1
 have q1 : LL1 + wt u1 = LL0 := by omega
 have b2 := Vh H [c2_0] _ (LL1) h2 (by omega)
 simp only [aG, List.headD_cons] at b2
 by_cases g2 : wt u2 ≤ LL1
 rotate_left
 ·rw [if_neg g2] at b2
  simp at b0 b1 b2
  simp [Di, Tryz.f8, on0, on1, on2, b0, p0, b1, p1, b2]
 rw [if_pos g2] at b2
 have hw2 : wt u2 ≤ 1048576 := by omega
 have p2 : ¬ (((LL1 - wt u2 : Nat) : Int) < 0) := by omega
 obtain ⟨LL2, hLL2⟩ : ∃ n, n = LL1 - wt u2 := ⟨_, rfl⟩
 rw [← hLL2] at b2 p2
 have q2 : LL2 + wt u2 = LL1 := by omega
 have L0 : Le H H := Le.refl
 obtain ⟨G1, y0, k1, s1, n1⟩ := toN yZ (h0.Le L0) hw0
 have l1 := s1.len
 have L1 := L0.trans s1
 obtain ⟨y0_0, y0_1, rfl⟩ := H9 (At.len _ n1.at : _ = 2)
 have o1 := dQ n1.at
 simp only [List.mem_cons, List.not_mem_nil, or_false, forall_eq_or_imp, forall_eq] at o1
 simp only [aG, List.headD_cons] at k1
 obtain ⟨G2, y1, k2, s2, n2⟩ := toN vF (h1.Le L1) hw1
 have l2 := s2.len
 have L2 := L1.trans s2
 obtain ⟨y1_0, rfl⟩ := mV (At.len _ n2.at : _ = 1)
 have o2 := dQ n2.at
 simp only [List.mem_cons, List.not_mem_nil, or_false, forall_eq_or_imp, forall_eq] at o2
 simp only [aG, List.headD_cons] at k2
 obtain ⟨G3, y2, k3, s3, n3⟩ := toN yQ (h2.Le L2) hw2
 have l3 := s3.len
 have L3 := L2.trans s3
 obtain ⟨y2_0, rfl⟩ := mV (At.len _ n3.at : _ = 1)
 have o3 := dQ n3.at
 simp only [List.mem_cons, List.not_mem_nil, or_false, forall_eq_or_imp, forall_eq] at o3
 simp only [aG, List.headD_cons] at k3
 obtain ⟨G4, w, k4, s4, n4⟩ := hS hw0 hw1 hw2 _ [y0_0, y0_1] [y1_0] [y2_0] (n1.at.Le (Le.trans s2 s3)) (n2.at.Le s3) (n3.at.Le Le.refl)
 have l4 := s4.len
 have L4 := L3.trans s4
 obtain ⟨w_0, w_1, w_2, w_3, rfl⟩ := list4 (At.len _ n4 : _ = 4)
 have o4 := dQ n4
 simp only [List.mem_cons, List.not_mem_nil, or_false, forall_eq_or_imp, forall_eq] at o4
 simp only [aG, List.headD_cons] at k4
 obtain ⟨G5, z0, k5, s5, n5⟩ := toN yZ (h0.Le L4) hw0
 have l5 := s5.len
 have L5 := L4.trans s5
 obtain ⟨z0_0, z0_1, rfl⟩ := H9 (At.len _ n5.at : _ = 2)
 have o5 := dQ n5.at
 simp only [List.mem_cons, List.not_mem_nil, or_false, forall_eq_or_imp, forall_eq] at o5
 simp only [aG, List.headD_cons] at k5
 obtain ⟨G6, z1, k6, s6, n6⟩ := toN vF (h1.Le L5) hw1
 have l6 := s6.len
 have L6 := L5.trans s6
 obtain ⟨z1_0, rfl⟩ := mV (At.len _ n6.at : _ = 1)
 have o6 := dQ n6.at
 simp only [List.mem_cons, List.not_mem_nil, or_false, forall_eq_or_imp, forall_eq] at o6
 simp only [aG, List.headD_cons] at k6
 obtain ⟨G7, z2, k7, s7, n7⟩ := toN yQ (h2.Le L6) hw2
 have l7 := s7.len
 have L7 := L6.trans s7
 obtain ⟨z2_0, rfl⟩ := mV (At.len _ n7.at : _ = 1)
 have o7 := dQ n7.at
 simp only [List.mem_cons, List.not_mem_nil, or_false, forall_eq_or_imp, forall_eq] at o7
 simp only [aG, List.headD_cons] at k7
 obtain ⟨G8, g, k8, s8, n8⟩ := hI hw0 hw1 hw2 _ [z0_0, z0_1] [z1_0] [z2_0] (n5.at.Le (Le.trans s6 s7)) (n6.at.Le s7) (n7.at.Le Le.refl)
 have l8 := s8.len
 have L8 := L7.trans s8
 obtain ⟨g_0, g_1, g_2, g_3, rfl⟩ := list4 (At.len _ n8.at : _ = 4)
 have o8 := dQ n8.at
 simp only [List.mem_cons, List.not_mem_nil, or_false, forall_eq_or_imp, forall_eq] at o8
 simp only [aG, List.headD_cons] at k8
 have k9 := eqN uJ n8.at (n4.Le (Le.trans (Le.trans (Le.trans s5 s6) s7) s8))
 simp only [aG, List.headD_cons] at k9
 obtain ⟨G9, v0, k10, s9, n9⟩ := toN yZ (h0.Le L8) hw0
 have l9 := s9.len
 have L9 := L8.trans s9
 obtain ⟨v0_0, v0_1, rfl⟩ := H9 (At.len _ n9.at : _ = 2)
 have o9 := dQ n9.at
 simp only [List.mem_cons, List.not_mem_nil, or_false, forall_eq_or_imp, forall_eq] at o9
 simp only [aG, List.headD_cons] at k10
 have k11 := eqN Nk (n5.at.Le (Le.trans (Le.trans (Le.trans s6 s7) s8) s9)) n9.at
 simp only [aG, List.headD_cons] at k11
 obtain ⟨G10, v1, k12, s10, n10⟩ := toN vF (h1.Le L9) hw1
 have l10 := s10.len
 have L10 := L9.trans s10
 obtain ⟨v1_0, rfl⟩ := mV (At.len _ n10.at : _ = 1)
 have o10 := dQ n10.at
 simp only [List.mem_cons, List.not_mem_nil, or_false, forall_eq_or_imp, forall_eq] at o10
 simp only [aG, List.headD_cons] at k12
 have k13 := eqN Nw (n6.at.Le (Le.trans (Le.trans (Le.trans s7 s8) s9) s10)) n10.at
 simp only [aG, List.headD_cons] at k13
 obtain ⟨G11, v2, k14, s11, n11⟩ := toN yQ (h2.Le L10) hw2
 have l11 := s11.len
 have L11 := L10.trans s11
 obtain ⟨v2_0, rfl⟩ := mV (At.len _ n11.at : _ = 1)
 have o11 := dQ n11.at
 simp only [List.mem_cons, List.not_mem_nil, or_false, forall_eq_or_imp, forall_eq] at o11
 simp only [aG, List.headD_cons] at k14
 have k15 := eqN Vg (n7.at.Le (Le.trans (Le.trans (Le.trans s8 s9) s10) s11)) n11.at
 simp only [aG, List.headD_cons] at k15
 have hsum : wt u0 + wt u1 + wt u2 ≤ 1048576 := by omega
 have cb0 := um h0 40 (by decide)
 have cb1 := um h1 40 (by decide)
 have cb2 := um h2 40 (by decide)
 have m5 := n5.Le (Le.trans (Le.trans (Le.trans (Le.trans (Le.trans s6 s7) s8) s9) s10) s11)
 have m6 := n6.Le (Le.trans (Le.trans (Le.trans (Le.trans s7 s8) s9) s10) s11)
 have m7 := n7.Le (Le.trans (Le.trans (Le.trans s8 s9) s10) s11)
 have mR := n8.Le (Le.trans (Le.trans s9 s10) s11)
 obtain ⟨M0, k16, ml0, mf0, mn0⟩ := mkN (k := 1) Nb m5 (by omega)
 simp only [aG, List.headD_cons] at k16
 have m6 := New.frame (G' := M0) m6 (fun q h1 h2 => mf0 q (by omega))
 have m7 := New.frame (G' := M0) m7 (fun q h1 h2 => mf0 q (by omega))
 have mR := New.frame (G' := M0) mR (fun q h1 h2 => mf0 q (by omega))
 obtain ⟨K0, hK0⟩ : ∃ n, n = 1 + dF u0 := ⟨_, rfl⟩
 rw [← hK0] at k16
 obtain ⟨M1, k17, ml1, mf1, mn1⟩ := mkN (k := K0) Nh m6 (by omega)
 simp only [aG, List.headD_cons] at k17
 have m7 := New.frame (G' := M1) m7 (fun q h1 h2 => mf1 q (by omega))
 have mR := New.frame (G' := M1) mR (fun q h1 h2 => mf1 q (by omega))
 obtain ⟨K1, hK1⟩ : ∃ n, n = K0 + dF u1 := ⟨_, rfl⟩
 rw [← hK1] at k17
 obtain ⟨M2, k18, ml2, mf2, mn2⟩ := mkN (k := K1) U3 m7 (by omega)
 simp only [aG, List.headD_cons] at k18
 have mR := New.frame (G' := M2) mR (fun q h1 h2 => mf2 q (by omega))
 obtain ⟨K2, hK2⟩ : ∃ n, n = K1 + dF u2 := ⟨_, rfl⟩
 rw [← hK2] at k18
 have hKb : K2 ≤ 50000000 := by omega
 have pK : ¬ ((K2 : Int) < 0) := by omega
 have upS : Up G4 M2 := fun q o hq => by
  have hql := (List.getElem?_eq_some_iff.1 hq).1
  rw [mf2 q (.inl (by omega)), mf1 q (.inl (by omega)), mf0 q (.inl (by omega))]
  exact ((Le.trans (Le.trans (Le.trans (Le.trans (Le.trans (Le.trans s5 s6) s7) s8) s9) s10) s11) : Le _ _).up q o hq
 have k19 := eqN uJ mR.at (n4.Up upS)
 simp only [aG, List.headD_cons] at k19
 obtain ⟨Q, k20, ql, qf, qn⟩ := mkN (k := 1) Kv mR hR
 simp only [aG, List.headD_cons] at k20
 have upQ : Up G4 Q := fun q o hq => by
  have hql := (List.getElem?_eq_some_iff.1 hq).1
  rw [qf q (.inl (by omega))]
  exact upS q o hq
 have upH : Up H Q := L4.up.trans upQ
 have k21 := xe Q [g_0, g_1, g_2, g_3] _ 1 qn.at hR
 simp only [aG, List.headD_cons] at k21
 have R0 : Le Q Q := Le.refl
 have L12 := R0
 obtain ⟨G13, zz0, k22, s13, n13⟩ := toN yZ ((h0.Up upH).Le L12) hw0
 have l13 := s13.len
 have L13 := L12.trans s13
 obtain ⟨zz0_0, zz0_1, rfl⟩ := H9 (At.len _ n13.at : _ = 2)
 have o13 := dQ n13.at
 simp only [List.mem_cons, List.not_mem_nil, or_false, forall_eq_or_imp, forall_eq] at o13
 simp only [aG, List.headD_cons] at k22
 obtain ⟨G14, zz1, k23, s14, n14⟩ := toN vF ((h1.Up upH).Le L13) hw1
 have l14 := s14.len
 have L14 := L13.trans s14
 obtain ⟨zz1_0, rfl⟩ := mV (At.len _ n14.at : _ = 1)
 have o14 := dQ n14.at
 simp only [List.mem_cons, List.not_mem_nil, or_false, forall_eq_or_imp, forall_eq] at o14
 simp only [aG, List.headD_cons] at k23
 obtain ⟨G15, zz2, k24, s15, n15⟩ := toN yQ ((h2.Up upH).Le L14) hw2
 have l15 := s15.len
 have L15 := L14.trans s15
 obtain ⟨zz2_0, rfl⟩ := mV (At.len _ n15.at : _ = 1)
 have o15 := dQ n15.at
 simp only [List.mem_cons, List.not_mem_nil, or_false, forall_eq_or_imp, forall_eq] at o15
 simp only [aG, List.headD_cons] at k24
 obtain ⟨G16, gg, k25, s16, n16⟩ := hI hw0 hw1 hw2 _ [zz0_0, zz0_1] [zz1_0] [zz2_0] (n13.at.Le (Le.trans s14 s15)) (n14.at.Le s15) (n15.at.Le Le.refl)
 have l16 := s16.len
 have L16 := L15.trans s16
 obtain ⟨gg_0, gg_1, gg_2, gg_3, rfl⟩ := list4 (At.len _ n16.at : _ = 4)
 have o16 := dQ n16.at
 simp only [List.mem_cons, List.not_mem_nil, or_false, forall_eq_or_imp, forall_eq] at o16
 simp only [aG, List.headD_cons] at k25
 have k26 := eqN uJ n16.at ((n4.Up upQ).Le L16)
 simp only [aG, List.headD_cons] at k26
 have k27 := xe G16 [g_0, g_1, g_2, g_3] _ 1 (qn.at.Le L16) hR
 simp only [aG, List.headD_cons] at k27
 obtain ⟨KR, hKR⟩ : ∃ n, n = 1 + dF uR := ⟨_, rfl⟩
 rw [← hKR] at k20
 rw [← hKR] at k21
 rw [← hKR] at k27
 have pR : ¬ ((KR : Int) < 0) := by omega
 clear upS upQ upH
 simp at b0 k16 k20 k21 k27
 simp (maxSteps := 2000000) [Di, Tryz.f8, on0, on1, on2, b0, p0, b1, p1, b2, p2, k1, o1, k2, o2, k3, o3, k4, o4, k5, o5, k6, o6, k7, o7, k8, o8, k9, k10, o9, k11, k12, o10, k13, k14, o11, k15, k16, k17, k18, pK, k19, k20, k21, k22, o13, k23, o14, k24, o15, k25, o16, k26, k27, pR, af, ai, List.lookup]
end Go.Proofs.Try1
end
section
namespace Go.Proofs.Try1
open Go Go.Lite
theorem DnOk.drop {l : List PRdn} (hd : DnOk l) (k : Nat) : DnOk (l.drop k) :=
 ⟨fun j x hx => hd.1 (k + j) x (by rw [List.getElem?_drop] at hx; exact hx), by have := hd.2; simp; omega⟩
end Go.Proofs.Try1
end
section
namespace Go.Proofs.Try1
open Go Go.Lite
attribute [-simp] jd mg
attribute [local simp] jM mY jF jI jD iU
attribute [local simp low] jE
theorem amD {n a b : Int} {H : List Ob} : callW C 92 [.int .i64 n, .int .i64 a, .int .i64 b] H = some (.bool (dec (a ≤ n ∧ n ≤ b)), H) := by
 apply Ret.dec
 rw [alZ]
 by_cases h1 : a ≤ n
 ·by_cases h2 : n ≤ b
  ·simp [Af, Tryz.f92, h1, h2]
  ·simp [Af, Tryz.f92, h1, h2]
 ·simp [Af, Tryz.f92, h1]




def Zg (n : Int) : Int := if n = 0 then 1 else if n = 1 then 0 else 2
end Go.Proofs.Try1
end
section
namespace Go.Lite
open Go
section
variable {α : Type} {G : List Ob} {sh : Sh} {f : α → U} {v : V} {l : List α} {F : List Nat}
theorem zY {D : List V} {s i j : Nat} (h : j * s + s ≤ i * s) : ((D.take (i * s)).drop (j * s)).take s = (D.drop (j * s)).take s := by
 apply List.ext_getElem?
 intro q
 by_cases hq : q < s
 ·rw [List.getElem?_take_of_lt hq, List.getElem?_take_of_lt hq, List.getElem?_drop, List.getElem?_take_of_lt (by omega), List.getElem?_drop]
 ·rw [List.getElem?_eq_none (by simp; omega), List.getElem?_eq_none (by simp; omega)]
theorem OU {D c : List V} {s n i : Nat} (hD : D.length = n * s) (hc : c.length = s) (hi : i ≤ n) {j : Nat} :
  (j < i → ((D.take (i * s) ++ c ++ D.drop (i * s)).drop (j * s)).take s = (D.drop (j * s)).take s) ∧ (j = i → ((D.take (i * s) ++ c ++ D.drop (i * s)).drop (j * s)).take s = c) ∧
  (∀ t, j = i + 1 + t → ((D.take (i * s) ++ c ++ D.drop (i * s)).drop (j * s)).take s = (D.drop ((i + t) * s)).take s) := by
 have hin : i * s ≤ n * s := Nat.mul_le_mul_right _ hi
 have hA : (D.take (i * s)).length = i * s := by simp; omega
 refine ⟨fun h => ?_, fun h => ?_, fun t h => ?_⟩
 ·have hm := dY (s := s) h
  rw [List.append_assoc, List.drop_append_of_le_length (by omega), List.take_append_of_le_length (by simp; omega)]
  exact zY hm
 ·subst h
  rw [List.append_assoc, List.drop_append_of_le_length (by omega), List.drop_of_length_le (by omega), List.nil_append, List.take_append_of_le_length (by omega), List.take_of_length_le (by omega)]
 ·subst h
  have e1 : (i + 1 + t) * s = (D.take (i * s) ++ c).length + t * s := by rw [List.length_append, hA, hc]; simp [Nat.add_mul]
  rw [e1, ← List.drop_drop, List.drop_left, List.drop_drop]
  congr 2
  rw [Nat.add_mul]
theorem take_get? {α : Type} {l : List α} {i j : Nat} {x : α} : (l.take i ++ x :: l.drop i)[j]? = if j < i ∧ j < l.length then l[j]? else if j = min i l.length then some x else l[j - 1]? := by
 by_cases h1 : j < (l.take i).length
 ·rw [List.getElem?_append_left h1]
  have h2 : j < i ∧ j < l.length := by simp at h1; omega
  rw [if_pos h2, List.getElem?_take_of_lt h2.1]
 ·rw [List.getElem?_append_right (by omega)]
  have h2 : ¬ (j < i ∧ j < l.length) := by simp at h1; omega
  rw [if_neg h2]
  have hl : (l.take i).length = min i l.length := List.length_take
  by_cases h3 : j = min i l.length
  ·rw [if_pos h3, hl, h3, Nat.sub_self]; rfl
  ·rw [if_neg h3, hl]
   obtain ⟨k, hk⟩ : ∃ k, j - min i l.length = k + 1 := ⟨j - min i l.length - 1, by omega⟩
   rw [hk, List.getElem?_cons_succ, List.getElem?_drop]
   by_cases h4 : i ≤ l.length
   ·congr 1; omega
   ·rw [List.getElem?_eq_none (by omega), List.getElem?_eq_none (by omega)]
theorem yw {Fs : List (List Nat)} {K : List Nat} {i : Nat} : ∀ q, q ∈ (Fs.take i ++ K :: Fs.drop i).flatten ↔ q ∈ Fs.flatten ∨ q ∈ K := by
 intro q
 have h : Fs.flatten = (Fs.take i).flatten ++ (Fs.drop i).flatten := by rw [← List.flatten_append, List.take_append_drop]
 rw [h, List.flatten_append, List.flatten_cons]
 simp only [List.mem_append]
 constructor
 ·rintro (h | h | h) <;> simp [h]
 ·rintro ((h | h) | h) <;> simp [h]
theorem vw {Fs : List (List Nat)} {K : List Nat} {i : Nat} (h1 : Fs.flatten.Nodup) (h2 : K.Nodup) (h3 : ∀ q ∈ K, q ∉ Fs.flatten) : (Fs.take i ++ K :: Fs.drop i).flatten.Nodup := by
 have h : Fs.flatten = (Fs.take i).flatten ++ (Fs.drop i).flatten := by rw [← List.flatten_append, List.take_append_drop]
 rw [h] at h1 h3
 rw [List.flatten_append, List.flatten_cons]
 obtain ⟨a1, a2, a3⟩ := List.nodup_append.1 h1
 refine List.nodup_append.2 ⟨a1, List.nodup_append.2 ⟨h2, a2, fun a ha b hb e => ?_⟩, fun a ha b hb e => ?_⟩
 ·subst e; exact h3 a ha (List.mem_append_right _ hb)
 ·subst e
  rcases List.mem_append.1 hb with hb | hb
  ·exact h3 a hb (List.mem_append_left _ ha)
  ·exact a3 a ha a hb rfl
theorem U7 (h : AtF G (.slice sh) [v] (.lst (l.map f)) F) (hn : F.Nodup) {x : α} {c : List V} {K : List Nat} (hx : AtF G sh c (f x) K) (hxn : K.Nodup) (hd : ∀ q ∈ K, q ∉ F) {i : Nat} (hi : i ≤ l.length) (hl : l.length ≤ 1000000) (hs : sh.size ≠ 0) :
  ∃ v' G' F', iQ sh.size [v, .int .i64 i, .slc (some (G.length, 0)) 1] (G ++ [.mk true sh.size c]) = some (v', G') ∧ AtF G' (.slice sh) [v'] (.lst ((l.take i ++ x :: l.drop i).map f)) F' ∧ F'.Nodup ∧
   (∀ q ∈ F', q ∈ F ∨ q ∈ K ∨ q = G.length + 1) ∧ (∀ q, q ∉ F → q < G.length → G'[q]? = G[q]?) ∧ G'.length = G.length + 2 ∧ v' = .slc (some (G.length + 1, 0)) (l.length + 1) := by
 obtain ⟨w, us, hw, hus, hlen, h⟩ := aF.1 h
 cases hw
 cases hus
 have hcl : c.length = sh.size := At.len _ (AtF.at _ hx)
 have hco : c.all aP = true := At.ones _ (AtF.at _ hx)
 have hget : (G ++ [Ob.mk true sh.size c])[G.length]? = some (.mk true sh.size c) := get_last
 have hK := AtF.mem _ hx
 have hcond : sh.size = sh.size ∧ c.length = sh.size ∧ (0 : Int) ≤ (i : Int) ∧ (i : Int) ≤ ((l.length : Nat) : Int) ∧ l.length ≤ 1000000 ∧ c.all aP = true := ⟨rfl, hcl, by omega, by omega, hl, hco⟩
 rcases h with ⟨rfl, hl0, rfl⟩ | ⟨id, off, cells, Fs, rfl, h2, h3, h4, rfl, h6⟩
 ·have hl0 : l = [] := by simpa using hl0
  subst hl0
  have hi0 : i = 0 := by simpa using hi
  subst hi0
  refine ⟨.slc (some (G.length + 1, 0)) 1, G ++ [.mk true sh.size c] ++ [.mk true sh.size c], (G.length + 1) :: K, ?_, ?_, ?_, fun q hq => ?_, fun q _ hq => ?_, by simp, by simp⟩
  ·simp [iQ, hcl, hco]
  ·refine aF.2 ⟨_, [f x], rfl, rfl, by simp [maxLen], .inr ⟨G.length + 1, 0, c, [K], rfl, by simp, by simp [hcl], rfl, by simp, fun j y Fj hy hFj => ?_⟩⟩
   have hj : j = 0 := by have := (List.getElem?_eq_some_iff.1 hy).1; simpa using this
   subst hj
   cases hy
   cases hFj
   rw [Nat.zero_mul, Nat.add_zero, List.drop_zero, List.take_of_length_le (by omega)]
   exact hx.ext.ext
  ·exact List.nodup_cons.2 ⟨fun hm => by have := hK _ hm; omega, hxn⟩
  ·rcases List.mem_cons.1 hq with rfl | hq
   ·exact .inr (.inr rfl)
   ·exact .inr (.inl hq)
  ·rw [List.append_assoc, List.getElem?_append_left hq]
 ·rw [List.length_map] at h3 h4 hlen
  have hid : id < G.length := (List.getElem?_eq_some_iff.1 h2).1
  have hidx : id ≠ G.length := by omega
  obtain ⟨D, hD⟩ : ∃ D, D = (cells.drop off).take (l.length * sh.size) := ⟨_, rfl⟩
  have hDl : D.length = l.length * sh.size := by rw [hD]; simp; omega
  have hg2 : (G ++ [Ob.mk true sh.size c])[id]? = some (.mk true sh.size cells) := aS _ _ h2
  have him : i * sh.size ≤ l.length * sh.size := Nat.mul_le_mul_right _ hi
  have hcells : ((cells.drop off).take (i * sh.size)) ++ c ++ (((cells.drop off).take (l.length * sh.size)).drop (i * sh.size)) = D.take (i * sh.size) ++ c ++ D.drop (i * sh.size) := by
   rw [hD, List.take_take, Nat.min_eq_left him]
  obtain ⟨N, hN⟩ : ∃ N, N = D.take (i * sh.size) ++ c ++ D.drop (i * sh.size) := ⟨_, rfl⟩
  have hNl : N.length = (l.length + 1) * sh.size := by
   have e1 : (D.take (i * sh.size)).length = i * sh.size := by rw [List.length_take, hDl]; omega
   rw [hN, List.length_append, List.length_append, e1, hcl, List.length_drop, hDl, Nat.add_mul]; omega
  have hlen2 : ((G ++ [Ob.mk true sh.size c]).set id .dead).length = G.length + 1 := by simp
  have hfr : ∀ q, q ≠ id → q < G.length → ((G ++ [Ob.mk true sh.size c]).set id .dead ++ [Ob.mk true sh.size N])[q]? = G[q]? := fun q hq hql => by
   rw [List.getElem?_append_left (by omega), List.getElem?_set_ne (fun e => hq e.symm), List.getElem?_append_left hql]
  obtain ⟨hnid, hnf⟩ := List.nodup_cons.1 hn
  have hFlt : ∀ j y Fj, (l.map f)[j]? = some y → Fs[j]? = some Fj → ∀ q ∈ Fj, q < G.length ∧ q ≠ id := fun j y Fj hy hFj q hq => ⟨AtF.mem _ (h6 j y Fj hy hFj) q hq, fun e => hnid (e ▸ List.mem_flatten.2 ⟨Fj, List.mem_of_getElem? hFj, hq⟩)⟩
  have hlen3 : (l.take i ++ x :: l.drop i).length = l.length + 1 := by simp; omega
  have hKid : id ∉ K := fun hm => hd id hm List.mem_cons_self
  refine ⟨.slc (some (G.length + 1, 0)) (l.length + 1), (G ++ [Ob.mk true sh.size c]).set id .dead ++ [Ob.mk true sh.size N], (G.length + 1) :: (Fs.take i ++ K :: Fs.drop i).flatten, ?_, ?_, ?_, fun q hq => ?_, fun q hqF hq => hfr q (fun e => hqF (by rw [e]; exact List.mem_cons_self)) hq, by simp, by simp⟩
  ·have hone : ((cells.drop off).take (l.length * sh.size)).all aP = true := by
    rw [← hD]
    refine rY hDl fun j hj => ?_
    obtain ⟨Fj, hFj⟩ : ∃ Fj, Fs[j]? = some Fj := ⟨_, List.getElem?_eq_getElem (by omega)⟩
    have h7 := h6 j (f l[j]) Fj (by rw [List.getElem?_map, List.getElem?_eq_getElem hj]; rfl) hFj
    rw [hD, kT h3 hj]
    exact At.ones _ (AtF.at _ h7)
   simp only [iQ, hget, List.length_map, hg2]
   rw [if_pos ⟨trivial, hcond.2⟩, if_pos ⟨trivial, hidx, h3, hone⟩, Int.toNat_natCast, hcells, ← hN]
   simp
  ·refine aF.2 ⟨.slc (some (G.length + 1, 0)) (l.length + 1), (l.take i ++ x :: l.drop i).map f, rfl, rfl, by rw [List.length_map, hlen3]; unfold maxLen; omega, .inr ⟨G.length + 1, 0, N, Fs.take i ++ K :: Fs.drop i, by rw [List.length_map, hlen3], by rw [← hlen2, get_last], by rw [List.length_map, hlen3, hNl]; omega, by rw [List.length_map, hlen3]; simp; omega, rfl, fun j y Fj hy hFj => ?_⟩⟩
   rw [List.getElem?_map, take_get?] at hy
   rw [take_get?] at hFj
   obtain ⟨c1, c2, c3⟩ := OU (j := j) hDl hcl hi
   rw [← hN] at c1 c2 c3
   rw [Nat.zero_add]
   have hmin : min i l.length = i := by omega
   have hmin' : min i Fs.length = i := by omega
   by_cases j1 : j < i
   ·rw [if_pos ⟨j1, by omega⟩] at hy hFj
    rw [c1 j1, hD, kT h3 (by omega)]
    have h7 := h6 j y Fj (by rw [List.getElem?_map]; exact hy) hFj
    exact AtF.frame _ (fun q hq => hfr q (hFlt j y Fj (by rw [List.getElem?_map]; exact hy) hFj q hq).2 (hFlt j y Fj (by rw [List.getElem?_map]; exact hy) hFj q hq).1) h7
   ·rw [if_neg (by omega)] at hy hFj
    by_cases j2 : j = i
    ·rw [hmin, if_pos j2] at hy
     rw [hmin', if_pos j2] at hFj
     cases hy
     cases hFj
     rw [c2 j2]
     exact AtF.frame _ (fun q hq => hfr q (fun e => hKid (e ▸ hq)) (hK q hq)) hx
    ·rw [hmin, if_neg j2] at hy
     rw [hmin', if_neg j2] at hFj
     obtain ⟨t, ht⟩ : ∃ t, j = i + 1 + t := ⟨j - i - 1, by omega⟩
     have hj1 : j - 1 = i + t := by omega
     rw [hj1] at hy hFj
     have hlt : i + t < l.length := by
      cases hh : l[i + t]? with
      | none => rw [hh] at hy; cases hy
      | some z => exact (List.getElem?_eq_some_iff.1 hh).1
     rw [c3 t ht, hD, kT h3 hlt]
     have h7 := h6 (i + t) y Fj (by rw [List.getElem?_map]; exact hy) hFj
     exact AtF.frame _ (fun q hq => hfr q (hFlt _ y Fj (by rw [List.getElem?_map]; exact hy) hFj q hq).2 (hFlt _ y Fj (by rw [List.getElem?_map]; exact hy) hFj q hq).1) h7
  ·refine List.nodup_cons.2 ⟨fun hm => ?_, vw hnf hxn fun q hq hm => hd q hq (List.mem_cons_of_mem _ hm)⟩
   rcases (yw _).1 hm with hm | hm
   ·obtain ⟨Fj, hF1, hF2⟩ := List.mem_flatten.1 hm
    obtain ⟨j, hj, rfl⟩ := List.getElem_of_mem hF1
    have := hFlt j ((l.map f)[j]'(by simp; omega)) Fs[j] (List.getElem?_eq_getElem _) (List.getElem?_eq_getElem _) _ hF2
    omega
   ·have := hK _ hm; omega
  ·rcases List.mem_cons.1 hq with rfl | hq
   ·exact .inr (.inr rfl)
   ·rcases (yw _).1 hq with hq | hq
    ·exact .inl (List.mem_cons_of_mem _ hq)
    ·exact .inr (.inl hq)
end
theorem Io {cells xs : List V} {o t s : Nat} (h : o + xs.length ≤ cells.length) (ht : t + s ≤ xs.length) : ((setRange cells o xs).drop (o + t)).take s = (xs.drop t).take s := by
 unfold setRange
 have h1 : (cells.take o).length = o := by simp; omega
 rw [List.append_assoc, ← List.drop_drop, List.drop_left' h1, List.drop_append_of_le_length (by omega), List.take_append_of_le_length (by simp; omega)]
theorem DL {cells : List V} {o : Nat} : setRange cells o [] = cells := by simp [setRange]
section
variable {α : Type} {G : List Ob} {sh : Sh} {f : α → U} {v : V} {l : List α} {F : List Nat}
theorem Uf (h : AtF G (.slice sh) [v] (.lst (l.map f)) F) (hn : F.Nodup) {i : Nat} (hi : i < l.length) (z : List V) (hz : z.length = sh.size) :
  ∃ id off cells xs F', v = .slc (some (id, off)) l.length ∧ G[id]? = some (.mk true sh.size cells) ∧ off + l.length * sh.size ≤ cells.length ∧ xs = (cells.drop (off + (i + 1) * sh.size)).take ((l.length - (i + 1)) * sh.size) ∧ xs.length = (l.length - (i + 1)) * sh.size ∧ xs.all aP = true ∧ id ∈ F ∧
   AtF (G.set id (.mk true sh.size (setRange (setRange cells (off + i * sh.size) xs) (off + (l.length - 1) * sh.size) z))) (.slice sh) [.slc (some (id, off)) (l.length - 1)] (.lst ((l.take i ++ l.drop (i + 1)).map f)) F' ∧ F'.Nodup ∧ ∀ q ∈ F', q ∈ F := by
 have h0 := h
 obtain ⟨w, us, hw, hus, hlen, h⟩ := aF.1 h
 cases hw
 cases hus
 rcases h with ⟨rfl, hl0, rfl⟩ | ⟨id, off, cells, Fs, rfl, h2, h3, h4, rfl, h6⟩
 ·have hl0 : l = [] := by simpa using hl0
  subst hl0
  simp at hi
 rw [List.length_map] at h3 h4 hlen ⊢
 have hid : id < G.length := (List.getElem?_eq_some_iff.1 h2).1
 have hsl : ASl G sh f (.slc (some (id, off)) l.length) l := by have := AtF.at _ h0; rwa [List.length_map] at this
 obtain ⟨s, hs⟩ : ∃ s, s = sh.size := ⟨_, rfl⟩
 rw [← hs] at h2 h3 h6 hz ⊢
 obtain ⟨m, hm⟩ : ∃ m, l.length = i + 1 + m := ⟨l.length - (i + 1), by omega⟩
 have e1 : l.length - (i + 1) = m := by omega
 have e2 : l.length - 1 = i + m := by omega
 rw [e1, e2]
 have f1 : l.length * s = i * s + s + m * s := by rw [hm, Nat.add_mul, Nat.add_mul, Nat.one_mul]
 have f2 : (i + 1) * s = i * s + s := by rw [Nat.add_mul, Nat.one_mul]
 have f3 : (i + m) * s = i * s + m * s := Nat.add_mul _ _ _
 obtain ⟨xs, hxs⟩ : ∃ xs, xs = (cells.drop (off + (i + 1) * s)).take (m * s) := ⟨_, rfl⟩
 have hxl : xs.length = m * s := by rw [hxs]; simp; omega
 have hch : ∀ j, j < l.length → ((cells.drop (off + j * s)).take s).all aP = true := fun j hj => by
  have := h6 j (f l[j]) (Fs[j]'(by omega)) (by rw [List.getElem?_map, List.getElem?_eq_getElem hj]; rfl) (List.getElem?_eq_getElem _)
  exact At.ones _ (AtF.at _ this)
 have hxo : xs.all aP = true := rY (n := m) (s := s) hxl fun j hj => by
  rw [hxs, kT (by omega) hj, Nat.add_assoc, ← Nat.add_mul]
  exact hch _ (by omega)
 obtain ⟨hnid, hnf⟩ := List.nodup_cons.1 hn
 obtain ⟨N, hN⟩ : ∃ N, N = setRange (setRange cells (off + i * s) xs) (off + (i + m) * s) z := ⟨_, rfl⟩
 have hl1 : (setRange cells (off + i * s) xs).length = cells.length := iq (by omega)
 have hNl : N.length = cells.length := by rw [hN, iq (by rw [hl1, hz]; omega), hl1]
 have hfr : ∀ q, q ≠ id → (G.set id (.mk true s N))[q]? = G[q]? := fun q hq => List.getElem?_set_ne fun e => hq e.symm
 have hdec : Fs.flatten = (Fs.take i).flatten ++ (Fs.drop i).flatten := by rw [← List.flatten_append, List.take_append_drop]
 have hsub : List.Sublist (Fs.take i ++ Fs.drop (i + 1)).flatten Fs.flatten := by
  rw [hdec, List.flatten_append]
  refine List.Sublist.append (List.Sublist.refl _) ?_
  have hd : Fs.drop i = Fs[i]'(by omega) :: Fs.drop (i + 1) := List.drop_eq_getElem_cons (by omega)
  rw [hd, List.flatten_cons]
  exact List.sublist_append_right _ _
 have hlen3 : (l.take i ++ l.drop (i + 1)).length = i + m := by simp; omega
 refine ⟨id, off, cells, xs, id :: (Fs.take i ++ Fs.drop (i + 1)).flatten, rfl, h2, h3, hxs, hxl, hxo, List.mem_cons_self, ?_, List.nodup_cons.2 ⟨fun hm => hnid (hsub.subset hm), hnf.sublist hsub⟩, fun q hq => ?_⟩
 ·rw [← hN]
  refine aF.2 ⟨_, _, rfl, rfl, by rw [List.length_map, hlen3]; omega, .inr ⟨id, off, N, Fs.take i ++ Fs.drop (i + 1), by rw [List.length_map, hlen3], by rw [List.getElem?_set_self hid, hs], by rw [List.length_map, hlen3, hNl, ← hs]; omega, by rw [List.length_map, hlen3]; simp; omega, rfl, fun j y Fj hy hFj => ?_⟩⟩
  rw [← hs]
  rw [List.getElem?_map] at hy
  have hj : j < i + m := by
   cases hh : (l.take i ++ l.drop (i + 1))[j]? with
   | none => rw [hh] at hy; cases hy
   | some z => have := (List.getElem?_eq_some_iff.1 hh).1; omega
  have hjs : j * s + s ≤ (i + m) * s := dY hj
  have hz2 : ((N.drop (off + j * s)).take s) = ((setRange cells (off + i * s) xs).drop (off + j * s)).take s := by
   rw [hN]
   exact iW (by rw [hl1, hz]; omega) (.inl (by omega))
  rw [hz2]
  by_cases j1 : j < i
  ·have hjs' : j * s + s ≤ i * s := dY j1
   rw [iW (by omega) (.inl (by omega))]
   rw [List.getElem?_append_left (by simp; omega), List.getElem?_take_of_lt j1] at hy hFj
   have h7 := h6 j y Fj (by rw [List.getElem?_map]; exact hy) hFj
   exact AtF.frame _ (fun q hq => hfr q fun e => hnid (e ▸ List.mem_flatten.2 ⟨Fj, List.mem_of_getElem? hFj, hq⟩)) h7
  ·obtain ⟨t, ht⟩ : ∃ t, j = i + t := ⟨j - i, by omega⟩
   subst ht
   have htm : t < m := by omega
   have hts : t * s + s ≤ m * s := dY htm
   have e5 : off + (i + t) * s = off + i * s + t * s := by rw [Nat.add_mul]; omega
   rw [e5, Io (by omega) (by omega), hxs, kT (by omega) htm]
   have e6 : off + (i + 1) * s + t * s = off + (i + 1 + t) * s := by rw [Nat.add_mul (i + 1) t]; omega
   rw [e6]
   rw [List.getElem?_append_right (by rw [List.length_take]; omega), List.getElem?_drop] at hy
   rw [List.getElem?_append_right (by rw [List.length_take]; omega), List.getElem?_drop] at hFj
   have e7 : (l.take i).length = i := by simp; omega
   have e8 : (Fs.take i).length = i := by simp; omega
   rw [e7] at hy
   rw [e8] at hFj
   rw [show i + 1 + (i + t - i) = i + 1 + t by omega] at hy hFj
   have h7 := h6 (i + 1 + t) y Fj (by rw [List.getElem?_map]; exact hy) hFj
   exact AtF.frame _ (fun q hq => hfr q fun e => hnid (e ▸ List.mem_flatten.2 ⟨Fj, List.mem_of_getElem? hFj, hq⟩)) h7
 ·rcases List.mem_cons.1 hq with rfl | hq
  ·exact List.mem_cons_self
  ·exact List.mem_cons_of_mem _ (hsub.subset hq)
end
section
variable {α : Type} {G : List Ob} {sh : Sh} {f : α → U} {v : V} {l : List α} {F : List Nat}
theorem Bf (h : AtF G (.slice sh) [v] (.lst (l.map f)) F) (hn : F.Nodup) {i : Nat} (hi : i < l.length) {x : α} {c : List V} {K : List Nat} (hx : AtF G sh c (f x) K) (hxn : K.Nodup) (hd : ∀ q ∈ K, q ∉ F) :
  ∃ id off cells F', v = .slc (some (id, off)) l.length ∧ G[id]? = some (.mk true sh.size cells) ∧ off + l.length * sh.size ≤ cells.length ∧ id ∈ F ∧
   AtF (G.set id (.mk true sh.size (setRange cells (off + i * sh.size) c))) (.slice sh) [v] (.lst ((l.set i x).map f)) F' ∧ F'.Nodup ∧ ∀ q ∈ F', q ∈ F ∨ q ∈ K := by
 obtain ⟨w, us, hw, hus, hlen, h⟩ := aF.1 h
 cases hw
 cases hus
 have hcl : c.length = sh.size := At.len _ (AtF.at _ hx)
 rcases h with ⟨rfl, hl0, rfl⟩ | ⟨id, off, cells, Fs, rfl, h2, h3, h4, rfl, h6⟩
 ·have hl0 : l = [] := by simpa using hl0
  subst hl0
  simp at hi
 rw [List.length_map] at h3 h4 hlen ⊢
 have hid : id < G.length := (List.getElem?_eq_some_iff.1 h2).1
 have his : i * sh.size + sh.size ≤ l.length * sh.size := dY hi
 obtain ⟨hnid, hnf⟩ := List.nodup_cons.1 hn
 have hKid : id ∉ K := fun hm => hd id hm List.mem_cons_self
 obtain ⟨N, hN⟩ : ∃ N, N = setRange cells (off + i * sh.size) c := ⟨_, rfl⟩
 have hNl : N.length = cells.length := by rw [hN, iq (by omega)]
 have hfr : ∀ q, q ≠ id → (G.set id (.mk true sh.size N))[q]? = G[q]? := fun q hq => List.getElem?_set_ne fun e => hq e.symm
 have hset : Fs.set i K = Fs.take i ++ K :: Fs.drop (i + 1) := by rw [List.set_eq_take_append_cons_drop, if_pos (by omega)]
 have hdec : Fs.flatten = (Fs.take i).flatten ++ (Fs.drop i).flatten := by rw [← List.flatten_append, List.take_append_drop]
 have hd2 : Fs.drop i = Fs[i]'(by omega) :: Fs.drop (i + 1) := List.drop_eq_getElem_cons (by omega)
 have hmem : ∀ q ∈ (Fs.set i K).flatten, q ∈ Fs.flatten ∨ q ∈ K := fun q hq => by
  rw [hset, List.flatten_append, List.flatten_cons] at hq
  rw [hdec, hd2, List.flatten_cons]
  simp only [List.mem_append] at hq ⊢
  rcases hq with h | h | h <;> simp [h]
 refine ⟨id, off, cells, id :: (Fs.set i K).flatten, rfl, h2, h3, List.mem_cons_self, ?_, ?_, fun q hq => ?_⟩
 ·rw [← hN]
  refine aF.2 ⟨_, _, rfl, rfl, by simpa using hlen, .inr ⟨id, off, N, Fs.set i K, by simp, List.getElem?_set_self hid, by simp [hNl]; exact h3, by simp [h4], rfl, fun j y Fj hy hFj => ?_⟩⟩
  rw [List.getElem?_map] at hy
  by_cases hji : j = i
  ·subst hji
   rw [List.getElem?_set_self hi] at hy
   rw [List.getElem?_set_self (by omega)] at hFj
   cases hy
   cases hFj
   have := oD (cells := cells) (c := c) (o := off + j * sh.size) (by omega)
   rw [hcl] at this
   rw [← hN] at this
   rw [this]
   exact AtF.frame _ (fun q hq => hfr q fun e => hKid (e ▸ hq)) hx
  ·rw [List.getElem?_set_ne (fun e => hji e.symm)] at hy hFj
   have hj : j < l.length := by
    cases hh : l[j]? with
    | none => rw [hh] at hy; cases hy
    | some z => exact (List.getElem?_eq_some_iff.1 hh).1
   have hjs : j * sh.size + sh.size ≤ l.length * sh.size := dY hj
   have hap : j * sh.size + sh.size ≤ i * sh.size ∨ i * sh.size + sh.size ≤ j * sh.size := by
    rcases Nat.lt_or_gt_of_ne hji with hlt | hlt
    ·exact .inl (dY hlt)
    ·exact .inr (dY hlt)
   have hz : (N.drop (off + j * sh.size)).take sh.size = (cells.drop (off + j * sh.size)).take sh.size := by rw [hN]; exact iW (by omega) (by omega)
   rw [hz]
   have h7 := h6 j y Fj (by rw [List.getElem?_map]; exact hy) hFj
   exact AtF.frame _ (fun q hq => hfr q fun e => hnid (e ▸ List.mem_flatten.2 ⟨Fj, List.mem_of_getElem? hFj, hq⟩)) h7
 ·refine List.nodup_cons.2 ⟨fun hm => (hmem _ hm).elim hnid hKid, ?_⟩
  rw [hset, List.flatten_append, List.flatten_cons]
  rw [hdec, hd2, List.flatten_cons] at hnf
  obtain ⟨a1, a2, a3⟩ := List.nodup_append.1 hnf
  obtain ⟨b1, b2, b3⟩ := List.nodup_append.1 a2
  have hdK : ∀ q ∈ K, q ∉ Fs.flatten := fun q hq hm => hd q hq (List.mem_cons_of_mem _ hm)
  rw [hdec, hd2, List.flatten_cons] at hdK
  refine List.nodup_append.2 ⟨a1, List.nodup_append.2 ⟨hxn, b2, fun a ha b hb e => ?_⟩, fun a ha b hb e => ?_⟩
  ·subst e; exact hdK a ha (by simp [hb])
  ·subst e
   rcases List.mem_append.1 hb with hb | hb
   ·exact hdK a hb (by simp [ha])
   ·exact a3 a ha a (by simp [hb]) rfl
 ·rcases List.mem_cons.1 hq with rfl | hq
  ·exact .inl List.mem_cons_self
  ·exact (hmem q hq).imp (List.mem_cons_of_mem _) fun h => h
end
theorem Dp {α : Type} {p : α → Bool} {l : List α} {i : Nat} (h1 : ∀ q x, q < i → l[q]? = some x → p x = true) (h2 : ∀ q x, i ≤ q → l[q]? = some x → p x = false) : l.filter p = l.take i := by
 have : l.filter p = (l.take i).filter p ++ (l.drop i).filter p := by rw [← List.filter_append, List.take_append_drop]
 rw [this, List.filter_eq_self.2, List.filter_eq_nil_iff.2, List.append_nil]
 ·intro x hx
  obtain ⟨j, hj, rfl⟩ := List.getElem_of_mem hx
  rw [h2 (i + j) _ (by omega) (by rw [← List.getElem?_drop]; exact List.getElem?_eq_getElem hj)]
  decide
 ·intro x hx
  obtain ⟨j, hj, rfl⟩ := List.getElem_of_mem hx
  have hj2 : j < i := by rw [List.length_take] at hj; omega
  exact h1 j _ hj2 (by rw [← List.getElem?_take_of_lt hj2]; exact List.getElem?_eq_getElem hj)
theorem Du {α : Type} {p : α → Bool} {l : List α} {i : Nat} (h1 : ∀ q x, q < i → l[q]? = some x → p x = false) (h2 : ∀ q x, i ≤ q → l[q]? = some x → p x = true) : l.filter p = l.drop i := by
 have : l.filter p = (l.take i).filter p ++ (l.drop i).filter p := by rw [← List.filter_append, List.take_append_drop]
 rw [this, List.filter_eq_nil_iff.2, List.nil_append, List.filter_eq_self.2]
 ·intro x hx
  obtain ⟨j, hj, rfl⟩ := List.getElem_of_mem hx
  exact h2 (i + j) _ (by omega) (by rw [← List.getElem?_drop]; exact List.getElem?_eq_getElem hj)
 ·intro x hx
  obtain ⟨j, hj, rfl⟩ := List.getElem_of_mem hx
  have hj2 : j < i := by rw [List.length_take] at hj; omega
  rw [h1 j _ hj2 (by rw [← List.getElem?_take_of_lt hj2]; exact List.getElem?_eq_getElem hj)]
  decide
def Rw (s : Nat) (B G : List Ob) (v : V) (n : Nat) (cs : List V) : Prop :=
 (∃ T, G = B ++ T) ∧ cs.length = n * s ∧ ((v = .slc none 0 ∧ n = 0) ∨ ∃ id, v = .slc (some (id, 0)) n ∧ B.length ≤ id ∧ G[id]? = some (.mk true s cs))
section
variable {s n m : Nat} {B G : List Ob} {v : V} {cs xs : List V}
theorem Rw.nil : Rw s B B (.slc none 0) 0 [] := ⟨⟨[], by simp⟩, by simp, .inl ⟨rfl, rfl⟩⟩
theorem Rw.init (hB : ∃ T, G = B ++ T) : Rw s B (G ++ [.mk true s []]) (.slc (some (G.length, 0)) 0) 0 [] := by
 obtain ⟨T, rfl⟩ := hB
 exact ⟨⟨T ++ [.mk true s []], by simp⟩, by simp, .inr ⟨(B ++ T).length, rfl, by simp, get_last⟩⟩
theorem Rw.pre (h : Rw s B G v n cs) : ∃ T, G = B ++ T := h.1
theorem Rw.ext {T : List Ob} (h : Rw s B G v n cs) : Rw s B (G ++ T) v n cs := by
 obtain ⟨⟨S, rfl⟩, h2, h3⟩ := h
 exact ⟨⟨S ++ T, by simp⟩, h2, h3.imp id fun ⟨id, q1, q2, q3⟩ => ⟨id, q1, q2, aS _ _ q3⟩⟩
theorem Rw.one (h : Rw s B G v n cs) : aP v = true ∧ cellsOf v = some [v] := by
 rcases h.2.2 with ⟨rfl, _⟩ | ⟨id, rfl, _⟩ <;> exact ⟨rfl, rfl⟩
theorem Rw.many (h : Rw s B G v n cs) {d : LD} {by_ : Nat} {z : List V} {x : V} (hx : aU ⟨d, s, by_, z⟩ G x = some (xs, m)) (hm : xs.length = m * s) (ho : xs.all aP = true)
  (hz : z.length = s) (h0 : 0 < s) (hb0 : 0 < by_) (hb1 : by_ ≤ 1000000) (hb : (n + m) * by_ ≤ aK) :
  ∃ v' G', bI ⟨d, s, by_, z⟩ G v x = some (v', G') ∧ Rw s B G' v' (n + m) (cs ++ xs) := by
 by_cases hm0 : m = 0
 ·subst hm0
  have hx0 : xs = [] := List.length_eq_zero_iff.1 (by omega)
  subst hx0
  refine ⟨v, G, ?_, by simpa using h⟩
  unfold bI
  rw [if_pos (by simp [gW, h0, hb0, hb1, hz]), hx]
  simp only [if_true]
  rcases h.2.2 with ⟨rfl, _⟩ | ⟨id, rfl, _⟩ <;> rfl
 obtain ⟨⟨T, rfl⟩, h2, h3⟩ := h
 rcases h3 with ⟨rfl, rfl⟩ | ⟨id, rfl, q2, q3⟩
 ·have hc0 : cs = [] := List.length_eq_zero_iff.1 (by omega)
  subst hc0
  refine ⟨_, _, og hz h0 hb0 hb1 hx hm0 ho (by simpa using hb), ⟨T ++ [.mk true s xs], by simp⟩, by simp [hm], .inr ⟨(B ++ T).length, by simp, by simp, ?_⟩⟩
  rw [List.nil_append]; exact get_last
 ·refine ⟨_, _, gJ hz h0 hb0 hb1 q3 h2 hx hm0 ho hb, ⟨T.set (id - B.length) .dead ++ [.mk true s (cs ++ xs)], ?_⟩, by simp [h2, hm, Nat.add_mul], .inr ⟨(B ++ T).length, rfl, by simp, ?_⟩⟩
  ·rw [List.set_append_right _ _ q2, List.append_assoc]
  ·have hl : ((B ++ T).set id .dead).length = (B ++ T).length := List.length_set
   rw [← hl, get_last]
end
def RowsOk (B : List Ob) (sh : Sh) (cs : List V) (us : List U) (Fs : List (List Nat)) : Prop :=
 cs.length = us.length * sh.size ∧ Fs.length = us.length ∧ ∀ i x F, us[i]? = some x → Fs[i]? = some F → AtF B sh ((cs.drop (i * sh.size)).take sh.size) x F
section
variable {B G : List Ob} {sh : Sh} {cs cs' : List V} {us us' : List U} {Fs Fs' : List (List Nat)} {v : V}
theorem RowsOk.nil : RowsOk B sh [] [] [] := ⟨by simp, rfl, fun i x F h => by cases h⟩
theorem RowsOk.one {c : List V} {x : U} {F : List Nat} (h : AtF B sh c x F) : RowsOk B sh c [x] [F] := by
 have hl : c.length = sh.size := At.len _ (AtF.at _ h)
 refine ⟨by simp [hl], rfl, fun i y K hy hK => ?_⟩
 cases i with
 | zero => cases hy; cases hK; rw [Nat.zero_mul, List.drop_zero, List.take_of_length_le (by omega)]; exact h
 | succ i => cases hy
theorem RowsOk.take (h : RowsOk B sh cs us Fs) {k : Nat} (hk : k ≤ us.length) : RowsOk B sh (cs.take (k * sh.size)) (us.take k) (Fs.take k) := by
 obtain ⟨h1, h2, h3⟩ := h
 have hm : k * sh.size ≤ us.length * sh.size := Nat.mul_le_mul_right _ hk
 refine ⟨by simp [Nat.min_eq_left hk]; omega, by simp; omega, fun i x F hx hF => ?_⟩
 have hi : i < k := by have := (List.getElem?_eq_some_iff.1 hx).1; simp at this; omega
 rw [List.getElem?_take_of_lt hi] at hx hF
 have hs : i * sh.size + sh.size ≤ k * sh.size := dY hi
 have := h3 i x F hx hF
 rw [zY hs]
 exact this
theorem RowsOk.drop (h : RowsOk B sh cs us Fs) {k : Nat} (hk : k ≤ us.length) : RowsOk B sh (cs.drop (k * sh.size)) (us.drop k) (Fs.drop k) := by
 obtain ⟨h1, h2, h3⟩ := h
 refine ⟨by simp [h1, Nat.sub_mul], by simp; omega, fun i x F hx hF => ?_⟩
 rw [List.getElem?_drop] at hx hF
 have := h3 (k + i) x F hx hF
 rw [List.drop_drop, ← Nat.add_mul]
 exact this
theorem RowsOk.append (h : RowsOk B sh cs us Fs) (h' : RowsOk B sh cs' us' Fs') : RowsOk B sh (cs ++ cs') (us ++ us') (Fs ++ Fs') := by
 obtain ⟨h1, h2, h3⟩ := h
 obtain ⟨k1, k2, k3⟩ := h'
 refine ⟨by simp [h1, k1, Nat.add_mul], by simp [h2, k2], fun i x F hx hF => ?_⟩
 by_cases hi : i < us.length
 ·rw [List.getElem?_append_left hi] at hx
  rw [List.getElem?_append_left (by omega)] at hF
  have hs : i * sh.size + sh.size ≤ us.length * sh.size := dY hi
  rw [List.drop_append_of_le_length (by omega), List.take_append_of_le_length (by simp; omega)]
  exact h3 i x F hx hF
 ·obtain ⟨t, rfl⟩ : ∃ t, i = us.length + t := ⟨i - us.length, by omega⟩
  rw [List.getElem?_append_right (by omega)] at hx hF
  rw [show us.length + t - us.length = t by omega] at hx
  rw [show us.length + t - Fs.length = t by omega] at hF
  have e : (us.length + t) * sh.size = cs.length + t * sh.size := by rw [Nat.add_mul, h1]
  rw [e, List.drop_append, List.drop_eq_nil_of_le (by omega), List.nil_append, Nat.add_sub_cancel_left]
  exact k3 t x F hx hF
theorem RowsOk.ones (h : RowsOk B sh cs us Fs) : cs.all aP = true := by
 refine rY (n := us.length) (s := sh.size) h.1 fun j hj => ?_
 have hF : j < Fs.length := by rw [h.2.1]; exact hj
 exact At.ones _ (AtF.at _ (h.2.2 j us[j] Fs[j] (List.getElem?_eq_getElem hj) (List.getElem?_eq_getElem hF)))
theorem RowsOk.mem (h : RowsOk B sh cs us Fs) : ∀ q ∈ Fs.flatten, q < B.length := fun q hq => by
 obtain ⟨F, hF, hq⟩ := List.mem_flatten.1 hq
 obtain ⟨i, hi, rfl⟩ := List.getElem_of_mem hF
 have hi' : i < us.length := by rw [← h.2.1]; exact hi
 exact AtF.mem _ (h.2.2 i us[i] Fs[i] (List.getElem?_eq_getElem hi') (List.getElem?_eq_getElem hi)) q hq
theorem RowsOk.frame (h : RowsOk B sh cs us Fs) (hG : ∀ q ∈ Fs.flatten, G[q]? = B[q]?) : RowsOk G sh cs us Fs :=
 ⟨h.1, h.2.1, fun i x F hx hF => AtF.frame _ (fun q hq => hG q (List.mem_flatten.2 ⟨F, List.mem_of_getElem? hF, hq⟩)) (h.2.2 i x F hx hF)⟩
theorem AtF.rows {F : List Nat} (h : AtF B (.slice sh) [v] (.lst us) F) (hn : F.Nodup) : ∃ p cs Fs, v = .slc p us.length ∧ RowsOk B sh cs us Fs ∧ Fs.flatten.Nodup ∧ (∀ q ∈ Fs.flatten, q ∈ F) ∧
  ((p = none ∧ us = []) ∨ ∃ id off cells, p = some (id, off) ∧ B[id]? = some (.mk true sh.size cells) ∧ id ∈ F ∧ id ∉ Fs.flatten ∧
   ∀ (d : LD) (by_ : Nat) (z : List V) (G : List Ob) (lo hi : Nat), G[id]? = B[id]? → lo ≤ hi → hi ≤ us.length →
    aU ⟨d, sh.size, by_, z⟩ G (.slc (some (id, off + lo * sh.size)) (hi - lo)) = some ((cs.drop (lo * sh.size)).take ((hi - lo) * sh.size), hi - lo)) := by
 obtain ⟨w, us', hw, hus, hlen, h⟩ := aF.1 h
 cases hw
 cases hus
 rcases h with ⟨rfl, rfl, rfl⟩ | ⟨id, off, cells, Fs, rfl, h2, h3, h4, rfl, h6⟩
 ·exact ⟨none, [], [], rfl, RowsOk.nil, by simp, by simp, .inl ⟨rfl, rfl⟩⟩
 ·obtain ⟨hn1, hn2⟩ := List.nodup_cons.1 hn
  have hcl : ((cells.drop off).take (us.length * sh.size)).length = us.length * sh.size := by simp; omega
  refine ⟨some (id, off), (cells.drop off).take (us.length * sh.size), Fs, rfl, ⟨hcl, h4, fun i x F hx hF => ?_⟩, hn2, fun q hq => List.mem_cons_of_mem _ hq, .inr ⟨id, off, cells, rfl, h2, List.mem_cons_self, hn1, fun d by_ z G lo hi hG hlo hhi => ?_⟩⟩
  ·rw [kT h3 (List.getElem?_eq_some_iff.1 hx).1]
   exact h6 i x F hx hF
  ·have e1 : lo * sh.size + (hi - lo) * sh.size = hi * sh.size := by rw [← Nat.add_mul]; congr 1; omega
   have e2 : hi * sh.size ≤ us.length * sh.size := Nat.mul_le_mul_right _ hhi
   have e3 : (((cells.drop off).take (us.length * sh.size)).drop (lo * sh.size)).take ((hi - lo) * sh.size) = (cells.drop (off + lo * sh.size)).take ((hi - lo) * sh.size) := by
    rw [List.drop_take, List.take_take, List.drop_drop, Nat.min_eq_left (by omega)]
   rw [e3]
   simp only [aU, bH, hG, h2]
   by_cases h0 : (hi - lo) * sh.size = 0
   ·rw [if_pos h0, h0, List.take_zero]
   ·rw [if_neg h0]
    unfold eP
    rw [if_pos (by omega)]
end
section
variable {H S X : List Ob} {l : List Nat} {k : Nat} {o : Ob}
theorem Pi : fP l H.length (H ++ S) = H ++ fP l 0 S := by
 apply List.ext_getElem?
 intro i
 rw [iF]
 by_cases hi : i < H.length
 ·rw [List.getElem?_append_left hi, List.getElem?_append_left hi]
  cases H[i]? with
  | none => rfl
  | some o => rw [Option.map_some, if_neg (fun hc => absurd hc.1 (by omega))]
 ·rw [List.getElem?_append_right (by omega), List.getElem?_append_right (by omega), iF]
  have : (H.length ≤ i ∧ l.contains (i - H.length) = true) ↔ (0 ≤ i - H.length ∧ l.contains (i - H.length - 0) = true) := by simp; omega
  simp only [this]
theorem Dl : kF l H.length (H ++ S) (H ++ X) = H ++ kF l 0 S X := by
 apply List.ext_getElem?
 intro i
 rw [iY]
 by_cases hi : i < H.length
 ·rw [List.getElem?_append_left hi, List.getElem?_append_left hi]
  cases H[i]? with
  | none => rfl
  | some o => rw [Option.map_some, if_neg (fun hc => absurd hc.1 (by omega))]
 ·rw [List.getElem?_append_right (by omega), List.getElem?_append_right (by omega), iY]
  have : (H.length ≤ i ∧ l.contains (i - H.length) = true) ↔ (0 ≤ i - H.length ∧ l.contains (i - H.length - 0) = true) := by simp; omega
  simp only [this, List.getD_eq_getElem?_getD]
  rw [List.getElem?_append_right (by omega)]
theorem ut : (H ++ S).set (H.length + k) o = H ++ S.set k o := by
 rw [List.set_append_right _ _ (by omega), Nat.add_sub_cancel_left]
theorem CJ : (H ++ S).set H.length o = H ++ S.set 0 o := by
 rw [List.set_append_right _ _ (by omega), Nat.sub_self]
theorem nI : (H ++ S)[H.length + k]? = S[k]? := by
 rw [List.getElem?_append_right (by omega), Nat.add_sub_cancel_left]
end
end Go.Lite
end
section
namespace Go.Proofs.Try1
open Go Go.Lite
attribute [-simp] jd mg
attribute [local simp] jM mY jF jI jD iU
attribute [local simp low] jE

def Tri (x : Int) : Prop := x = 0 ∨ x = 1 ∨ x = 2
theorem Tri.not {x : Int} (h : Tri x) : Tri (Zg x) := by
 rcases h with rfl | rfl | rfl <;> simp [Tri, Zg]

def ints (xs : List Int) : List V := xs.map fun x => .int .i64 x
theorem Ji {xs : List Int} : (ints xs).length = xs.length := by simp [ints]
def Is (H G : List Ob) (v : V) (b : List Int) : Prop := ∃ T id, G = H ++ T ∧ H.length ≤ id ∧ G[id]? = some (.mk true 1 (ints b)) ∧ v = .slc (some (id, 0)) b.length
theorem Is.init {H : List Ob} : Is H (H ++ [.mk true 1 []]) (.slc (some (H.length, 0)) 0) [] := ⟨_, H.length, rfl, Nat.le_refl _, by simp [ints], rfl⟩
theorem Is.push {H G : List Ob} {v : V} {b : List Int} (h : Is H G v b) (hb : b.length ≤ 1000) {c : Int} {z : List V} {d : LD} (hz : z.length = 1) : ∃ v' G', bI ⟨d, 1, 8, z⟩ (G ++ [.mk true 1 [.int .i64 c]]) v (.slc (some (G.length, 0)) 1) = some (v', G') ∧ Is H G' v' (b ++ [c]) := by
 obtain ⟨T, id, rfl, h1, h2, rfl⟩ := h
 have hid : id < (H ++ T).length := (List.getElem?_eq_some_iff.1 h2).1
 have hid' : id < H.length + T.length := by simpa using hid
 have hg : (H ++ T ++ [Ob.mk true 1 [.int .i64 c]])[id]? = some (.mk true 1 (ints b)) := by rw [List.getElem?_append_left hid]; exact h2
 have hnew : aU ⟨d, 1, 8, z⟩ (H ++ T ++ [Ob.mk true 1 [.int .i64 c]]) (.slc (some ((H ++ T).length, 0)) 1) = some ([.int .i64 c], 1) := by
  simp only [aU, Nat.mul_one, bH, get_last]
  rfl
 refine ⟨.slc (some ((H ++ T ++ [Ob.mk true 1 [.int .i64 c]]).length, 0)) (b.length + 1), (H ++ T ++ [Ob.mk true 1 [.int .i64 c]]).set id .dead ++ [.mk true 1 (ints b ++ [.int .i64 c])], ?_, ?_⟩
 ·unfold bI
  rw [if_pos (by simp [gW, hz]), hnew]
  simp only [Nat.one_ne_zero, if_false, List.all_cons, List.all_nil, xB, Bool.and_true, if_true, hg]
  have e1 : ¬ (0 + (b.length + 1) * 1 ≤ (ints b).length) := by rw [Ji]; omega
  have e2 : (0 + b.length * 1 = (ints b).length ∨ b.length = 0 ∧ (ints b).length ≤ 0) ∧ (b.length + 1) * 8 ≤ aK := ⟨.inl (by rw [Ji]; simp), by unfold aK; omega⟩
  rw [if_neg e1, if_pos e2, List.drop_zero]
 ·refine ⟨T.set (id - H.length) .dead ++ [.mk true 1 [.int .i64 c]] ++ [.mk true 1 (ints b ++ [.int .i64 c])], (H ++ T ++ [Ob.mk true 1 [.int .i64 c]]).length, ?_, by simp only [List.length_append]; omega, ?_, by simp⟩
  ·rw [List.append_assoc H T, List.set_append_right _ _ h1, List.set_append_left _ _ (by omega)]
   simp
  ·have hl : ((H ++ T ++ [Ob.mk true 1 [V.int .i64 c]]).set id .dead).length = (H ++ T ++ [Ob.mk true 1 [V.int .i64 c]]).length := List.length_set
   rw [← hl, get_last]
   simp [ints]

end Go.Proofs.Try1
end
section
namespace Go.Proofs.Try1
open Go Go.Lite


theorem Vm {H : List Ob} {v : V} {l : List PRdn} (h : dK H v l) : callW C 190 [v] H = some (.bool (decide (400 < l.length)), H) := by
 apply Ret.eq
 rw [XM]
 have hi : (400 : Int) < (l.length : Int) ↔ 400 < l.length := by omega
 simp [Dz, Tryz.f190, h.len, hi]
theorem J3 {H : List Ob} {idd g : Nat} {b : List V} {vd : V} {dn : List PRdn} {rr : Bool} (hi : H[idd]? = some (.mk true 1 [vd])) (hd : dK H vd dn) (hr : callW C g b H = some (.bool rr, H)) :
  callW C 98 [.fn g [] b, .slc (some (idd, 0)) 1] H = some (.int .i64 (if 400 < dn.length then 2 else if dec (DnOk dn) = true ∧ rr = true then 0 else 1), H) := by
 apply Ret.eq
 rw [anw]
 have c1 := Vm hd
 have c2 := aal hd
 have ld := aY (o := 0) (v := vd) hi rfl
 simp [JH, Tryz.f98]
 refine aA (fun k σ => ∃ (i : Nat) (r : Nat → R), i + k = 1 ∧ (0 < i → ¬ 400 < dn.length) ∧ σ = ⟨r, 0, H⟩ ∧ r 0 = .val (.fn g [] b) ∧ r 1 = .val (.slc (some (idd, 0)) 1) ∧ r 9 = .val (.slc (some (idd, 0)) 1) ∧ r 10 = .val (.int .i64 1) ∧ r 11 = .val (.int .i64 i)) ?_ 1 _ ⟨0, _, by omega, by omega, rfl, by simp, by simp, by simp, by simp, by simp⟩
 rintro k σ ⟨i, r, hik, hlow, rfl, r0, r1, r9, r10, r11⟩
 cases k with
 | succ k =>
  obtain rfl : i = 0 := by omega
  obtain rfl : k = 0 := by omega
  by_cases g1 : 400 < dn.length
  ·simp [r0, r1, r9, r10, r11, ld, c1, g1]
  ·simp [r0, r1, r9, r10, r11, ld, c1, g1]
 | zero =>
  obtain rfl : i = 1 := by omega
  have g1 := hlow (by omega)
  simp [r0, r1, r9, r10, r11, g1]
  refine aA (fun k σ => ∃ (i : Nat) (r : Nat → R), i + k = 1 ∧ (0 < i → DnOk dn) ∧ σ = ⟨r, 0, H⟩ ∧ r 0 = .val (.fn g [] b) ∧ r 1 = .val (.slc (some (idd, 0)) 1) ∧ r 18 = .val (.slc (some (idd, 0)) 1) ∧ r 19 = .val (.int .i64 1) ∧ r 20 = .val (.int .i64 i)) ?_ 1 _ ⟨0, _, by omega, by omega, rfl, by simp [r0], by simp [r1], by simp, by simp, by simp⟩
  clear r0 r1 r9 r10 r11 r
  rintro k σ ⟨i, r, hik, hdn, rfl, r0, r1, r18, r19, r20⟩
  cases k with
  | succ k =>
   obtain rfl : i = 0 := by omega
   obtain rfl : k = 0 := by omega
   by_cases g2 : DnOk dn
   ·rw [au g2] at c2
    simp [r0, r1, r18, r19, r20, ld, c2, g1]
    exact g2
   ·rw [ak g2] at c2
    simp [r0, r1, r18, r19, r20, ld, c2, g1, ak g2]
  | zero =>
   obtain rfl : i = 1 := by omega
   have g2 := hdn (by omega)
   cases rr with
   | true => simp [r0, r1, r18, r19, r20, hr, au g2]
   | false => simp [r0, r1, r18, r19, r20, hr, au g2]
theorem TreeOk.small {t : PTree} (h : TreeOk t) : DN t := by
 refine ⟨⟨by have := h.1.2; omega, fun c hc => ?_⟩, by have := h.2.1.1; omega, fun e he => EntryOk.small (TreeOk.dns h e he)⟩
 obtain ⟨j, hj, rfl⟩ := List.getElem_of_mem hc
 have hc := (h.1.1 j _ (List.getElem?_eq_getElem hj)).1
 exact ⟨by have := hc.l1; omega, by have := hc.l2; omega, by have := hc.l3; omega⟩
theorem TreeOk.rise {t : PTree} (h : TreeOk t) : t.entries.Pairwise fun a b => keyE a < keyE b := gB (key := keyE) (fun j x hx => (h.2.1.2 j x hx).2.2)
theorem TOut.new {H : List Ob} {T : List Ob} {t : PTree} {w1 w2 : V} (hn : New H.length (H ++ T).length (H ++ T) dL [w1, w2] t.u) : ∃ T' q, q = .agg [w1, w2, .slc none 0, .int .i64 0] ∧ fB H (H ++ T) q = H ++ T' ∧ TOut H ⟨t, [], 0⟩ q (H ++ T') := by
 have h2 : New H.length (H ++ T).length (H ++ T) gz [w1, w2, .slc none 0, .int .i64 0] (PTreeOut.u ⟨t, [], 0⟩) := New.st (News.cons (c1 := [w1, w2]) (m := (H ++ T).length) hn (News.nilS (News.int (by decide) News.nil)) (by simp) (Nat.le_refl _))
 obtain ⟨T', h3, h4⟩ := h2.gcA
 exact ⟨T', _, rfl, h3, T', w1, w2, .slc none 0, rfl, rfl, h4⟩
theorem TOut.ones {H : List Ob} {o : PTreeOut} {q : V} {H' : List Ob} (h : TOut H o q H') : ∃ w1 w2 w3, q = .agg [w1, w2, w3, .int .i64 o.code] ∧ (aP w1 = true ∧ cellsOf w1 = some [w1]) ∧ (aP w2 = true ∧ cellsOf w2 = some [w2]) ∧ (aP w3 = true ∧ cellsOf w3 = some [w3]) := by
 obtain ⟨T, w1, w2, w3, rfl, rfl, h3⟩ := h
 have := At.ones _ h3.at
 simp only [List.all_cons, List.all_nil, Bool.and_true, Bool.and_eq_true] at this
 exact ⟨w1, w2, w3, rfl, ⟨this.1, jV this.1⟩, ⟨this.2.1, jV this.2.1⟩, ⟨this.2.2.1, jV this.2.2.1⟩⟩
theorem TOut.gc {H : List Ob} {o : PTreeOut} {q : V} {H' : List Ob} (h : TOut H o q H') : TOut H o q (fB H H' q) := by
 obtain ⟨T, w1, w2, w3, rfl, rfl, h3⟩ := h
 obtain ⟨T', h4, h5⟩ := h3.gcA
 exact ⟨T', w1, w2, w3, rfl, h4, h5⟩
theorem Lr {H : List Ob} {v : V} {l : List PClass} {t : Str} {c : PClass} (h : bg H v l) (hf : bT PClass.name l t = some c) (hb : Ah c) (hnm : c.name.length ≤ maxLen) :
  ∃ T w1 w2 w3, callW C 335 [v, .str t] H = some (.tup [.agg [.str c.name, w1, w2, w3], .bool true], H ++ T) ∧ New H.length (H ++ T).length (H ++ T) bz [.str c.name, w1, w2, w3] c.u := by
 suffices hs : Ret C 335 [v, .str t] H fun q H' => ∃ T w1 w2 w3, q = .tup [.agg [.str c.name, w1, w2, w3], .bool true] ∧ H' = H ++ T ∧ New H.length (H ++ T).length (H ++ T) bz [.str c.name, w1, w2, w3] c.u by
  obtain ⟨q, H', hc, T, w1, w2, w3, rfl, rfl, hr⟩ := hs
  exact ⟨T, w1, w2, w3, hc, hr⟩
 rw [VA]
 obtain ⟨r, c1, hr⟩ := zW (H := H ++ [.mk true 1 [.str t]]) (idn := H.length) (t := t) get_last h.ext
 rcases hr.pos with ⟨k, a, h1, rfl, h2⟩ | ⟨rfl, h2⟩
 rotate_left
 ·rw [hf] at h2; cases h2
 rw [hf] at h2
 cases h2
 obtain ⟨id, o, w1, w2, w3, e1, l4, q1, q2, q3⟩ := pW h h1
 have l4 := l4 [.mk true 1 [.str t]]
 have hk : ¬ ((k : Int) < 0) := by omega
 obtain ⟨A0, hA0⟩ : ∃ A, A = H ++ [.mk true 1 [.str t]] := ⟨_, rfl⟩
 obtain ⟨T1, x1, d1, n1⟩ := wY (H := A0) (by rw [hA0]; exact q1.ext) hb.1
 obtain ⟨A, hA⟩ : ∃ A, A = A0 ++ T1 := ⟨_, rfl⟩
 rw [← hA] at d1 n1
 obtain ⟨T2, x2, d2, n2⟩ := wY (H := A) (by rw [hA, hA0]; exact q2.ext.ext) hb.2.1
 obtain ⟨B, hB⟩ : ∃ B, B = A ++ T2 := ⟨_, rfl⟩
 rw [← hB] at d2 n2
 obtain ⟨T3, x3, d3, n3⟩ := wY (H := B) (by rw [hB, hA, hA0]; exact q3.ext.ext.ext) hb.2.2
 have o1 := New.one1 n1
 have o2 := New.one1 n2
 have o3 := New.one1 n3
 have hAl : A0.length ≤ A.length := by rw [hA]; simp
 have hBl : A.length ≤ B.length := by rw [hB]; simp
 have hne : New A0.length (B ++ T3).length (B ++ T3) bz [.str c.name, x1, x2, x3] c.u :=
  New.st (News.str hnm (News.cons (m := A.length) (c1 := [x1]) (by rw [hB, List.append_assoc]; exact n1.ext) (News.cons (m := B.length) (c1 := [x2]) n2.ext (News.one n3 (by simp)) hBl (by simp)) hAl (by simp; omega)))
 have hGH : B ++ T3 = H ++ ([.mk true 1 [.str t]] ++ T1 ++ T2 ++ T3) := by rw [hB, hA, hA0]; simp
 have hne' : New H.length (B ++ T3).length (B ++ T3) bz [.str c.name, x1, x2, x3] c.u := hne.wide (by rw [hA0]; simp) (Nat.le_refl _)
 rw [hGH] at hne'
 obtain ⟨T', hg, hn'⟩ := hne'.gc (v := .tup [.agg [.str c.name, x1, x2, x3], .bool true]) (by simp [eY, iD])
 rw [← hGH] at hg
 rw [← hA0] at c1 l4
 simp [uT, Tryz.f335, c1, hk, e1, l4, d1, d2, d3, o1, o2, o3, q1.one, q2.one, q3.one, aV, aW, aH, ay, ← hA0, List.lookup, hg]
 exact ⟨T', x1, x2, x3, ⟨rfl, rfl, rfl⟩, rfl, by simpa using hn'⟩
theorem Fb {H : List Ob} {vl : V} {l : List PClass} (h : bg H vl l) (hb : l.length ≤ 1048576 ∧ ∀ c ∈ l, Ah c) :
  ∃ T w, callW C 283 [vl] H = some (w, H ++ T) ∧ New H.length (H ++ T).length (H ++ T) (.slice bz) [w] (.lst (l.map PClass.u)) ∧ ¬ eY H w := by
 suffices hs : Ret C 283 [vl] H fun q H' => ∃ T, H' = H ++ T ∧ New H.length (H ++ T).length (H ++ T) (.slice bz) [q] (.lst (l.map PClass.u)) ∧ ¬ eY H q by
  obtain ⟨q, H', hc, T, rfl, hr⟩ := hs
  exact ⟨T, q, hc, hr⟩
 rw [afr]
 have hbl := hb.1
 simp [He, Tryz.f283, aJ, aH, ax, St.new, h.len]
 refine aA (fun k σ => ∃ (i n : Nat) (r : Nat → R) (G : List Ob) (w : V), i + k = l.length ∧ σ = ⟨r, n, G⟩ ∧ r 3 = .val w ∧ r 9 = .val vl ∧ r 10 = .val (.int .i64 l.length) ∧ r 11 = .val (.int .i64 i) ∧ LstF H G bz PClass.u w (l.take i) ∧ ¬ eY H w) ?_ l.length _ ⟨0, _, _, H ++ [.mk true 4 []], .slc (some (H.length, 0)) 0, by simp, rfl, by simp, by simp, by simp, by simp, by rw [List.take_zero]; exact LstF.init (sh := bz), fun ⟨own, es, cells, h⟩ => by simp at h⟩
 rintro k σ ⟨i, n, r, G, w, hik, rfl, r3, r9, r10, r11, hG, hnl⟩
 obtain ⟨S, hS⟩ := hG.pre
 have hlG : bg G vl l := by rw [hS]; exact h.ext
 have hwo := hG.one
 cases k with
 | zero =>
  have hi : i = l.length := by omega
  subst hi
  rw [List.take_length] at hG
  have n2 := hG.new h.bound
  have hg : fB H G w = G := kD hnl
  simp [r3, r9, r10, r11, hg, hwo]
  exact ⟨S, hS, by rw [← List.length_append, ← hS]; exact n2, hnl⟩
 | succ k =>
  have hi : i < l.length := by omega
  obtain ⟨x, hx⟩ : ∃ c, l[i]? = some c := ⟨l[i], by simp [hi]⟩
  have hw : IntKind.i64.wrap ((i : Int) + 1) = ((i : Int) + 1) := wrap_i64 (by omega) (by omega)
  obtain ⟨id, o, w1, w2, w3, e1, l0, l4, q1, q2, q3, _, hnm⟩ := gQ hlG hx
  have h1 : bg (G ++ [.mk true 4 [.str x.name, w1, w2, w3]]) (.slc (some (G.length, 0)) 1) [x] := aj.2 ⟨_, _, rfl, rfl, by simp [maxLen], .inr ⟨G.length, 0, true, [.str x.name, w1, w2, w3], rfl, get_last, by simp, fun j y hy => by
   have hj : j = 0 := by have := (List.getElem?_eq_some_iff.1 hy).1; simpa using this
   subst hj
   cases hy
   simpa using rO.2 ⟨w1, w2, w3, rfl, hnm, q1.ext, q2.ext, q3.ext⟩⟩⟩
  obtain ⟨T2, y1, y2, y3, c1, n1⟩ := Lr h1 (t := x.name) (c := x) (by simp [bT]) (hb.2 x (List.mem_of_getElem? hx)) hnm
  rw [List.append_assoc] at c1 n1
  have n1' : New G.length _ (G ++ ([.mk true 4 [.str x.name, w1, w2, w3]] ++ T2)) bz [.str x.name, y1, y2, y3] x.u := n1.wide (by simp) (Nat.le_refl _)
  obtain ⟨w', G', a3, hG', _, _⟩ := hG.push (T := [.mk true 4 [.str x.name, w1, w2, w3]] ++ T2) (d := .struct [(0, 9), (1, 30), (2, 30), (3, 30)]) (by_ := 88) (z := [.str [], .slc none 0, .slc none 0, .slc none 0]) (sz := 4) n1' rfl rfl (by decide) (by decide) (by decide) (by simp; unfold aK; omega)
  rw [← dA hx] at hG'
  obtain ⟨_, _, _, hcy, _, b1, b2, b3⟩ := rO.1 n1.at
  cases hcy
  have hw' := hG'.one
  have o1 := q1.one
  have o2 := q2.one
  have o3 := q3.one
  have p1 := b1.one
  have p2 := b2.one
  have p3 := b3.one
  have hid := qO l0
  have hnl' : ¬ eY H w' := by
   rcases hG'.2 with ⟨_, h0⟩ | ⟨id', cs, Fs, g1, g2, rfl, _⟩
   ·have := congrArg List.length h0; rw [List.length_take, List.length_nil] at this; omega
   ·rintro ⟨own, es, cells, hh⟩
    have := (List.getElem?_eq_some_iff.1 hh).1
    omega
  simp only [List.append_assoc, List.length_append, List.cons_append, List.nil_append, List.length_cons] at a3 c1
  simp [r3, r9, r10, r11, hi, e1, l0, l4, hid, c1, a3, aJ, aH, ax, St.new, aW, o1, o2, o3, p1, p2, p3, hwo, hw', hw]
  exact ⟨k, by omega, i + 1, by omega, _, _, _, ⟨rfl, rfl, rfl⟩, w', by simp, by simp [r9], by simp [r10], by simp, hG', hnl'⟩
theorem BC {H : List Ob} {vl : V} {l : List PEntry} (h : bW H vl l) (hb : l.length ≤ 1048576 ∧ ∀ c ∈ l, qQ c) :
  ∃ T w, callW C 284 [vl] H = some (w, H ++ T) ∧ New H.length (H ++ T).length (H ++ T) (.slice shEntry) [w] (.lst (l.map PEntry.u)) ∧ ¬ eY H w := by
 suffices hs : Ret C 284 [vl] H fun q H' => ∃ T, H' = H ++ T ∧ New H.length (H ++ T).length (H ++ T) (.slice shEntry) [q] (.lst (l.map PEntry.u)) ∧ ¬ eY H q by
  obtain ⟨q, H', hc, T, rfl, hr⟩ := hs
  exact ⟨T, q, hc, hr⟩
 rw [ady]
 have hbl := hb.1
 simp [EG, Tryz.f284, aJ, aH, ax, St.new, h.len]
 refine aA (fun k σ => ∃ (i n : Nat) (r : Nat → R) (G : List Ob) (w : V), i + k = l.length ∧ σ = ⟨r, n, G⟩ ∧ r 3 = .val w ∧ r 7 = .val vl ∧ r 8 = .val (.int .i64 l.length) ∧ r 9 = .val (.int .i64 i) ∧ LstF H G shEntry PEntry.u w (l.take i) ∧ ¬ eY H w) ?_ l.length _ ⟨0, _, _, H ++ [.mk true 2 []], .slc (some (H.length, 0)) 0, by simp, rfl, by simp, by simp, by simp, by simp, by rw [List.take_zero]; exact LstF.init (sh := shEntry), fun ⟨own, es, cells, h⟩ => by simp at h⟩
 rintro k σ ⟨i, n, r, G, w, hik, rfl, r3, r7, r8, r9, hG, hnl⟩
 obtain ⟨S, hS⟩ := hG.pre
 have hlG : bW G vl l := by rw [hS]; exact h.ext
 have hwo := hG.one
 cases k with
 | zero =>
  have hi : i = l.length := by omega
  subst hi
  rw [List.take_length] at hG
  have n2 := hG.new h.bound
  have hg : fB H G w = G := kD hnl
  simp [r3, r7, r8, r9, hg, hwo]
  exact ⟨S, hS, by rw [← List.length_append, ← hS]; exact n2, hnl⟩
 | succ k =>
  have hi : i < l.length := by omega
  obtain ⟨x, hx⟩ : ∃ c, l[i]? = some c := ⟨l[i], by simp [hi]⟩
  have hw : IntKind.i64.wrap ((i : Int) + 1) = ((i : Int) + 1) := wrap_i64 (by omega) (by omega)
  obtain ⟨id, o, v1, v2, e1, l0, l1, lm, a1, a2, _⟩ := dM hlG hx
  have hid := qO l0
  obtain ⟨T2, y1, y2, c2, n2⟩ := I7 a1 a2 (hb.2 x (List.mem_of_getElem? hx))
  obtain ⟨_, _, hcy, b1, b2⟩ := iw.1 n2.at
  cases hcy
  obtain ⟨w', G', a3, hG', _, _⟩ := hG.push (T := T2) (d := .struct [(0, 35), (1, 41)]) (by_ := 48) (z := [.slc none 0, .slc none 0]) (sz := 2) n2 rfl rfl (by decide) (by decide) (by decide) (by simp; unfold aK; omega)
  rw [← dA hx] at hG'
  have hw' := hG'.one
  have o1 := a1.one
  have o2 := a2.one
  have p1 := b1.one
  have p2 := b2.one
  have hnl' : ¬ eY H w' := by
   rcases hG'.2 with ⟨_, h0⟩ | ⟨id', cs, Fs, g1, g2, rfl, _⟩
   ·have := congrArg List.length h0; rw [List.length_take, List.length_nil] at this; omega
   ·rintro ⟨own, es, cells, hh⟩
    have := (List.getElem?_eq_some_iff.1 hh).1
    omega
  simp only [List.append_assoc, List.length_append] at a3
  simp [r3, r7, r8, r9, hi, e1, l0, l1, lm, hid, c2, a3, aJ, aH, ax, St.new, aW, ay, o1, o2, p1, p2, hwo, hw', hw]
  exact ⟨k, by omega, i + 1, by omega, _, _, _, ⟨rfl, rfl, rfl⟩, w', by simp, by simp [r7], by simp [r8], by simp, hG', hnl'⟩
theorem Oj {H : List Ob} {vs ve : V} {t : PTree} (hs : bg H vs t.schema) (h : bW H ve t.entries) (hb : DN t) :
  ∃ T w1 w2, callW C 208 [.agg [vs, ve]] H = some (.agg [w1, w2], H ++ T) ∧ New H.length (H ++ T).length (H ++ T) dL [w1, w2] t.u ∧ ¬ eY H w1 := by
 suffices hs : Ret C 208 [.agg [vs, ve]] H fun q H' => ∃ T w1 w2, q = .agg [w1, w2] ∧ H' = H ++ T ∧ New H.length (H ++ T).length (H ++ T) dL [w1, w2] t.u ∧ ¬ eY H w1 by
  obtain ⟨q, H', hc, T, w1, w2, rfl, rfl, hr⟩ := hs
  exact ⟨T, w1, w2, hc, hr⟩
 rw [abu]
 have hos := hs.one
 have hoe := h.one
 obtain ⟨T1, w1, c1, n1, nl1⟩ := Fb hs hb.1
 obtain ⟨K, hK⟩ : ∃ K, K = H ++ T1 := ⟨_, rfl⟩
 rw [← hK] at n1 c1
 obtain ⟨T2, w2, c2, n2, nl2⟩ := BC (H := K) (by rw [hK]; exact h.ext) hb.2
 have o1 := New.one1 n1
 have o2 := New.one1 n2
 have hKl : H.length ≤ K.length := by rw [hK]; simp
 have hne : New H.length (K ++ T2).length (K ++ T2) dL [w1, w2] t.u := New.st (News.cons (m := K.length) (c1 := [w1]) n1.ext (News.one n2 (by simp)) hKl (by simp))
 have hg : fB H (K ++ T2) (.agg [w1, w2]) = K ++ T2 := kD fun h => nl1 h.1
 simp [EN, Tryz.f208, hos, hoe, c1, c2, o1, o2, aH, ax, aW, ay, hg, af, ai, List.lookup]
 exact ⟨T1 ++ T2, w1, w2, ⟨rfl, rfl⟩, by rw [hK]; simp, by rw [hK, List.append_assoc] at hne; simpa using hne, nl1⟩
theorem Vp {H G : List Ob} (h : ∀ q, q < H.length → G[q]? = H[q]?) (hl : H.length ≤ G.length) : ∃ T, G = H ++ T := by
 refine ⟨G.drop H.length, List.ext_getElem? fun i => ?_⟩
 by_cases hi : i < H.length
 ·rw [List.getElem?_append_left hi, h i hi]
 ·rw [List.getElem?_append_right (by omega), List.getElem?_drop]
  congr 1
  omega
def amP (H : List Ob) (idt : Nat) (G : List Ob) (o : PTreeOut) (code : Int) (G' : List Ob) : Prop :=
 code = o.code ∧ (∀ q, q < H.length → G'[q]? = G[q]?) ∧ G.length ≤ G'.length ∧ (code = 0 → o.entries = [] ∧ ∃ w1 w2, G'[idt]? = some (.mk true 2 [w1, w2]) ∧ New H.length G'.length G' dL [w1, w2] o.tree.u)
theorem BL {H : List Ob} {vs ve : V} {t : PTree} {g : Nat} {b : List V} {o : PTreeOut} (hs : bg H vs t.schema) (h : bW H ve t.entries) (hb : DN t) (hill : o.code ≠ 0 → o = xA o.code) (hwf : (Lit.int .i64 o.code).wf = true)
  (hcall : ∀ K w1 w2, (∃ T, K = H ++ T) → New H.length K.length K dL [w1, w2] t.u → ∃ code G', callW C g ([.ptr (some (K.length, 0))] ++ b) (K ++ [.mk true 2 [w1, w2]]) = some (.int .i64 code, G') ∧ amP H K.length (K ++ [.mk true 2 [w1, w2]]) o code G') :
  ∃ q H', callW C 115 [.agg [vs, ve], .fn g [] b] H = some (q, H') ∧ TOut H o q H' := by
 suffices hs : Ret C 115 [.agg [vs, ve], .fn g [] b] H fun q H' => TOut H o q H' by
  obtain ⟨q, H', hc, hr⟩ := hs
  exact ⟨q, H', hc, hr⟩
 rw [aaU]
 have hos := hs.one
 have hoe := h.one
 obtain ⟨T1, d, a, c1, n1, _⟩ := Oj hs h hb
 obtain ⟨K, hK⟩ : ∃ K, K = H ++ T1 := ⟨_, rfl⟩
 rw [← hK] at c1 n1
 obtain ⟨_, _, hcs, hd1, ha1⟩ := pM.1 n1.at
 cases hcs
 have hoD := hd1.one
 have hoA := ha1.one
 obtain ⟨code, G', c2, rfl, hfr, hlen, hok⟩ := hcall K d a ⟨T1, hK⟩ n1
 have hpre : ∃ T, G' = H ++ T := Vp (fun q hq => by rw [hfr q hq, hK, List.append_assoc, List.getElem?_append_left hq]) (by rw [hK] at hlen; simp at hlen; omega)
 have st := xH (H := K ++ [.mk true 2 [.slc none 0, .slc none 0]]) (o := 0) (l := [d, a]) get_last (by simp) (by simp) (by simp [hoD, hoA])
 simp at st
 by_cases g0 : o.code = 0
 ·obtain ⟨k0, d', a', k1, k2⟩ := hok g0
  obtain ⟨_, _, hcs, hd2, ha2⟩ := pM.1 k2.at
  cases hcs
  have hoD' := hd2.one
  have hoA' := ha2.one
  have ld := nT (o := 0) (n := 2) k1 (by simp) (by decide) rfl
  simp at ld
  obtain ⟨T, rfl⟩ := hpre
  obtain ⟨T', q, rfl, hg, hfin⟩ := TOut.new k2
  obtain ⟨ot, oe, oc⟩ := o
  simp only at g0 c2 hfin k0
  subst g0 k0
  simp at c2
  simp [yP, Tryz.f115, c1, c2, hos, hoe, hoD, hoA, hoD', hoA', aV, st, ld, aW, ay, aH, hg]
  exact hfin
 ·have hgc : fB H G' (.agg [.slc none 0, .slc none 0, .slc none 0, .int .i64 o.code]) = H := by
   obtain ⟨T, rfl⟩ := hpre
   exact jA (by simp [eY, iD])
  have hfin : TOut H o (.agg [.slc none 0, .slc none 0, .slc none 0, .int .i64 o.code]) H := by
   have := TOut.ill (H := H) hwf
   rw [← hill g0] at this
   exact this
  simp at c2
  simp [yP, Tryz.f115, c1, c2, hos, hoe, hoD, hoA, aV, st, g0, aW, ay, aH, hgc]
  exact hfin
theorem Ak {G G' : List Ob} {r : V} (h : G'.length = G.length) : fB G G' r = G' := by
 unfold fB
 split
 ·rename_i hc
  obtain ⟨⟨T, rfl⟩, _⟩ := hc
  have : T = [] := List.length_eq_zero_iff.1 (by simp at h; simpa using h)
  rw [this, List.append_nil]
 ·rfl
theorem WG {G : List Ob} {v : V} {l : List PAttr} {F : List Nat} (h : AtF G (.slice shAttr) [v] (.lst (l.map PAttr.u)) F) (hn : F.Nodup) {i : Nat} (hi : i < l.length) (hl : l.length ≤ 1000000) :
  ∃ w G' F', callW C 342 [v, .int .i64 i, .int .i64 ((i : Int) + 1)] G = some (w, G') ∧ AtF G' (.slice shAttr) [w] (.lst ((l.take i ++ l.drop (i + 1)).map PAttr.u)) F' ∧ F'.Nodup ∧ (∀ q ∈ F', q ∈ F) ∧ (∀ q, q ∉ F → G'[q]? = G[q]?) ∧ G'.length = G.length ∧ aP w = true ∧ cellsOf w = some [w] := by
 obtain ⟨id, off, cells, xs, F', rfl, h2, h3, hxs, hxl, hxo, hidF, hF', hn', hsub⟩ := Uf h hn hi [.str [], .slc none 0] rfl
 have hsz : shAttr.size = 2 := rfl
 rw [hsz] at h2 h3 hxs hxl hF'
 have hid : id < G.length := (List.getElem?_eq_some_iff.1 h2).1
 obtain ⟨N1, hN1⟩ : ∃ N1, N1 = setRange cells (off + i * 2) xs := ⟨_, rfl⟩
 have hN1l : N1.length = cells.length := by rw [hN1, iq (by omega)]
 obtain ⟨N2, hN2⟩ : ∃ N2, N2 = setRange N1 (off + (l.length - 1) * 2) [.str [], .slc none 0] := ⟨_, rfl⟩
 rw [← hN1, ← hN2] at hF'
 suffices hs : Ret C 342 [.slc (some (id, off)) l.length, .int .i64 i, .int .i64 ((i : Int) + 1)] G fun q H' => q = .slc (some (id, off)) (l.length - 1) ∧ H' = G.set id (.mk true 2 N2) by
  obtain ⟨q, H', hc, rfl, rfl⟩ := hs
  exact ⟨_, _, F', hc, hF', hn', hsub, fun q hq => List.getElem?_set_ne fun e => hq (by rw [← e]; exact hidF), by simp, rfl, rfl⟩
 rw [agR]
 have hst : bF G id 2 = true := by unfold bF; rw [h2]; rfl
 have hi1 : ¬ ((i : Int) = (i : Int) + 1) := by omega
 have hil : (i : Int) ≤ l.length := by omega
 have hil1 : (i : Int) + 1 ≤ l.length := by omega
 have hG1 : (G.set id (.mk true 2 N1))[id]? = some (.mk true 2 N1) := List.getElem?_set_self hid
 have hst1 : bF (G.set id (.mk true 2 N1)) id 2 = true := by unfold bF; rw [hG1]; rfl
 have hre1 : reaches (G.set id (.mk true 2 N1)) id off 2 l.length = true := by unfold reaches; rw [hG1]; simp; omega
 have hap : bI ⟨.struct [(0, 9), (1, 30)], 2, 40, [.str [], .slc none 0]⟩ G (.slc (some (id, off)) i) (.slc (some (id, off + (i + 1) * 2)) (l.length - (i + 1))) = some (.slc (some (id, off)) (l.length - 1), G.set id (.mk true 2 N1)) := by
  have hnew : aU ⟨.struct [(0, 9), (1, 30)], 2, 40, [.str [], .slc none 0]⟩ G (.slc (some (id, off + (i + 1) * 2)) (l.length - (i + 1))) = some (xs, l.length - (i + 1)) := by
   simp only [aU, bH, h2]
   by_cases h0 : (l.length - (i + 1)) * 2 = 0
   ·rw [if_pos h0]
    have : xs = [] := List.length_eq_zero_iff.1 (by omega)
    rw [this]
   ·rw [if_neg h0]
    unfold eP
    rw [if_pos (by omega), ← hxs]
  unfold bI
  rw [if_pos (by simp [gW]), hnew]
  by_cases h0 : l.length - (i + 1) = 0
  ·have hx0 : xs = [] := List.length_eq_zero_iff.1 (by omega)
   have hn1 : N1 = cells := by rw [hN1, hx0, DL]
   have e1 : l.length - 1 = i := by omega
   simp only [h0, if_true]
   rw [e1, hn1]
   congr 2
   obtain ⟨_, h2'⟩ := List.getElem?_eq_some_iff.1 h2
   rw [← h2', List.set_getElem_self]
  ·simp only [h0, if_false, hxo, if_true, h2]
   rw [if_pos (by omega), ← hN1]
   congr 3
   omega
 have e3 : i + (l.length - (i + 1)) = l.length - 1 := by omega
 have hwr : ∀ r c, dV ⟨r, c, G.set id (.mk true 2 N1)⟩ (.hp id (off + (l.length - 1) * 2)) [.str [], .slc none 0] = some ⟨r, c, G.set id (.mk true 2 N2)⟩ := fun r c => by
  simp only [dV, hG1, List.length_cons, List.length_nil]
  rw [if_pos (by omega), List.set_set, hN2]
 have e4 : l.length - (l.length - 1) = 1 := by omega
 have e5 : ((l.length - 1 : Nat) : Int) ≤ l.length := by omega
 have h01 : (0 : Int) ≤ (i : Int) + 1 := by omega
 have hiN : i + 1 ≤ l.length := by omega
 have hiN' : i ≤ l.length := by omega
 have hgc : ∀ r, fB G (G.set id (.mk true 2 N2)) r = G.set id (.mk true 2 N2) := fun r => Ak (by simp)
 simp [Em, Tryz.f342, af, hi1, hil, hil1, hst, hap, hst1, hre1, hwr, e4, aJ, ax, hgc, h01, hiN, hiN']
theorem Gi {l : List PEntry} {key : Str} {i : Nat} {ok : Bool} (hp : l.Pairwise fun a b => keyE a < keyE b) (hlo : ∀ q a, q < i → l[q]? = some a → df (keyE a) key) (hhi : ∀ q a, i ≤ q → l[q]? = some a → ¬ df (keyE a) key) (hok : ok = true ↔ ∃ a, l[i]? = some a ∧ keyE a = key) :
  (ok = false → bT keyE l key = none) ∧ (ok = true → ∃ x, l[i]? = some x ∧ keyE x = key ∧ bT keyE l key = some x) := by
 refine ⟨fun h => uB fun y hy he => ?_, fun h => ?_⟩
 ·obtain ⟨j, hj, rfl⟩ := List.getElem_of_mem hy
  rcases Nat.lt_trichotomy j i with hh | hh | hh
  ·have := hlo j _ hh (List.getElem?_eq_getElem hj)
   rw [he] at this
   exact cZ _ this
  ·subst hh
   have := hok.2 ⟨_, List.getElem?_eq_getElem hj, he⟩
   rw [h] at this; cases this
  ·have h1 := hhi i _ (Nat.le_refl _) (List.getElem?_eq_getElem (by omega))
   have h2 := List.pairwise_iff_getElem.1 hp i j (by omega) hj hh
   rw [he] at h2
   exact h1 ((bD _ _).2 h2)
 ·obtain ⟨x, hx, he⟩ := hok.1 h
  exact ⟨x, hx, he, qI hp hx he⟩
end Go.Proofs.Try1
end
section
namespace Go.Proofs.Try1
open Go Go.Lite
attribute [-simp] jd mg
attribute [local simp] jM mY jF jI jD iU
attribute [local simp low] jE



theorem Df {n a b : Int} {H : List Ob} : callW C 178 [.int .i64 n, .int .i64 a, .int .i64 b] H = some (.bool (dec (a ≤ n ∧ n ≤ b)), H) := by
 apply Ret.dec
 rw [Vx]
 by_cases h1 : a ≤ n
 ·by_cases h2 : n ≤ b
  ·simp [qx, Tryz.f178, h1, h2]
  ·simp [qx, Tryz.f178, h1, h2]
 ·simp [qx, Tryz.f178, h1]
end Go.Proofs.Try1
end
