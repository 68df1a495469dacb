/- Part 11 of the proof of a law: the interpreter, its soundness, and what functions of the program compute over it. Conditions: none but those that each theorem names. -/
import Derived.Test.YtipjjjlomghdfaaGreatDoorS10
import Derived.Test.YtipjjjlomghdfaaGreatDoorS07
import Derived.Test.YtipjjjlomghdfaaGreatDoorS06
import Derived.Test.YtipjjjlomghdfaaGreatDoorS08

set_option linter.all false
set_option maxRecDepth 20000
set_option maxHeartbeats 40000000
section
namespace Go.Proofs.Try1
open Go Go.Lite
attribute [-simp] WP_region WP_cond
attribute [local simp] WP_regionF WP_condF ThenW_some ThenW_none CondW_true CondW_false
attribute [local simp low] CondW_bool
theorem gZ {H : List Ob} {c0 : List V} {u0 : U} {c1 : List V} {u1 : U}  {uR : U} (h0 : At H shFlow c0 u0) (h1 : At H shTree c1 u1)
  (hS : ∀ (G : List Ob) (x0 x1 : List V), At G shFlow x0 u0 → At G shTree x1 u1 → ∃ G' y, callW C 15 [valC shFlow x0, valC shTree x1] G = some (valC (.slice shWant) y, G') ∧ Le G G' ∧ At G' (.slice shWant) y uR)
  (hI : ∀ (G : List Ob) (x0 x1 : List V), At G shFlow x0 u0 → At G shTree x1 u1 → ∃ G' y, callW C 18 [valC shFlow x0, valC shTree x1] G = some (valC (.slice shWant) y, G') ∧ Le G G' ∧ New G.length G'.length G' (.slice shWant) y uR)
  (hR : 1 + cntV uR ≤ 50000000) : Ret C 4 [valC shFlow c0, valC shTree c1] H fun r _ => r = .bool true := by
 rw [SG]
 obtain ⟨c0_0, c0_1, c0_2, c0_3, c0_4, c0_5, rfl⟩ := list6 (At.len _ h0 : _ = 6)
 have on0 := ones_all h0
 simp only [List.mem_cons, List.not_mem_nil, or_false, forall_eq_or_imp, forall_eq] at on0
 obtain ⟨c1_0, c1_1, rfl⟩ := list2 (At.len _ h1 : _ = 2)
 have on1 := ones_all h1
 simp only [List.mem_cons, List.not_mem_nil, or_false, forall_eq_or_imp, forall_eq] at on1
 simp only [valC, List.headD_cons]
 have b0 := BD H [c0_0, c0_1, c0_2, c0_3, c0_4, c0_5] _ (1048576) h0 (by omega)
 simp only [valC, List.headD_cons] at b0
 by_cases g0 : wt u0 ≤ 1048576
 rotate_left
 ·rw [if_neg g0] at b0
  simp at b0
  simp [tq, Tryz.f4, on0, on1, b0]
 rw [if_pos g0] at b0
 have hw0 : wt u0 ≤ 1048576 := by omega
 have p0 : ¬ (((1048576 - wt u0 : Nat) : Int) < 0) := by omega
 obtain ⟨LL0, hLL0⟩ : ∃ n, n = 1048576 - wt u0 := ⟨_, rfl⟩
 rw [← hLL0] at b0 p0
 have q0 : LL0 + wt u0 = 1048576 := by omega
 have b1 := BN H [c1_0, c1_1] _ (LL0) h1 (by omega)
 simp only [valC, List.headD_cons] at b1
 by_cases g1 : wt u1 ≤ LL0
 rotate_left
 ·rw [if_neg g1] at b1
  simp at b0 b1
  simp [tq, Tryz.f4, on0, on1, b0, p0, b1]
 rw [if_pos g1] at b1
 have hw1 : wt u1 ≤ 1048576 := by omega
 have p1 : ¬ (((LL0 - wt u1 : Nat) : Int) < 0) := by omega
 obtain ⟨LL1, hLL1⟩ : ∃ n, n = LL0 - wt u1 := ⟨_, rfl⟩
 rw [← hLL1] at b1 p1
 have q1 : LL1 + wt u1 = LL0 := by omega
 have L0 : Le H H := Le.refl
 obtain ⟨G1, y0, k1, s1, n1⟩ := toN jV (h0.Le L0) hw0
 have l1 := s1.len
 have L1 := L0.trans s1
 obtain ⟨y0_0, y0_1, y0_2, y0_3, y0_4, y0_5, rfl⟩ := list6 (At.len _ n1.at : _ = 6)
 have o1 := ones_all n1.at
 simp only [List.mem_cons, List.not_mem_nil, or_false, forall_eq_or_imp, forall_eq] at o1
 simp only [valC, List.headD_cons] at k1
 obtain ⟨G2, y1, k2, s2, n2⟩ := toN ku (h1.Le L1) hw1
 have l2 := s2.len
 have L2 := L1.trans s2
 obtain ⟨y1_0, y1_1, rfl⟩ := list2 (At.len _ n2.at : _ = 2)
 have o2 := ones_all n2.at
 simp only [List.mem_cons, List.not_mem_nil, or_false, forall_eq_or_imp, forall_eq] at o2
 simp only [valC, List.headD_cons] at k2
 obtain ⟨G3, w, k3, s3, n3⟩ := hS _ [y0_0, y0_1, y0_2, y0_3, y0_4, y0_5] [y1_0, y1_1] (n1.at.Le s2) (n2.at.Le Le.refl)
 have l3 := s3.len
 have L3 := L2.trans s3
 obtain ⟨w_0, rfl⟩ := list1 (At.len _ n3 : _ = 1)
 have o3 := ones_all n3
 simp only [List.mem_cons, List.not_mem_nil, or_false, forall_eq_or_imp, forall_eq] at o3
 simp only [valC, List.headD_cons] at k3
 obtain ⟨G4, z0, k4, s4, n4⟩ := toN jV (h0.Le L3) hw0
 have l4 := s4.len
 have L4 := L3.trans s4
 obtain ⟨z0_0, z0_1, z0_2, z0_3, z0_4, z0_5, rfl⟩ := list6 (At.len _ n4.at : _ = 6)
 have o4 := ones_all n4.at
 simp only [List.mem_cons, List.not_mem_nil, or_false, forall_eq_or_imp, forall_eq] at o4
 simp only [valC, List.headD_cons] at k4
 obtain ⟨G5, z1, k5, s5, n5⟩ := toN ku (h1.Le L4) hw1
 have l5 := s5.len
 have L5 := L4.trans s5
 obtain ⟨z1_0, z1_1, rfl⟩ := list2 (At.len _ n5.at : _ = 2)
 have o5 := ones_all n5.at
 simp only [List.mem_cons, List.not_mem_nil, or_false, forall_eq_or_imp, forall_eq] at o5
 simp only [valC, List.headD_cons] at k5
 obtain ⟨G6, g, k6, s6, n6⟩ := hI _ [z0_0, z0_1, z0_2, z0_3, z0_4, z0_5] [z1_0, z1_1] (n4.at.Le s5) (n5.at.Le Le.refl)
 have l6 := s6.len
 have L6 := L5.trans s6
 obtain ⟨g_0, rfl⟩ := list1 (At.len _ n6.at : _ = 1)
 have o6 := ones_all n6.at
 simp only [List.mem_cons, List.not_mem_nil, or_false, forall_eq_or_imp, forall_eq] at o6
 simp only [valC, List.headD_cons] at k6
 have k7 := eqN lu n6.at (n3.Le (Le.trans (Le.trans s4 s5) s6))
 simp only [valC, List.headD_cons] at k7
 obtain ⟨G7, v0, k8, s7, n7⟩ := toN jV (h0.Le L6) hw0
 have l7 := s7.len
 have L7 := L6.trans s7
 obtain ⟨v0_0, v0_1, v0_2, v0_3, v0_4, v0_5, rfl⟩ := list6 (At.len _ n7.at : _ = 6)
 have o7 := ones_all n7.at
 simp only [List.mem_cons, List.not_mem_nil, or_false, forall_eq_or_imp, forall_eq] at o7
 simp only [valC, List.headD_cons] at k8
 have k9 := eqN Ai (n4.at.Le (Le.trans (Le.trans s5 s6) s7)) n7.at
 simp only [valC, List.headD_cons] at k9
 obtain ⟨G8, v1, k10, s8, n8⟩ := toN ku (h1.Le L7) hw1
 have l8 := s8.len
 have L8 := L7.trans s8
 obtain ⟨v1_0, v1_1, rfl⟩ := list2 (At.len _ n8.at : _ = 2)
 have o8 := ones_all n8.at
 simp only [List.mem_cons, List.not_mem_nil, or_false, forall_eq_or_imp, forall_eq] at o8
 simp only [valC, List.headD_cons] at k10
 have k11 := eqN Bv (n5.at.Le (Le.trans (Le.trans s6 s7) s8)) n8.at
 simp only [valC, List.headD_cons] at k11
 have hsum : wt u0 + wt u1 ≤ 1048576 := by omega
 have cb0 := cntV_bound h0 40 (by decide)
 have cb1 := cntV_bound h1 40 (by decide)
 have m4 := n4.Le (Le.trans (Le.trans (Le.trans s5 s6) s7) s8)
 have m5 := n5.Le (Le.trans (Le.trans s6 s7) s8)
 have mR := n6.Le (Le.trans s7 s8)
 obtain ⟨M0, k12, ml0, mf0, mn0⟩ := RG (k := 1) BB m4 (by omega)
 simp only [valC, List.headD_cons] at k12
 have m5 := New.frame (G' := M0) m5 (fun q h1 h2 => mf0 q (by omega))
 have mR := New.frame (G' := M0) mR (fun q h1 h2 => mf0 q (by omega))
 obtain ⟨K0, hK0⟩ : ∃ n, n = 1 + cntV u0 := ⟨_, rfl⟩
 rw [← hK0] at k12
 obtain ⟨M1, k13, ml1, mf1, mn1⟩ := RG (k := K0) BU m5 (by omega)
 simp only [valC, List.headD_cons] at k13
 have mR := New.frame (G' := M1) mR (fun q h1 h2 => mf1 q (by omega))
 obtain ⟨K1, hK1⟩ : ∃ n, n = K0 + cntV u1 := ⟨_, rfl⟩
 rw [← hK1] at k13
 have hKb : K1 ≤ 50000000 := by omega
 have pK : ¬ ((K1 : Int) < 0) := by omega
 have upS : Up G3 M1 := fun q o hq => by
  have hql := (List.getElem?_eq_some_iff.1 hq).1
  rw [mf1 q (.inl (by omega)), mf0 q (.inl (by omega))]
  exact ((Le.trans (Le.trans (Le.trans (Le.trans s4 s5) s6) s7) s8) : Le _ _).up q o hq
 have k14 := eqN lu mR.at (n3.Up upS)
 simp only [valC, List.headD_cons] at k14
 obtain ⟨Q, k15, ql, qf, qn⟩ := RG (k := 1) zY mR hR
 simp only [valC, List.headD_cons] at k15
 have upQ : Up G3 Q := fun q o hq => by
  have hql := (List.getElem?_eq_some_iff.1 hq).1
  rw [qf q (.inl (by omega))]
  exact upS q o hq
 have upH : Up H Q := L3.up.trans upQ
 have k16 := lC Q [g_0] _ 1 qn.at hR
 simp only [valC, List.headD_cons] at k16
 have R0 : Le Q Q := Le.refl
 have L9 := R0
 obtain ⟨G10, zz0, k17, s10, n10⟩ := toN jV ((h0.Up upH).Le L9) hw0
 have l10 := s10.len
 have L10 := L9.trans s10
 obtain ⟨zz0_0, zz0_1, zz0_2, zz0_3, zz0_4, zz0_5, rfl⟩ := list6 (At.len _ n10.at : _ = 6)
 have o10 := ones_all n10.at
 simp only [List.mem_cons, List.not_mem_nil, or_false, forall_eq_or_imp, forall_eq] at o10
 simp only [valC, List.headD_cons] at k17
 obtain ⟨G11, zz1, k18, s11, n11⟩ := toN ku ((h1.Up upH).Le L10) hw1
 have l11 := s11.len
 have L11 := L10.trans s11
 obtain ⟨zz1_0, zz1_1, rfl⟩ := list2 (At.len _ n11.at : _ = 2)
 have o11 := ones_all n11.at
 simp only [List.mem_cons, List.not_mem_nil, or_false, forall_eq_or_imp, forall_eq] at o11
 simp only [valC, List.headD_cons] at k18
 obtain ⟨G12, gg, k19, s12, n12⟩ := hI _ [zz0_0, zz0_1, zz0_2, zz0_3, zz0_4, zz0_5] [zz1_0, zz1_1] (n10.at.Le s11) (n11.at.Le Le.refl)
 have l12 := s12.len
 have L12 := L11.trans s12
 obtain ⟨gg_0, rfl⟩ := list1 (At.len _ n12.at : _ = 1)
 have o12 := ones_all n12.at
 simp only [List.mem_cons, List.not_mem_nil, or_false, forall_eq_or_imp, forall_eq] at o12
 simp only [valC, List.headD_cons] at k19
 have k20 := eqN lu n12.at ((n3.Up upQ).Le L12)
 simp only [valC, List.headD_cons] at k20
 have k21 := lC G12 [g_0] _ 1 (qn.at.Le L12) hR
 simp only [valC, List.headD_cons] at k21
 obtain ⟨KR, hKR⟩ : ∃ n, n = 1 + cntV uR := ⟨_, rfl⟩
 rw [← hKR] at k15
 rw [← hKR] at k16
 rw [← hKR] at k21
 have pR : ¬ ((KR : Int) < 0) := by omega
 clear upS upQ upH
 simp at b0 k12 k15 k16 k21
 simp (maxSteps := 2000000) [tq, Tryz.f4, on0, on1, b0, p0, b1, p1, k1, o1, k2, o2, k3, o3, k4, o4, k5, o5, k6, o6, k7, k8, o7, k9, k10, o8, k11, k12, k13, pK, k14, k15, k16, k17, o10, k18, o11, k19, o12, k20, k21, pR, regionL_none, regionL_some, List.lookup]
end Go.Proofs.Try1
end
section
namespace Go.Proofs.Try1
open Go Go.Lite
theorem jB {t : Str} {H : List Ob} (ht : t.length ≤ 1000) : callW C 263 [.str t] H = some (.bool (dec (Plain t)), H) := by
 apply Ret.dec
 rw [zo]
 simp [dP, Tryz.f263]
 refine WP_loop (fun k σ => ∃ (i : Nat) (r : Nat → R), i + k = t.length ∧ σ = ⟨r, 0, H⟩ ∧ r 0 = .val (.str t) ∧ r 3 = .val (.int .i64 i) ∧ ∀ j, j < i → ∀ c, t[j]? = some c → PlainB c) ?_ t.length _ ⟨0, _, by simp, rfl, by simp, by simp, by simp⟩
 rintro k σ ⟨i, r, hik, rfl, r0, r3, hall⟩
 cases k with
 | zero =>
  have hi : i = t.length := by omega
  subst hi
  simp [r0, r3]
  intro j c hc
  exact hall j (List.getElem?_eq_some_iff.1 hc).1 c hc
 | succ k =>
  have hi : i < t.length := by omega
  obtain ⟨c, hc⟩ : ∃ c, t[i]? = some c := ⟨t[i], by simp [hi]⟩
  have hc' : t[i] = c := (List.getElem?_eq_some_iff.1 hc).2
  have hw : IntKind.i64.wrap ((i : Int) + 1) = ((i : Int) + 1) := wrap_i64 (by omega) (by omega)
  by_cases h1 : (c.toNat : Int) < 32
  ·simp [r0, r3, hi, hc', h1]
   intro hp
   have := (hp i c hc).1
   omega
  ·by_cases h2 : (c.toNat : Int) > 126
   ·simp [r0, r3, hi, hc', h1, h2]
    intro hp
    have := (hp i c hc).2
    omega
   ·simp [r0, r3, hi, hc', h1, h2, hw]
    exact ⟨k, by omega, i + 1, by omega, by omega, all_step (P := fun _ c => PlainB c) hall hc ⟨by omega, by omega⟩⟩
theorem kE {t : Str} {H : List Ob} (ht : t.length ≤ 1000) : callW C 271 [.str t] H = some (.bool (dec (Plain t)), H) := by
 apply Ret.dec
 rw [zn]
 simp [dV, Tryz.f271]
 refine WP_loop (fun k σ => ∃ (i : Nat) (r : Nat → R), i + k = t.length ∧ σ = ⟨r, 0, H⟩ ∧ r 0 = .val (.str t) ∧ r 5 = .val (.int .i64 t.length) ∧ r 6 = .val (.int .i64 i) ∧ ∀ j, j < i → ∀ c, t[j]? = some c → PlainB c) ?_ t.length _ ⟨0, _, by simp, rfl, by simp, by simp, by simp, by simp⟩
 rintro k σ ⟨i, r, hik, rfl, r0, r5, r6, hall⟩
 cases k with
 | zero =>
  have hi : i = t.length := by omega
  subst hi
  simp [r0, r5, r6]
  intro j c hc
  exact hall j (List.getElem?_eq_some_iff.1 hc).1 c hc
 | succ k =>
  have hi : i < t.length := by omega
  obtain ⟨c, hc⟩ : ∃ c, t[i]? = some c := ⟨t[i], by simp [hi]⟩
  have hc' : t[i] = c := (List.getElem?_eq_some_iff.1 hc).2
  have hw : IntKind.i64.wrap ((i : Int) + 1) = ((i : Int) + 1) := wrap_i64 (by omega) (by omega)
  by_cases h1 : (c.toNat : Int) < 32
  ·simp [r0, r5, r6, hi, hc', h1]
   intro hp
   have := (hp i c hc).1
   omega
  ·by_cases h2 : (c.toNat : Int) > 126
   ·simp [r0, r5, r6, hi, hc', h1, h2]
    intro hp
    have := (hp i c hc).2
    omega
   ·simp [r0, r5, r6, hi, hc', h1, h2, hw]
    exact ⟨k, by omega, i + 1, by omega, by omega, all_step (P := fun _ c => PlainB c) hall hc ⟨by omega, by omega⟩⟩
theorem gp {t : Str} {H : List Ob} : callW C 44 [.str t] H = some (.bool (dec (NameOk t)), H) := by
 apply Ret.dec
 rw [EU]
 by_cases g1 : (t.length : Int) < 1
 ·have g2 : ¬ NameOk t := fun h => by have := h.1; omega
  simp [bV, Tryz.f44, g1, g2]
 by_cases g2 : (t.length : Int) > 20
 ·have g3 : ¬ NameOk t := fun h => by have := h.2.1; omega
  simp [bV, Tryz.f44, g1, g2, g3]
 simp [bV, Tryz.f44, g1, g2]
 refine WP_loop (fun k σ => ∃ (i : Nat) (r : Nat → R), i + k = t.length ∧ σ = ⟨r, 0, H⟩ ∧ r 0 = .val (.str t) ∧ r 3 = .val (.int .i64 i) ∧ ∀ j, j < i → ∀ c, t[j]? = some c → LowB c ∨ (0 < j ∧ (DigB c ∨ c.toNat = 95))) ?_ t.length _ ⟨0, _, by simp, rfl, by simp, by simp, by simp⟩
 rintro k σ ⟨i, r, hik, rfl, r0, r3, hall⟩
 cases k with
 | zero =>
  have hi : i = t.length := by omega
  subst hi
  have hok : NameOk t := ⟨by omega, by omega, fun j c hc => hall j (List.getElem?_eq_some_iff.1 hc).1 c hc⟩
  simp [r0, r3, hok]
 | succ k =>
  have hi : i < t.length := by omega
  obtain ⟨c, hc⟩ : ∃ c, t[i]? = some c := ⟨t[i], by simp [hi]⟩
  have hc' : t[i] = c := (List.getElem?_eq_some_iff.1 hc).2
  have hw : IntKind.i64.wrap ((i : Int) + 1) = ((i : Int) + 1) := wrap_i64 (by omega) (by omega)
  have hgo : LowB c ∨ (0 < i ∧ (DigB c ∨ c.toNat = 95)) → ∃ k', k' < k + 1 ∧ ∃ i', i' + k' = t.length ∧ (i : Int) + 1 = i' ∧ ∀ j, j < i' → ∀ c, t[j]? = some c → LowB c ∨ (0 < j ∧ (DigB c ∨ c.toNat = 95)) := fun h =>
   ⟨k, by omega, i + 1, by omega, by omega, all_step (P := fun j c => LowB c ∨ (0 < j ∧ (DigB c ∨ c.toNat = 95))) hall hc h⟩
  by_cases h1 : LowB c
  ·have h1a : (c.toNat : Int) ≥ 97 := by have := h1.1; omega
   have h1b : (c.toNat : Int) ≤ 122 := by have := h1.2; omega
   simp [r0, r3, hi, hc', h1a, h1b, hw]
   exact hgo (.inl h1)
  have hl : (¬ (c.toNat : Int) ≥ 97) ∨ ((c.toNat : Int) ≥ 97 ∧ ¬ (c.toNat : Int) ≤ 122) := by unfold LowB at h1; omega
  have hno : ¬ (0 < i ∧ (DigB c ∨ c.toNat = 95)) → ¬ NameOk t := fun h hk => (hk.2.2 i c hc).elim h1 h
  by_cases h2 : i = 0
  ·have hno := hno (by omega)
   subst h2
   rcases hl with hl | ⟨hl, hl2⟩
   ·simp [r0, r3, hi, hc', hl, hno]
   ·simp [r0, r3, hi, hc', hl, hl2, hno]
  have h2' : ¬ (i : Int) = 0 := by omega
  by_cases h3 : DigB c
  ·have h3a : (c.toNat : Int) ≥ 48 := by have := h3.1; omega
   have h3b : (c.toNat : Int) ≤ 57 := by have := h3.2; omega
   have h3c : ¬ (c.toNat : Int) ≥ 97 := by omega
   simp [r0, r3, hi, hc', h2, h3a, h3b, h3c, hw]
   exact hgo (.inr ⟨by omega, .inl h3⟩)
  have hd : (¬ (c.toNat : Int) ≥ 48) ∨ ((c.toNat : Int) ≥ 48 ∧ ¬ (c.toNat : Int) ≤ 57) := by unfold DigB at h3; omega
  by_cases h4 : c.toNat = 95
  ·have := hgo (.inr ⟨by omega, .inr h4⟩)
   simp [r0, r3, hi, hc', h2, h4, hw]
   exact this
  ·have h4' : ¬ (c.toNat : Int) = 95 := by omega
   have hno := hno (fun h => h.2.elim h3 h4)
   rcases hl with hl | ⟨hl, hl2⟩ <;> rcases hd with hd | ⟨hd, hd2⟩
   ·simp [r0, r3, hi, hc', h2, h4', hl, hd, hno]
   ·simp [r0, r3, hi, hc', h2, h4', hl, hd, hd2, hno]
   ·simp [r0, r3, hi, hc', h2, h4', hl, hl2, hd, hno]
   ·simp [r0, r3, hi, hc', h2, h4', hl, hl2, hd, hd2, hno]
theorem dZ {c : UInt8} (h1 : 65 ≤ c.toNat) (h2 : c.toNat ≤ 90) : IntKind.u8.wrap ((c.toNat : Int) + 32) = ((lowC c).toNat : Int) := by
 have : lowC c = c + 32 := by unfold lowC; rw [if_pos ⟨h1, h2⟩]
 rw [this]
 unfold IntKind.wrap
 simp [IntKind.bits, IntKind.signed, UInt8.toNat_add]
theorem dI {c : UInt8} (h1 : 65 ≤ c.toNat) (h2 : c.toNat ≤ 90) : (lowC c).toNat = c.toNat + 32 := by
 have : lowC c = c + 32 := by unfold lowC; rw [if_pos ⟨h1, h2⟩]
 rw [this, UInt8.toNat_add]
 have : c.toNat + 32 < 256 := by omega
 simp
 omega
theorem eG {c : UInt8} (h : ¬ (65 ≤ c.toNat ∧ c.toNat ≤ 90)) : lowC c = c := by unfold lowC; rw [if_neg h]
theorem cu {c : UInt8} : c = 32 ↔ c.toNat = 32 := ⟨fun h => by rw [h]; rfl, fun h => UInt8.toNat_inj.1 h⟩
theorem bZ {t : Str} {i : Nat} {c : UInt8} (h : t[i]? = some c) (f : Str → UInt8 → Str) (b : Str) : (t.take (i + 1)).foldl f b = f ((t.take i).foldl f b) c := by
 rw [take_get h, List.foldl_append]
 rfl
theorem ak {b : Str} {d : UInt8} (h : b.getLast? = some d) : endSp b = true ↔ d = 32 := by
 unfold endSp
 rw [h]
 simp
theorem bn {b : Str} (h : b ≠ []) : ∃ d, b.getLast? = some d := ⟨b.getLast h, List.getLast?_eq_some_getLast h⟩
theorem cZ {t : Str} {H : List Ob} : callW C 186 [.str t] H = some (.str (norm t), H) := by
 apply Ret.eq
 rw [yx]
 by_cases g1 : (t.length : Int) > 100
 ·have : norm t = [] := by unfold norm; rw [if_neg (by omega)]
  simp [bf, Tryz.f186, g1, this]
 have hp := jB (t := t) (H := H) (by omega)
 by_cases g2 : Plain t
 rotate_left
 ·rw [dec_neg g2] at hp
  have : norm t = [] := by unfold norm; rw [dec_neg g2]; simp
  simp [bf, Tryz.f186, g1, hp, this]
 rw [dec_pos g2] at hp
 have hn : norm t = nfin (t.foldl nstep []) := by unfold norm; rw [if_pos ⟨by omega, dec_pos g2⟩]
 have hbz : ∀ i, ((t.take i).foldl nstep []).length ≤ 100 := fun i => by
  have := foldl_len (t.take i) []
  simp at this
  omega
 simp [bf, Tryz.f186, g1, hp, elemT, fillL, zerosL, St.new]
 refine WP_loop (fun k σ => ∃ (i : Nat) (r : Nat → R) (G : List Ob) (v : V), i + k = t.length ∧ σ = ⟨r, 0, G⟩ ∧ r 0 = .val (.str t) ∧ r 3 = .val v ∧ r 4 = .val (.int .i64 i) ∧ Bs H G v ((t.take i).foldl nstep [])) ?_ t.length _ ⟨0, _, _, _, by simp, rfl, by simp, by simp, by simp, Bs.init⟩
 rintro k σ ⟨i, r, G, v, hik, rfl, r0, r3, r4, hB⟩
 have hbl := hbz i
 generalize hb : (t.take i).foldl nstep [] = b at hB hbl
 have hw1 : IntKind.i64.wrap ((b.length : Int) - 1) = (b.length : Int) - 1 := wrap_i64 (by omega) (by omega)
 cases k with
 | zero =>
  have hi : i = t.length := by omega
  subst hi
  rw [List.take_length] at hb
  rw [hb] at hn
  obtain ⟨TT, rfl⟩ := hB.ext
  by_cases hb0 : b = []
  ·subst hb0
   obtain ⟨id, rfl, hst, hsl⟩ := hB.cut (n := 0) (Nat.le_refl _)
   simp [r0, r3, r4, hsl, isByte, bys_mapM, hn, nfin, endSp]
  ·obtain ⟨d, hd⟩ := bn hb0
   have hb1 : 0 < b.length := List.length_pos_iff.2 hb0
   have hb2 : 0 < (b.length : Int) := by omega
   have hb3 : (1 : Int) ≤ (b.length : Int) := by omega
   have hb5 : (b.length : Int) - 1 < (b.length : Int) := by omega
   have hb4 : ((b.length : Int) - 1).toNat = b.length - 1 := by omega
   obtain ⟨id, rfl, hld⟩ := hB.last hd
   by_cases hd32 : d = 32
   ·obtain ⟨_, hv, hst, hsl⟩ := hB.cut (n := b.length - 1) (by omega)
    cases hv
    have he : nfin b = b.take (b.length - 1) := by unfold nfin; rw [if_pos ((ak hd).2 hd32), List.dropLast_eq_take]
    have hd' : (d.toNat : Int) = 32 := by rw [hd32]; rfl
    simp [r0, r3, r4, hb0, hb1, hb2, hb3, hb4, hb5, hw1, hld, hd', hst, hsl, isByte, bys_mapM, hn, he]
   ·obtain ⟨_, hv, hst, hsl⟩ := hB.cut (n := b.length) (Nat.le_refl _)
    cases hv
    have he : nfin b = b := by unfold nfin; rw [if_neg (fun h => hd32 ((ak hd).1 h))]
    have hd' : ¬ (d.toNat : Int) = 32 := by have := mt cu.2 hd32; omega
    rw [List.take_length] at hsl
    simp [r0, r3, r4, hb0, hb1, hb2, hb3, hb4, hb5, hw1, hld, hd', hst, hsl, isByte, bys_mapM, hn, he]
 | succ k =>
  have hi : i < t.length := by omega
  obtain ⟨c, hc⟩ : ∃ c, t[i]? = some c := ⟨t[i], by simp [hi]⟩
  have hc' : t[i] = c := (List.getElem?_eq_some_iff.1 hc).2
  have hw : IntKind.i64.wrap ((i : Int) + 1) = ((i : Int) + 1) := wrap_i64 (by omega) (by omega)
  have hfs := bZ hc nstep []
  rw [hb] at hfs
  have hgo : ∀ G' v', Bs H G' v' (nstep b c) → ∃ k', k' < k + 1 ∧ ∃ i', i' + k' = t.length ∧ (i : Int) + 1 = i' ∧ Bs H G' v' ((t.take i').foldl nstep []) := fun G' v' h =>
   ⟨k, by omega, i + 1, by omega, by omega, by rw [hfs]; exact h⟩
  by_cases hup : 65 ≤ c.toNat ∧ c.toNat ≤ 90
  ·have hu1 : (c.toNat : Int) ≥ 65 := by omega
   have hu2 : (c.toNat : Int) ≤ 90 := by omega
   have hlw := dZ hup.1 hup.2
   have hl32 : ¬ ((lowC c).toNat : Int) = 32 := by rw [dI hup.1 hup.2]; omega
   have hns : nstep b c = b ++ [lowC c] := by unfold nstep; rw [if_neg (fun h => hl32 (by rw [cu.1 h.1]; rfl))]
   obtain ⟨v', G', ha, hB'⟩ := hB.push (by omega) (c := lowC c) (d := .int .u8) (z := [.int .u8 0]) rfl
   rw [← hns] at hB'
   simp [r0, r3, r4, hi, hc', hu1, hu2, hlw, hl32, elemT, fillL, zerosL, St.new, badArg, ha, hw]
   obtain ⟨k', q1, i', q2, q3, q4⟩ := hgo G' v' hB'
   exact ⟨k', q1, i', q2, _, _, ⟨rfl, rfl⟩, by simp [r0], _, by simp [r3], by simp [q3], q4⟩
  have hlc := eG hup
  have hu : (¬ (c.toNat : Int) ≥ 65) ∨ ((c.toNat : Int) ≥ 65 ∧ ¬ (c.toNat : Int) ≤ 90) := by omega
  by_cases h32 : c = 32
  ·have h32' : (c.toNat : Int) = 32 := by rw [h32]; rfl
   have hu1 : ¬ (c.toNat : Int) ≥ 65 := by omega
   by_cases hb0 : b = []
   ·have hns : nstep b c = b := by unfold nstep; rw [if_pos ⟨by rw [hlc, h32], .inl hb0⟩]
    rw [hns] at hgo
    have hbl0 : b.length = 0 := by rw [hb0]; rfl
    have := hgo G v hB
    simp [r0, r3, r4, hi, hc', h32', hB.len, hbl0, hw]
    obtain ⟨k', q1, i', q2, q3, q4⟩ := this
    exact ⟨k', q1, i', q2, _, _, ⟨rfl, rfl⟩, by simp [r0], _, by simp [r3], by simp [q3], q4⟩
   ·obtain ⟨d, hd⟩ := bn hb0
    have hb1 : 0 < b.length := List.length_pos_iff.2 hb0
    have hb3 : (1 : Int) ≤ (b.length : Int) := by omega
    have hb5 : (b.length : Int) - 1 < (b.length : Int) := by omega
    have hb4 : ((b.length : Int) - 1).toNat = b.length - 1 := by omega
    obtain ⟨id, hv, hld⟩ := hB.last hd
    have hB0 := hB
    subst hv
    by_cases hd32 : d = 32
    ·have hns : nstep b c = b := by unfold nstep; rw [if_pos ⟨by rw [hlc, h32], .inr ((ak hd).2 hd32)⟩]
     rw [hns] at hgo
     have hd' : (d.toNat : Int) = 32 := by rw [hd32]; rfl
     have := hgo G _ hB
     simp [r0, r3, r4, hi, hc', h32', hb0, hb1, hb3, hb4, hb5, hw1, hld, hd', hw]
     obtain ⟨k', q1, i', q2, q3, q4⟩ := this
     exact ⟨k', q1, i', q2, _, _, ⟨rfl, rfl⟩, by simp [r0], _, by simp [r3], by simp [q3], q4⟩
    ·have hns : nstep b c = b ++ [c] := by unfold nstep; rw [if_neg (fun h => h.2.elim hb0 (fun h => hd32 ((ak hd).1 h))), hlc]
     have hd' : ¬ (d.toNat : Int) = 32 := by have := mt cu.2 hd32; omega
     obtain ⟨v', G', ha, hB'⟩ := hB.push (by omega) (c := c) (d := .int .u8) (z := [.int .u8 0]) rfl
     rw [← hns] at hB'
     rw [h32'] at ha
     simp [r0, r3, r4, hi, hc', h32', hb0, hb1, hb3, hb4, hb5, hw1, hld, hd', elemT, fillL, zerosL, St.new, badArg, ha, hw]
     obtain ⟨k', q1, i', q2, q3, q4⟩ := hgo G' v' hB'
     exact ⟨k', q1, i', q2, _, _, ⟨rfl, rfl⟩, by simp [r0], _, by simp [r3], by simp [q3], q4⟩
  ·have h32' : ¬ (c.toNat : Int) = 32 := by have := mt cu.2 h32; omega
   have hns : nstep b c = b ++ [c] := by unfold nstep; rw [if_neg (fun h => h32 (hlc ▸ h.1)), hlc]
   obtain ⟨v', G', ha, hB'⟩ := hB.push (by omega) (c := c) (d := .int .u8) (z := [.int .u8 0]) rfl
   rw [← hns] at hB'
   have := hgo G' v' hB'
   rcases hu with hu | ⟨hu, hu2⟩
   ·simp [r0, r3, r4, hi, hc', hu, h32', elemT, fillL, zerosL, St.new, badArg, ha, hw]
    obtain ⟨k', q1, i', q2, q3, q4⟩ := this
    exact ⟨k', q1, i', q2, _, _, ⟨rfl, rfl⟩, by simp [r0], _, by simp [r3], by simp [q3], q4⟩
   ·simp [r0, r3, r4, hi, hc', hu, hu2, h32', elemT, fillL, zerosL, St.new, badArg, ha, hw]
    obtain ⟨k', q1, i', q2, q3, q4⟩ := this
    exact ⟨k', q1, i', q2, _, _, ⟨rfl, rfl⟩, by simp [r0], _, by simp [r3], by simp [q3], q4⟩
def au (s w : Str) : Prop := w.length ≤ s.length ∧ s.drop (s.length - w.length) = w
theorem hasSuffix {s w : Str} {H : List Ob} (hs : s.length ≤ 1000000) (hw : w.length ≤ 1000000) : callW C 336 [.str s, .str w] H = some (.bool (dec (au s w)), H) := by
 apply Ret.dec
 rw [yG]
 by_cases h1 : (s.length : Int) ≥ w.length
 ·have hw1 : IntKind.i64.wrap ((s.length : Int) - w.length) = (s.length : Int) - w.length := wrap_i64 (by omega) (by omega)
  have h2 : (w.length : Int) ≤ (s.length : Int) := h1
  have h3 : ((s.length : Int) - w.length).toNat = s.length - w.length := by omega
  have h4 : (0 : Int) ≤ (s.length : Int) - w.length := by omega
  have h5 : w.length ≤ s.length := by omega
  by_cases h6 : s.drop (s.length - w.length) = w
  ·have hn : au s w := ⟨h5, h6⟩
   simp [aZ, Tryz.f336, h1, h2, h3, h4, h5, hw1, h6, hn]
  ·have hn : ¬ au s w := fun h => h6 h.2
   simp [aZ, Tryz.f336, h1, h2, h3, h4, h5, hw1, h6, hn]
 ·have hn : ¬ au s w := fun h => h1 (by have := h.1; omega)
  simp [aZ, Tryz.f336, h1, hn]
noncomputable def aK (s w : Str) : Str := if dec (au s w) = true then s.take (s.length - w.length) else s
theorem fP {s w : Str} {H : List Ob} (hs : s.length ≤ 1000000) (hw : w.length ≤ 1000000) : callW C 315 [.str s, .str w] H = some (.str (aK s w), H) := by
 apply Ret.eq
 rw [yN]
 have hc := hasSuffix (H := H) hs hw
 by_cases h : au s w
 ·rw [dec_pos h] at hc
  have h0 := h.1
  have hw1 : IntKind.i64.wrap ((s.length : Int) - w.length) = (s.length : Int) - w.length := wrap_i64 (by omega) (by omega)
  have h2 : (w.length : Int) ≤ (s.length : Int) := by omega
  have h3 : ((s.length : Int) - w.length).toNat = s.length - w.length := by omega
  have ht : aK s w = s.take (s.length - w.length) := by unfold aK; rw [dec_pos h]; rfl
  simp [bI, Tryz.f315, hc, hw1, h2, h3, ht]
 ·rw [dec_neg h] at hc
  have ht : aK s w = s := by unfold aK; rw [dec_neg h]; rfl
  simp [bI, Tryz.f315, hc, ht]
theorem iy {s : Str} : aK s [32] = nfin s := by
 have he : au s [32] ↔ endSp s = true := by
  unfold au endSp
  cases hl : s.getLast? with
  | none =>
   have : s = [] := by simpa using hl
   subst this
   simp
  | some d =>
   have hne : s ≠ [] := by rintro rfl; simp at hl
   have h1 : 1 ≤ s.length := List.length_pos_iff.2 hne
   rw [List.getLast?_eq_getElem?] at hl
   have h2 : s.drop (s.length - 1) = [d] := by
    apply List.ext_getElem?
    intro j
    rw [List.getElem?_drop]
    cases j with
    | zero => simpa using hl
    | succ j => simp; omega
   simp [h1, h2]
 unfold aK nfin
 by_cases h : endSp s = true
 ·rw [dec_pos (he.2 h), if_pos rfl, if_pos h, List.dropLast_eq_take]
  rfl
 ·rw [dec_neg (mt he.1 h), if_neg (by simp), if_neg h]
theorem qI {s : Str} {H : List Ob} (hs : s.length ≤ 1000000) : callW C 272 [.str s, .str [32]] H = some (.str (nfin s), H) := by
 apply Ret.eq
 rw [Ac]
 have hc := fP (H := H) hs (w := [32]) (by simp)
 rw [iy] at hc
 simp [eY, Tryz.f272, hc]
theorem bu {t : Str} {H : List Ob} : callW C 199 [.str t] H = some (.str (norm t), H) := by
 apply Ret.eq
 rw [yR]
 by_cases g1 : (t.length : Int) > 100
 ·have : norm t = [] := by unfold norm; rw [if_neg (by omega)]
  simp [bg, Tryz.f199, g1, this]
 have hp := kE (t := t) (H := H) (by omega)
 by_cases g2 : Plain t
 rotate_left
 ·rw [dec_neg g2] at hp
  have : norm t = [] := by unfold norm; rw [dec_neg g2]; simp
  simp [bg, Tryz.f199, g1, hp, this]
 rw [dec_pos g2] at hp
 have hn : norm t = nfin (t.foldl nstep []) := by unfold norm; rw [if_pos ⟨by omega, dec_pos g2⟩]
 have hbz : ∀ i, ((t.take i).foldl nstep []).length ≤ 100 := fun i => by
  have := foldl_len (t.take i) []
  simp at this
  omega
 simp [bg, Tryz.f199, g1, hp, elemT, fillL, zerosL, St.new]
 refine WP_loop (fun k σ => ∃ (i : Nat) (r : Nat → R) (G : List Ob) (v : V), i + k = t.length ∧ σ = ⟨r, 0, G⟩ ∧ r 0 = .val (.str t) ∧ r 3 = .val v ∧ r 16 = .val (.int .i64 t.length) ∧ r 17 = .val (.int .i64 i) ∧ Bs H G v ((t.take i).foldl nstep [])) ?_ t.length _ ⟨0, _, _, _, by simp, rfl, by simp, by simp, by simp, by simp, Bs.init⟩
 rintro k σ ⟨i, r, G, v, hik, rfl, r0, r3, r16, r17, hB⟩
 have hbl := hbz i
 generalize hb : (t.take i).foldl nstep [] = b at hB hbl
 have hw1 : IntKind.i64.wrap ((b.length : Int) - 1) = (b.length : Int) - 1 := wrap_i64 (by omega) (by omega)
 cases k with
 | zero =>
  have hi : i = t.length := by omega
  subst hi
  rw [List.take_length] at hb
  rw [hb] at hn
  obtain ⟨TT, rfl⟩ := hB.ext
  obtain ⟨id, rfl, hst, hsl⟩ := hB.cut (n := b.length) (Nat.le_refl _)
  rw [List.take_length] at hsl
  have hts := qI (s := b) (H := H ++ TT) (by omega)
  simp [r0, r3, r16, r17, hsl, isByte, bys_mapM, hn, hts]
 | succ k =>
  have hi : i < t.length := by omega
  obtain ⟨c, hc⟩ : ∃ c, t[i]? = some c := ⟨t[i], by simp [hi]⟩
  have hc' : t[i] = c := (List.getElem?_eq_some_iff.1 hc).2
  have hw : IntKind.i64.wrap ((i : Int) + 1) = ((i : Int) + 1) := wrap_i64 (by omega) (by omega)
  have hfs := bZ hc nstep []
  rw [hb] at hfs
  have hgo : ∀ G' v', Bs H G' v' (nstep b c) → ∃ k', k' < k + 1 ∧ ∃ i', i' + k' = t.length ∧ (i : Int) + 1 = i' ∧ Bs H G' v' ((t.take i').foldl nstep []) := fun G' v' h =>
   ⟨k, by omega, i + 1, by omega, by omega, by rw [hfs]; exact h⟩
  by_cases hup : 65 ≤ c.toNat ∧ c.toNat ≤ 90
  ·have hu1 : (c.toNat : Int) ≥ 65 := by omega
   have hu2 : (c.toNat : Int) ≤ 90 := by omega
   have hlw := dZ hup.1 hup.2
   have hl32 : ¬ ((lowC c).toNat : Int) = 32 := by rw [dI hup.1 hup.2]; omega
   have hns : nstep b c = b ++ [lowC c] := by unfold nstep; rw [if_neg (fun h => hl32 (by rw [cu.1 h.1]; rfl))]
   obtain ⟨v', G', ha, hB'⟩ := hB.push (by omega) (c := lowC c) (d := .int .u8) (z := [.int .u8 0]) rfl
   rw [← hns] at hB'
   simp [r0, r3, r16, r17, hi, hc', hu1, hu2, hlw, hl32, elemT, fillL, zerosL, St.new, badArg, ha, hw]
   obtain ⟨k', q1, i', q2, q3, q4⟩ := hgo G' v' hB'
   exact ⟨k', q1, i', q2, _, _, ⟨rfl, rfl⟩, by simp [r0], _, by simp [r3], by simp [r16], by simp [q3], q4⟩
  have hlc := eG hup
  have hu : (¬ (c.toNat : Int) ≥ 65) ∨ ((c.toNat : Int) ≥ 65 ∧ ¬ (c.toNat : Int) ≤ 90) := by omega
  by_cases h32 : c = 32
  ·have h32' : (c.toNat : Int) = 32 := by rw [h32]; rfl
   have hu1 : ¬ (c.toNat : Int) ≥ 65 := by omega
   by_cases hb0 : b = []
   ·have hns : nstep b c = b := by unfold nstep; rw [if_pos ⟨by rw [hlc, h32], .inl hb0⟩]
    rw [hns] at hgo
    have hbl0 : b.length = 0 := by rw [hb0]; rfl
    simp [r0, r3, r16, r17, hi, hc', h32', hB.len, hbl0, hw]
    obtain ⟨k', q1, i', q2, q3, q4⟩ := hgo G v hB
    exact ⟨k', q1, i', q2, _, _, ⟨rfl, rfl⟩, by simp [r0], _, by simp [r3], by simp [r16], by simp [q3], q4⟩
   ·obtain ⟨d, hd⟩ := bn hb0
    have hb1 : 0 < b.length := List.length_pos_iff.2 hb0
    have hb3 : (1 : Int) ≤ (b.length : Int) := by omega
    have hb5 : (b.length : Int) - 1 < (b.length : Int) := by omega
    have hb4 : ((b.length : Int) - 1).toNat = b.length - 1 := by omega
    obtain ⟨id, hv, hld⟩ := hB.last hd
    subst hv
    by_cases hd32 : d = 32
    ·have hns : nstep b c = b := by unfold nstep; rw [if_pos ⟨by rw [hlc, h32], .inr ((ak hd).2 hd32)⟩]
     rw [hns] at hgo
     have hd' : (d.toNat : Int) = 32 := by rw [hd32]; rfl
     simp [r0, r3, r16, r17, hi, hc', h32', hb0, hb1, hb3, hb4, hb5, hw1, hld, hd', hw]
     obtain ⟨k', q1, i', q2, q3, q4⟩ := hgo G _ hB
     exact ⟨k', q1, i', q2, _, _, ⟨rfl, rfl⟩, by simp [r0], _, by simp [r3], by simp [r16], by simp [q3], q4⟩
    ·have hns : nstep b c = b ++ [c] := by unfold nstep; rw [if_neg (fun h => h.2.elim hb0 (fun h => hd32 ((ak hd).1 h))), hlc]
     have hd' : ¬ (d.toNat : Int) = 32 := by have := mt cu.2 hd32; omega
     obtain ⟨v', G', ha, hB'⟩ := hB.push (by omega) (c := c) (d := .int .u8) (z := [.int .u8 0]) rfl
     rw [← hns] at hB'
     rw [h32'] at ha
     simp [r0, r3, r16, r17, hi, hc', h32', hb0, hb1, hb3, hb4, hb5, hw1, hld, hd', elemT, fillL, zerosL, St.new, badArg, ha, hw]
     obtain ⟨k', q1, i', q2, q3, q4⟩ := hgo G' v' hB'
     exact ⟨k', q1, i', q2, _, _, ⟨rfl, rfl⟩, by simp [r0], _, by simp [r3], by simp [r16], by simp [q3], q4⟩
  ·have h32' : ¬ (c.toNat : Int) = 32 := by have := mt cu.2 h32; omega
   have hns : nstep b c = b ++ [c] := by unfold nstep; rw [if_neg (fun h => h32 (hlc ▸ h.1)), hlc]
   obtain ⟨v', G', ha, hB'⟩ := hB.push (by omega) (c := c) (d := .int .u8) (z := [.int .u8 0]) rfl
   rw [← hns] at hB'
   obtain ⟨k', q1, i', q2, q3, q4⟩ := hgo G' v' hB'
   rcases hu with hu | ⟨hu, hu2⟩
   ·simp [r0, r3, r16, r17, hi, hc', hu, h32', elemT, fillL, zerosL, St.new, badArg, ha, hw]
    exact ⟨k', q1, i', q2, _, _, ⟨rfl, rfl⟩, by simp [r0], _, by simp [r3], by simp [r16], by simp [q3], q4⟩
   ·simp [r0, r3, r16, r17, hi, hc', hu, hu2, h32', elemT, fillL, zerosL, St.new, badArg, ha, hw]
    exact ⟨k', q1, i', q2, _, _, ⟨rfl, rfl⟩, by simp [r0], _, by simp [r3], by simp [r16], by simp [q3], q4⟩
theorem iO {t : Str} {H : List Ob} : callW C 217 [.str t] H = some (.bool (dec (ValueOk t)), H) := by
 apply Ret.dec
 rw [zC]
 have hn := cZ (t := t) (H := H)
 by_cases g1 : (t.length : Int) ≥ 1
 ·by_cases g2 : (t.length : Int) ≤ 40
  ·by_cases g3 : norm t = []
   ·have hv : ¬ ValueOk t := fun h => h.2.2 g3
    simp [aU, Tryz.f217, g1, g2, hn, g3, hv]
   ·have hv : ValueOk t := ⟨by omega, by omega, g3⟩
    simp [aU, Tryz.f217, g1, g2, hn, g3, hv]
  ·have : ¬ ValueOk t := fun h => by have := h.2.1; omega
   simp [aU, Tryz.f217, g1, g2, this]
 ·have : ¬ ValueOk t := fun h => by have := h.1; omega
  simp [aU, Tryz.f217, g1, this]
theorem iF {t : Str} {H : List Ob} : callW C 293 [.str t] H = some (.bool (dec (ValueOk t)), H) := by
 apply Ret.dec
 rw [xh]
 have hn := bu (t := t) (H := H)
 by_cases g1 : (t.length : Int) ≥ 1
 ·by_cases g2 : (t.length : Int) ≤ 40
  ·by_cases g3 : norm t = []
   ·have hv : ¬ ValueOk t := fun h => h.2.2 g3
    simp [aS, Tryz.f293, g1, g2, hn, g3, hv]
   ·have hv : ValueOk t := ⟨by omega, by omega, g3⟩
    simp [aS, Tryz.f293, g1, g2, hn, g3, hv]
  ·have : ¬ ValueOk t := fun h => by have := h.2.1; omega
   simp [aS, Tryz.f293, g1, g2, this]
 ·have : ¬ ValueOk t := fun h => by have := h.1; omega
  simp [aS, Tryz.f293, g1, this]
theorem Bd {H : List Ob} {v : V} {l : List PRdn} (h : ARdns H v l) : callW C 129 [v] H = some (.bool (dec (DnOk l)), H) := by
 apply Ret.dec
 rw [IK]
 have hb : l.length ≤ 9223372036854775807 := h.bound
 simp [rH, Tryz.f129]
 refine WP_loop (fun k σ => ∃ (i : Nat) (r : Nat → R), i + k = l.length ∧ σ = ⟨r, 0, H⟩ ∧ r 0 = .val v ∧ r 3 = .val (.int .i64 i) ∧ ∀ j x, j < i → l[j]? = some x → NameOk x.attr ∧ ValueOk x.value) ?_ l.length _ ⟨0, _, by simp, rfl, by simp, by simp, by simp⟩
 rintro k σ ⟨i, r, hik, rfl, r0, r3, hall⟩
 cases k with
 | zero =>
  have hi : i = l.length := by omega
  subst hi
  have hx := at_all (P := fun j (x : PRdn) => NameOk x.attr ∧ ValueOk x.value) hall
  by_cases g : l.length ≤ 6
  ·have g' : (l.length : Int) ≤ 6 := by omega
   have hv : DnOk l := ⟨hx, g⟩
   simp [r0, r3, h.len, g', hv]
  ·have g' : ¬ (l.length : Int) ≤ 6 := by omega
   have hv : ¬ DnOk l := fun h => g h.2
   simp [r0, r3, h.len, g', hv]
 | succ k =>
  have hi : i < l.length := by omega
  obtain ⟨x, hx⟩ : ∃ c, l[i]? = some c := ⟨l[i], by simp [hi]⟩
  have hw : IntKind.i64.wrap ((i : Int) + 1) = ((i : Int) + 1) := wrap_i64 (by omega) (by omega)
  obtain ⟨id, o, e1, l0, l1, _, _⟩ := rdns_idx h hx
  have c1 := gp (t := x.attr) (H := H)
  by_cases g1 : NameOk x.attr
  ·rw [dec_pos g1] at c1
   have c2 := iO (t := x.value) (H := H)
   by_cases g2 : ValueOk x.value
   ·rw [dec_pos g2] at c2
    simp [r0, r3, hi, h.len, e1, l0, l1, c1, c2, hw]
    exact ⟨k, by omega, i + 1, by omega, by omega, at_step (P := fun j (x : PRdn) => NameOk x.attr ∧ ValueOk x.value) hall hx ⟨g1, g2⟩⟩
   ·rw [dec_neg g2] at c2
    have hn : ¬ DnOk l := fun hd => g2 (hd.1 i x hx).2
    simp [r0, r3, hi, h.len, e1, l0, l1, c1, c2, hn]
  ·rw [dec_neg g1] at c1
   have hn : ¬ DnOk l := fun hd => g1 (hd.1 i x hx).1
   simp [r0, r3, hi, h.len, e1, l0, l1, c1, hn]
theorem fQ {H : List Ob} {v : V} {l : List Str} {t : Str} (h : AStrs H v l) : callW C 132 [v, .str t] H = some (.bool (dec (t ∈ l)), H) := by
 apply Ret.dec
 rw [HY]
 have hb : l.length ≤ 9223372036854775807 := h.bound
 simp [rJ, Tryz.f132]
 refine WP_loop (fun k σ => ∃ (i : Nat) (r : Nat → R), i + k = l.length ∧ σ = ⟨r, 0, H⟩ ∧ r 0 = .val v ∧ r 1 = .val (.str t) ∧ r 5 = .val (.int .i64 i) ∧ ∀ j x, j < i → l[j]? = some x → x ≠ t) ?_ l.length _ ⟨0, _, by simp, rfl, by simp, by simp, by simp, by simp⟩
 rintro k σ ⟨i, r, hik, rfl, r0, r1, r5, hall⟩
 cases k with
 | zero =>
  have hi : i = l.length := by omega
  subst hi
  have hx := at_all (P := fun j (x : Str) => x ≠ t) hall
  have hn : t ∉ l := fun hm => by
   obtain ⟨j, hj, e⟩ := List.getElem_of_mem hm
   exact hx j _ (List.getElem?_eq_getElem hj) e
  simp [r0, r1, r5, h.len, hn]
 | succ k =>
  have hi : i < l.length := by omega
  obtain ⟨x, hx⟩ : ∃ c, l[i]? = some c := ⟨l[i], by simp [hi]⟩
  have hw : IntKind.i64.wrap ((i : Int) + 1) = ((i : Int) + 1) := wrap_i64 (by omega) (by omega)
  obtain ⟨id, o, e1, l0, _⟩ := strs_idx h hx
  by_cases g1 : x = t
  ·have hm : t ∈ l := g1 ▸ List.mem_of_getElem? hx
   subst g1
   simp [r0, r1, r5, hi, h.len, e1, l0, hm]
  ·simp [r0, r1, r5, hi, h.len, e1, l0, g1, hw]
   exact ⟨k, by omega, i + 1, by omega, by omega, at_step (P := fun j (x : Str) => x ≠ t) hall hx g1⟩
theorem JD {H : List Ob} {v v' : V} {l : List PAttr} {t : Str} (h : AAttrs H v l) (ho : cellsOf v' = some [v']) : ∃ r : Int, callW C 185 [.agg [v', v], .str t] H = some (.int .i64 r, H) ∧ FirstAt PAttr.name l t r := by
 suffices hs : Ret C 185 [.agg [v', v], .str t] H fun q H' => (∃ r : Int, q = .int .i64 r ∧ FirstAt PAttr.name l t r) ∧ H' = H by
  obtain ⟨q, H', hc, ⟨r, rfl, hr⟩, rfl⟩ := hs
  exact ⟨r, hc, hr⟩
 rw [GX]
 have hb : l.length ≤ 9223372036854775807 := h.bound
 simp [uU, Tryz.f185]
 refine WP_loop (fun k σ => ∃ (i : Nat) (r : Nat → R), i + k = l.length ∧ σ = ⟨r, 1, H⟩ ∧ r 1 = .val (.str t) ∧ r 2 = .box 0 [v', v] ∧ r 5 = .val (.int .i64 i) ∧ ∀ j x, j < i → l[j]? = some x → x.name ≠ t) ?_ l.length _ ⟨0, _, by simp, rfl, by simp, by simp, by simp, by simp⟩
 rintro k σ ⟨i, r, hik, rfl, r1, r2, r5, hall⟩
 cases k with
 | zero =>
  have hi : i = l.length := by omega
  subst hi
  have hx := at_all (P := fun j (x : PAttr) => x.name ≠ t) hall
  simp [r1, r2, r5, h.len]
  exact .inr ⟨hx, rfl⟩
 | succ k =>
  have hi : i < l.length := by omega
  obtain ⟨x, hx⟩ : ∃ c, l[i]? = some c := ⟨l[i], by simp [hi]⟩
  have hw : IntKind.i64.wrap ((i : Int) + 1) = ((i : Int) + 1) := wrap_i64 (by omega) (by omega)
  obtain ⟨id, o, w, e1, l0, l1, _⟩ := attrs_idx h hx
  by_cases g1 : x.name = t
  ·simp [r1, r2, r5, hi, h.len, e1, l0, g1]
   exact .inl ⟨i, x, hx, g1, hall, rfl⟩
  ·simp [r1, r2, r5, hi, h.len, e1, l0, g1, hw]
   exact ⟨k, by omega, i + 1, by omega, by omega, at_step (P := fun j (x : PAttr) => x.name ≠ t) hall hx g1⟩
theorem wR {H : List Ob} {v : V} {l : List PClass} {t : Str} (h : AClasses H v l) : ∃ r : Int, callW C 261 [v, .str t] H = some (.int .i64 r, H) ∧ FirstAt PClass.name l t r := by
 suffices hs : Ret C 261 [v, .str t] H fun q H' => (∃ r : Int, q = .int .i64 r ∧ FirstAt PClass.name l t r) ∧ H' = H by
  obtain ⟨q, H', hc, ⟨r, rfl, hr⟩, rfl⟩ := hs
  exact ⟨r, hc, hr⟩
 rw [FI]
 have hb : l.length ≤ 9223372036854775807 := h.bound
 simp [tZ, Tryz.f261]
 refine WP_loop (fun k σ => ∃ (i : Nat) (r : Nat → R), i + k = l.length ∧ σ = ⟨r, 0, H⟩ ∧ r 0 = .val v ∧ r 1 = .val (.str t) ∧ r 5 = .val (.int .i64 i) ∧ ∀ j x, j < i → l[j]? = some x → x.name ≠ t) ?_ l.length _ ⟨0, _, by simp, rfl, by simp, by simp, by simp, by simp⟩
 rintro k σ ⟨i, r, hik, rfl, r0, r1, r5, hall⟩
 cases k with
 | zero =>
  have hi : i = l.length := by omega
  subst hi
  have hx := at_all (P := fun j (x : PClass) => x.name ≠ t) hall
  simp [r0, r1, r5, h.len]
  exact .inr ⟨hx, rfl⟩
 | succ k =>
  have hi : i < l.length := by omega
  obtain ⟨x, hx⟩ : ∃ c, l[i]? = some c := ⟨l[i], by simp [hi]⟩
  have hw : IntKind.i64.wrap ((i : Int) + 1) = ((i : Int) + 1) := wrap_i64 (by omega) (by omega)
  obtain ⟨id, o, w1, w2, w3, e1, l0, _⟩ := classes_idx h hx
  by_cases g1 : x.name = t
  ·simp [r0, r1, r5, hi, h.len, e1, l0, g1]
   exact .inl ⟨i, x, hx, g1, hall, rfl⟩
  ·simp [r0, r1, r5, hi, h.len, e1, l0, g1, hw]
   exact ⟨k, by omega, i + 1, by omega, by omega, at_step (P := fun j (x : PClass) => x.name ≠ t) hall hx g1⟩
theorem BR {H : List Ob} {v v' : V} {l : List PAttr} {t : Str} (h : AAttrs H v l) (ho : cellsOf v' = some [v']) (ho' : isOne v' = true) : ∃ w, callW C 260 [.agg [v', v], .str t] H = some (w, H) ∧ AStrs H w (valsOf l t) := by
 obtain ⟨r, hc, hr⟩ := JD (t := t) h ho
 suffices hs : Ret C 260 [.agg [v', v], .str t] H fun q H' => AStrs H q (valsOf l t) ∧ H' = H by
  obtain ⟨q, H', hc, hr, rfl⟩ := hs
  exact ⟨q, hc, hr⟩
 rw [Gj]
 rcases hr.pos with ⟨k, a, h1, rfl, h2⟩ | ⟨rfl, h2⟩
 ·obtain ⟨id, o, w, e1, l0, l1, _, hw, _⟩ := attrs_idx h h1
  have hv : valsOf l t = a.vals := by unfold valsOf; rw [h2]
  have hk : ¬ ((k : Int) < 0) := by omega
  simp [mW, Tryz.f260, hc, hk, e1, l1, hv]
  exact hw
 ·have hv : valsOf l t = [] := by unfold valsOf; rw [h2]
  simp [mW, Tryz.f260, hc, hv]
  exact At_slice.2 ⟨_, _, rfl, rfl, by simp, .inl ⟨rfl, rfl⟩⟩
end Go.Proofs.Try1
end
section
namespace Go.Proofs.Try1
open Go Go.Lite
attribute [-simp] WP_region WP_cond
attribute [local simp] WP_regionF WP_condF ThenW_some ThenW_none CondW_true CondW_false
attribute [local simp low] CondW_bool
theorem fB {c n : UInt8} (h : ¬ c = n) : ¬ ((c.toNat : Int) = (n.toNat : Int)) := fun e => h (UInt8.toNat_inj.1 (by omega))
theorem JB {t : Str} {i : Nat} {c : UInt8} {H : List Ob} (hc : t[i]? = some c) (hl : t.length ≤ 1000000) : callW C 321 [.str t, .int .i64 i] H = some (.bool (oddAt t i c), H) := by
 apply Ret.eq
 rw [Kv]
 obtain ⟨hi, hc'⟩ := List.getElem?_eq_some_iff.1 hc
 have hw : IntKind.i64.wrap ((t.length : Int) - 1) = (t.length : Int) - 1 := wrap_i64 (by omega) (by omega)
 by_cases h1 : c = 44
 ·subst h1; simp [aJ, Tryz.f321, hi, hc', oddAt, oddC]
 by_cases h2 : c = 43
 ·subst h2; simp [aJ, Tryz.f321, hi, hc', oddAt, oddC]
 by_cases h3 : c = 34
 ·subst h3; simp [aJ, Tryz.f321, hi, hc', oddAt, oddC]
 by_cases h4 : c = 92
 ·subst h4; simp [aJ, Tryz.f321, hi, hc', oddAt, oddC]
 by_cases h5 : c = 60
 ·subst h5; simp [aJ, Tryz.f321, hi, hc', oddAt, oddC]
 by_cases h6 : c = 62
 ·subst h6; simp [aJ, Tryz.f321, hi, hc', oddAt, oddC]
 by_cases h7 : c = 59
 ·subst h7; simp [aJ, Tryz.f321, hi, hc', oddAt, oddC]
 by_cases h8 : c = 61
 ·subst h8; simp [aJ, Tryz.f321, hi, hc', oddAt, oddC]
 have e1 := fB h1
 have e2 := fB h2
 have e3 := fB h3
 have e4 := fB h4
 have e5 := fB h5
 have e6 := fB h6
 have e7 := fB h7
 have e8 := fB h8
 simp at e1 e2 e3 e4 e5 e6 e7 e8
 have ho : oddC c = false := by simp [oddC, h1, h2, h3, h4, h5, h6, h7, h8]
 by_cases h9 : c = 35
 ·subst h9
  by_cases g : i = 0
  ·subst g
   simp [aJ, Tryz.f321, hi, hc', oddAt, oddC]
  ·have g' : ¬ (i : Int) = 0 := by omega
   simp [aJ, Tryz.f321, hi, hc', oddAt, oddC, g, g']
 have e9 := fB h9
 simp at e9
 by_cases h10 : c = 32
 ·subst h10
  by_cases g : i = 0
  ·subst g
   simp [aJ, Tryz.f321, hi, hc', oddAt, oddC]
  ·have g' : ¬ (i : Int) = 0 := by omega
   by_cases g2 : i + 1 = t.length
   ·have g2' : IntKind.i64.wrap ((t.length : Int) - 1) = (i : Int) := by rw [hw]; omega
    simp [aJ, Tryz.f321, hi, hc', oddAt, oddC, g, g', g2, g2']
   ·have g2' : ¬ (i : Int) = (t.length : Int) - 1 := by omega
    simp [aJ, Tryz.f321, hi, hc', oddAt, oddC, g, g', g2, g2', hw]
 have e10 := fB h10
 simp at e10
 simp [aJ, Tryz.f321, hi, hc', oddAt, ho, h9, h10, e1, e2, e3, e4, e5, e6, e7, e8, e9, e10]
theorem mf {t : Str} {i : Nat} {c : UInt8} (hc : t[i]? = some c) : escN t (i + 1) = if oddAt t i c = true then escN t i ++ [92] ++ [c] else escN t i ++ [c] := by
 show escN t i ++ escB t i = _
 rw [show escB t i = if oddAt t i c = true then [92, c] else [c] by unfold escB; rw [hc]]
 split <;> simp
theorem xO {t : Str} {H : List Ob} (hl : t.length ≤ 1000) : callW C 289 [.str t] H = some (.str (esc t), H) := by
 apply Ret.eq
 rw [JF]
 simp [uB, Tryz.f289, elemT, fillL, zerosL, St.new]
 refine WP_loop (fun k σ => ∃ (i : Nat) (r : Nat → R) (G : List Ob) (v : V), i + k = t.length ∧ σ = ⟨r, 0, G⟩ ∧ r 0 = .val (.str t) ∧ r 3 = .val v ∧ r 4 = .val (.int .i64 i) ∧ Bs H G v (escN t i)) ?_ t.length _ ⟨0, _, _, _, by simp, rfl, by simp, by simp, by simp, Bs.init⟩
 rintro k σ ⟨i, r, G, v, hik, rfl, r0, r3, r4, hB⟩
 have hbl := escN_len t i
 cases k with
 | zero =>
  have hi : i = t.length := by omega
  subst hi
  obtain ⟨TT, rfl⟩ := hB.ext
  obtain ⟨id, rfl, hst, hsl⟩ := hB.cut (n := (escN t t.length).length) (Nat.le_refl _)
  rw [List.take_length] at hsl
  simp [r0, r3, r4, hsl, hst, isByte, bys_mapM, esc]
 | succ k =>
  have hi : i < t.length := by omega
  obtain ⟨c, hc⟩ : ∃ c, t[i]? = some c := ⟨t[i], by simp [hi]⟩
  have hc' : t[i] = c := (List.getElem?_eq_some_iff.1 hc).2
  have hw : IntKind.i64.wrap ((i : Int) + 1) = ((i : Int) + 1) := wrap_i64 (by omega) (by omega)
  have c1 : callW C 321 [.str t, .int .i64 i] G = some (.bool (oddAt t i c), G) := JB hc (by omega)
  have hes := mf hc
  cases ho : oddAt t i c with
  | false =>
   rw [ho] at c1
   rw [ho, if_neg (by simp)] at hes
   obtain ⟨v', G', ha, hB'⟩ := hB.push (by omega) (c := c) (d := .int .u8) (z := [.int .u8 0]) rfl
   rw [← hes] at hB'
   simp [r0, r3, r4, hi, hc', c1, elemT, fillL, zerosL, St.new, badArg, ha, hw]
   exact ⟨k, by omega, i + 1, by omega, _, _, ⟨rfl, rfl⟩, by simp [r0], _, by simp, by simp, hB'⟩
  | true =>
   rw [ho] at c1
   rw [ho, if_pos rfl] at hes
   obtain ⟨v', G', ha, hB'⟩ := hB.push (by omega) (c := 92) (d := .int .u8) (z := [.int .u8 0]) rfl
   obtain ⟨v2, G2, ha2, hB2⟩ := hB'.push (by simp; omega) (c := c) (d := .int .u8) (z := [.int .u8 0]) rfl
   rw [← hes] at hB2
   simp at ha
   simp [r0, r3, r4, hi, hc', c1, elemT, fillL, zerosL, St.new, badArg, ha, ha2, hw]
   exact ⟨k, by omega, i + 1, by omega, _, _, ⟨rfl, rfl⟩, by simp [r0], _, by simp, by simp, hB2⟩
theorem lU {dn : List PRdn} {i : Nat} {x : PRdn} (hx : dn[i]? = some x) : txtN dn (i + 1) = (if 0 < i then txtN dn i ++ [44] else txtN dn i) ++ x.attr ++ [61] ++ esc x.value := by
 show txtN dn i ++ txtB dn i = _
 rw [show txtB dn i = (if 0 < i then [44] else []) ++ x.attr ++ [61] ++ esc x.value by unfold txtB; rw [hx]]
 split <;> simp
theorem rD {H : List Ob} {v : V} {xs : List PRdn} (h : ARdns H v xs) {i : Nat} {x : PRdn} (hx : xs[i]? = some x) : ∃ id o, id < H.length ∧
  (∀ (e s b : Nat) (z : List V) (ty : Nat → LT) (k : IntKind), (ty e).size = 2 → indexR ⟨.slice e, s, b, z⟩ ty (.val v) (.int k i) = some (.val (.ptr (some (id, o))))) ∧
  (∀ T' : List Ob, ∀ T : LT, T.one → ∀ r c, loadAt T ⟨r, c, H ++ T'⟩ (.hp id o) = some (.str x.attr) ∧ loadAt T ⟨r, c, H ++ T'⟩ (.hp id (o + 1)) = some (.str x.value)) ∧
  (∀ T' : List Ob, ∀ T : LT, T.many 2 → ∀ r c, loadAt T ⟨r, c, H ++ T'⟩ (.hp id o) = some (.agg [.str x.attr, .str x.value])) := by
 obtain ⟨id, o, own, cells, e1, e2, e3, e4⟩ := ASl.idx h hx (by decide)
 obtain ⟨e4, e5, e6⟩ := rdn_at.1 e4
 refine ⟨id, o, (List.getElem?_eq_some_iff.1 e2).1, e1, fun T' T hT r c => ?_, fun T' => loadN (up_append _ _ e2) e3 (by decide) e4⟩
 have e2' := up_append (T := T') _ _ e2
 exact ⟨load1 e2' (by simpa using cells_get e4 (j := 0) rfl) T hT r c, load1 e2' (by simpa using cells_get e4 (j := 1) rfl) T hT r c⟩
theorem EJ {H : List Ob} {v : V} {dn : List PRdn} (h : ARdns H v dn) (hd : DnOk dn) : callW C 224 [v] H = some (.str (txt dn), H) := by
 apply Ret.eq
 rw [Gg]
 have hb : dn.length ≤ 6 := hd.2
 simp [uD, Tryz.f224]
 refine WP_loop (fun k σ => ∃ (i : Nat) (r : Nat → R), i + k = dn.length ∧ σ = ⟨r, 0, H⟩ ∧ r 0 = .val v ∧ r 3 = .val (.str (txtN dn i)) ∧ r 4 = .val (.int .i64 i)) ?_ dn.length _ ⟨0, _, by simp, rfl, by simp, by simp [txtN], by simp⟩
 rintro k σ ⟨i, r, hik, rfl, r0, r3, r4⟩
 have hbl := txtN_len hd i
 cases k with
 | zero =>
  have hi : i = dn.length := by omega
  subst hi
  simp [r0, r3, r4, h.len, txt]
 | succ k =>
  have hi : i < dn.length := by omega
  obtain ⟨x, hx⟩ : ∃ c, dn[i]? = some c := ⟨dn[i], by simp [hi]⟩
  have hw : IntKind.i64.wrap ((i : Int) + 1) = ((i : Int) + 1) := wrap_i64 (by omega) (by omega)
  obtain ⟨id, o, hid, e1, ll, _⟩ := rD h hx
  have l0 : ∀ T : LT, T.one → ∀ r c, loadAt T ⟨r, c, H⟩ (.hp id o) = some (.str x.attr) := fun T hT r c => by have := (ll [] T hT r c).1; rwa [List.append_nil] at this
  have l1 : ∀ T : LT, T.one → ∀ r c, loadAt T ⟨r, c, H⟩ (.hp id (o + 1)) = some (.str x.value) := fun T hT r c => by have := (ll [] T hT r c).2; rwa [List.append_nil] at this
  have h1 := (hd.1 i x hx).1.2.1
  have h2 := (hd.1 i x hx).2.2.1
  have h3 := esc_len x.value
  have c1 := xO (t := x.value) (H := H) (by omega)
  have hts := lU hx
  have hM : ∀ n, n ≤ 2000 → n ≤ maxStr := fun n h => by unfold maxStr; omega
  have m1 := hM ((txtN dn i).length + 1) (by omega)
  have m2 := hM ((txtN dn i).length + (x.attr.length + 1)) (by omega)
  have m3 := hM ((txtN dn i).length + x.attr.length) (by omega)
  have m4 := hM ((txtN dn i).length + 1 + x.attr.length) (by omega)
  have m5 := hM ((txtN dn i).length + (x.attr.length + 1) + 1) (by omega)
  have m6 := hM ((txtN dn i).length + x.attr.length + 1) (by omega)
  have m7 := hM ((txtN dn i).length + (x.attr.length + 1) + (esc x.value).length) (by omega)
  have m8 := hM ((txtN dn i).length + (x.attr.length + 1 + 1) + (esc x.value).length) (by omega)
  have m9 := hM ((txtN dn i).length + (x.attr.length + 1 + 1)) (by omega)
  by_cases g : 0 < i
  ·rw [if_pos g] at hts
   simp [r0, r3, r4, h.len, hi, g, hid, e1, l0, l1, c1, m1, m2, m3, m4, m5, m6, m7, m8, m9, hw, regionL_none, regionL_some, List.lookup]
   exact ⟨k, by omega, i + 1, by omega, by rw [hts]; simp, by omega⟩
  ·rw [if_neg g] at hts
   simp [r0, r3, r4, h.len, hi, g, hid, e1, l0, l1, c1, m1, m2, m3, m4, m5, m6, m7, m8, m9, hw, regionL_none, regionL_some, List.lookup]
   exact ⟨k, by omega, i + 1, by omega, by rw [hts]; simp, by omega⟩
def upC (c : UInt8) : UInt8 := if 97 ≤ c.toNat ∧ c.toNat ≤ 122 then c - 32 else c
def aI (up : Bool) (c : UInt8) : UInt8 := if up = true then upC c else lowC c
theorem uI {c : UInt8} (h1 : 97 ≤ c.toNat) (h2 : c.toNat ≤ 122) : IntKind.u8.wrap ((c.toNat : Int) - 32) = ((upC c).toNat : Int) := by
 have : upC c = c - 32 := by unfold upC; rw [if_pos ⟨h1, h2⟩]
 rw [this]
 have h3 : (32 : UInt8) ≤ c := by
  rw [UInt8.le_iff_toNat_le]
  have : (32 : UInt8).toNat = 32 := rfl
  omega
 have h4 : (c - 32).toNat = c.toNat - 32 := by
  rw [UInt8.toNat_sub_of_le _ _ h3]
  rfl
 rw [h4]
 unfold IntKind.wrap
 simp [IntKind.bits, IntKind.signed]
 omega
theorem zI {c : UInt8} (h : ¬ (97 ≤ c.toNat ∧ c.toNat ≤ 122)) : upC c = c := by unfold upC; rw [if_neg h]
def turned (up : Bool) (t : Str) (i : Nat) : Str := (t.take i).map (aI up) ++ t.drop i
theorem eU {up : Bool} {t : Str} {i : Nat} : (turned up t i).length = t.length := by
 unfold turned
 simp
 omega
theorem eX {up : Bool} {t : Str} {i : Nat} {c : UInt8} (h : t[i]? = some c) : (turned up t i)[i]? = some c := by
 have hi := (List.getElem?_eq_some_iff.1 h).1
 unfold turned
 rw [List.getElem?_append_right (by simp; omega), List.getElem?_drop]
 simp
 rw [show i + (i - min i t.length) = i by omega]
 exact h
theorem dw {up : Bool} {t : Str} {i : Nat} {c : UInt8} (h : t[i]? = some c) : turned up t (i + 1) = (turned up t i).set i (aI up c) := by
 obtain ⟨hi, hc⟩ := List.getElem?_eq_some_iff.1 h
 unfold turned
 rw [take_get h, List.map_append, List.append_assoc, List.set_append_right _ _ (by simp; omega)]
 congr 1
 have : i - ((t.take i).map (aI up)).length = 0 := by simp; omega
 rw [this, List.drop_eq_getElem_cons hi]
 rfl
theorem dB {up : Bool} {t : Str} {i : Nat} {c : UInt8} (h : t[i]? = some c) (hc : aI up c = c) : turned up t (i + 1) = turned up t i := by
 rw [dw h, hc]
 apply List.ext_getElem?
 intro j
 rw [List.getElem?_set]
 split
 ·rename_i e
  subst e
  rw [eX h]
  split
  ·rfl
  ·rename_i hh
   rw [eU] at hh
   exact absurd (List.getElem?_eq_some_iff.1 h).1 hh
 ·rfl
theorem oG {b : Str} {i : Nat} {c : UInt8} : (bys b).set i (.int .u8 c.toNat) = bys (b.set i c) := by
 simp [bys, List.map_set]
theorem yK {t : Str} {up : Bool} {H : List Ob} (hl : t.length ≤ 100000) : callW C 322 [.str t, .bool up] H = some (.str (t.map (aI up)), H) := by
 apply Ret.eq
 rw [Jg]
 simp [vw, Tryz.f322, elemT, fillL, zerosL, St.new]
 have hb0 : List.map (fun c : UInt8 => V.int IntKind.u8 (c.toNat : Int)) t = bys (turned up t 0) := by simp [bys, turned]
 rw [hb0]
 refine WP_loop (fun k σ => ∃ (i : Nat) (r : Nat → R) (G : List Ob), i + k = t.length ∧ σ = ⟨r, 0, G⟩ ∧ r 0 = .val (.str t) ∧ r 1 = .val (.bool up) ∧ r 5 = .val (.slc (some (H.length, 0)) t.length) ∧ r 6 = .val (.int .i64 i) ∧ G = H ++ [.mk true 1 (bys (turned up t i))]) ?_ t.length _ ⟨0, _, _, by simp, rfl, by simp, by simp, by simp, by simp, rfl⟩
 rintro k σ ⟨i, r, G, hik, rfl, r0, r1, r5, r6, hG⟩
 have hg : G[H.length]? = some (.mk true 1 (bys (turned up t i))) := by rw [hG]; exact get_last
 have hid : H.length < G.length := by rw [hG]; simp
 have hst : strideIs G H.length 1 = true := by unfold strideIs; rw [hg]; rfl
 cases k with
 | zero =>
  have hi : i = t.length := by omega
  subst hi
  have he : turned up t t.length = t.map (aI up) := by unfold turned; simp
  have hB : Bs H G (.slc (some (H.length, 0)) t.length) (t.map (aI up)) := ⟨_, H.length, hG, Nat.le_refl _, by rw [← he]; exact hg, by simp⟩
  obtain ⟨idb, hv, _, hsl⟩ := hB.cut (n := t.length) (by simp)
  rw [List.take_of_length_le (by simp)] at hsl
  simp only [V.slc.injEq, Option.some.injEq, Prod.mk.injEq] at hv
  obtain ⟨⟨rfl, _⟩, _⟩ := hv
  subst hG
  simp [r0, r1, r5, r6, hsl, hst, isByte, bys_mapM]
 | succ k =>
  have hi : i < t.length := by omega
  obtain ⟨c, hc⟩ : ∃ c, t[i]? = some c := ⟨t[i], by simp [hi]⟩
  have hw : IntKind.i64.wrap ((i : Int) + 1) = ((i : Int) + 1) := wrap_i64 (by omega) (by omega)
  have ld := load1 (o := i) (v := .int .u8 c.toNat) hg (bys_get (eX hc))
  have st : ∀ d : UInt8, _ := fun d => store1 (o := i) (v := .int .u8 d.toNat) hg (by rw [bys_len, eU]; exact hi) rfl rfl
  have hset : ∀ d : UInt8, d = aI up c → G.set H.length (.mk true 1 ((bys (turned up t i)).set i (.int .u8 d.toNat))) = H ++ [.mk true 1 (bys (turned up t (i + 1)))] := fun d hd => by
   rw [hG, set_last, oG, hd, ← dw hc]
  cases up with
  | true =>
   by_cases g : 97 ≤ c.toNat ∧ c.toNat ≤ 122
   ·have g1 : (97 : Int) ≤ c.toNat := by omega
    have g2 : (c.toNat : Int) ≤ 122 := by omega
    have hs := uI g.1 g.2
    have st1 := st (upC c)
    rw [hset (upC c) rfl] at st1
    simp [r0, r1, r5, r6, hi, hid, g.1, g.2, g1, g2, ld, hs, st1, hw]
    exact ⟨k, by omega, i + 1, by omega, _, _, ⟨rfl, rfl⟩, by simp [r0], by simp [r1], by simp [r5], by simp, rfl⟩
   ·have he : aI true c = c := zI g
    have hG' : G = H ++ [.mk true 1 (bys (turned true t (i + 1)))] := by rw [dB hc he]; exact hG
    by_cases g1 : 97 ≤ c.toNat
    ·have g1' : (97 : Int) ≤ c.toNat := by omega
     have g2 : ¬ c.toNat ≤ 122 := fun h => g ⟨g1, h⟩
     have g2' : ¬ (c.toNat : Int) ≤ 122 := by omega
     simp [r0, r1, r5, r6, hi, hid, g1, g2, g1', g2', ld, hw]
     exact ⟨k, by omega, i + 1, by omega, _, _, ⟨rfl, rfl⟩, by simp [r0], by simp [r1], by simp [r5], by simp, hG'⟩
    ·have g1' : ¬ (97 : Int) ≤ c.toNat := by omega
     simp [r0, r1, r5, r6, hi, hid, g1, g1', ld, hw]
     exact ⟨k, by omega, i + 1, by omega, _, _, ⟨rfl, rfl⟩, by simp [r0], by simp [r1], by simp [r5], by simp, hG'⟩
  | false =>
   by_cases g : 65 ≤ c.toNat ∧ c.toNat ≤ 90
   ·have g1 : (65 : Int) ≤ c.toNat := by omega
    have g2 : (c.toNat : Int) ≤ 90 := by omega
    have hs := dZ g.1 g.2
    have st1 := st (lowC c)
    rw [hset (lowC c) rfl] at st1
    simp [r0, r1, r5, r6, hi, hid, g.1, g.2, g1, g2, ld, hs, st1, hw]
    exact ⟨k, by omega, i + 1, by omega, _, _, ⟨rfl, rfl⟩, by simp [r0], by simp [r1], by simp [r5], by simp, rfl⟩
   ·have he : aI false c = c := eG g
    have hG' : G = H ++ [.mk true 1 (bys (turned false t (i + 1)))] := by rw [dB hc he]; exact hG
    by_cases g1 : 65 ≤ c.toNat
    ·have g1' : (65 : Int) ≤ c.toNat := by omega
     have g2 : ¬ c.toNat ≤ 90 := fun h => g ⟨g1, h⟩
     have g2' : ¬ (c.toNat : Int) ≤ 90 := by omega
     simp [r0, r1, r5, r6, hi, hid, g1, g2, g1', g2', ld, hw]
     exact ⟨k, by omega, i + 1, by omega, _, _, ⟨rfl, rfl⟩, by simp [r0], by simp [r1], by simp [r5], by simp, hG'⟩
    ·have g1' : ¬ (65 : Int) ≤ c.toNat := by omega
     simp [r0, r1, r5, r6, hi, hid, g1, g1', ld, hw]
     exact ⟨k, by omega, i + 1, by omega, _, _, ⟨rfl, rfl⟩, by simp [r0], by simp [r1], by simp [r5], by simp, hG'⟩
theorem Be {t : Str} {H : List Ob} (hl : t.length ≤ 100000) : callW C 330 [.str t, .int .u8 97, .int .u8 65] H = some (.str (t.map (aI true)), H) := by
 apply Ret.eq
 rw [Eb]
 simp [ni, Tryz.f330, elemT, fillL, zerosL, St.new]
 have hb0 : List.map (fun c : UInt8 => V.int IntKind.u8 (c.toNat : Int)) t = bys (turned true t 0) := by simp [bys, turned]
 rw [hb0]
 refine WP_loop (fun k σ => ∃ (i : Nat) (r : Nat → R) (G : List Ob), i + k = t.length ∧ σ = ⟨r, 0, G⟩ ∧ r 0 = .val (.str t) ∧ r 1 = .val (.int .u8 97) ∧ r 2 = .val (.int .u8 65) ∧ r 7 = .val (.slc (some (H.length, 0)) t.length) ∧ r 12 = .val (.slc (some (H.length, 0)) t.length) ∧ r 13 = .val (.int .i64 t.length) ∧ r 14 = .val (.int .i64 i) ∧ G = H ++ [.mk true 1 (bys (turned true t i))]) ?_ t.length _ ⟨0, _, _, by simp, rfl, by simp, by simp, by simp, by simp, by simp, by simp, by simp, rfl⟩
 rintro k σ ⟨i, r, G, hik, rfl, r0, r1, r2, r7, r12, r13, r14, hG⟩
 have hg : G[H.length]? = some (.mk true 1 (bys (turned true t i))) := by rw [hG]; exact get_last
 have hid : H.length < G.length := by rw [hG]; simp
 have hst : strideIs G H.length 1 = true := by unfold strideIs; rw [hg]; rfl
 have hlo : IntKind.u8.wrap 123 = 123 := by decide
 cases k with
 | zero =>
  have hi : i = t.length := by omega
  subst hi
  have he : turned true t t.length = t.map (aI true) := by unfold turned; simp
  have hB : Bs H G (.slc (some (H.length, 0)) t.length) (t.map (aI true)) := ⟨_, H.length, hG, Nat.le_refl _, by rw [← he]; exact hg, by simp⟩
  obtain ⟨idb, hv, _, hsl⟩ := hB.cut (n := t.length) (by simp)
  rw [List.take_of_length_le (by simp)] at hsl
  simp only [V.slc.injEq, Option.some.injEq, Prod.mk.injEq] at hv
  obtain ⟨⟨rfl, _⟩, _⟩ := hv
  subst hG
  simp [r0, r1, r2, r7, r12, r13, r14, hsl, hst, isByte, bys_mapM]
 | succ k =>
  have hi : i < t.length := by omega
  obtain ⟨c, hc⟩ : ∃ c, t[i]? = some c := ⟨t[i], by simp [hi]⟩
  have hw : IntKind.i64.wrap ((i : Int) + 1) = ((i : Int) + 1) := wrap_i64 (by omega) (by omega)
  have ld := load1 (o := i) (v := .int .u8 c.toNat) hg (bys_get (eX hc))
  have st : ∀ d : UInt8, _ := fun d => store1 (o := i) (v := .int .u8 d.toNat) hg (by rw [bys_len, eU]; exact hi) rfl rfl
  have hset : ∀ d : UInt8, d = aI true c → G.set H.length (.mk true 1 ((bys (turned true t i)).set i (.int .u8 d.toNat))) = H ++ [.mk true 1 (bys (turned true t (i + 1)))] := fun d hd => by
   rw [hG, set_last, oG, hd, ← dw hc]
  by_cases g : 97 ≤ c.toNat ∧ c.toNat ≤ 122
  ·have g1 : (97 : Int) ≤ c.toNat := by omega
   have g2n : c.toNat < 123 := by omega
   have g2 : (c.toNat : Int) < 123 := by omega
   have hs0 : IntKind.u8.wrap ((c.toNat : Int) - 97) = (c.toNat : Int) - 97 := by unfold IntKind.wrap; simp [IntKind.bits, IntKind.signed]; omega
   have hs : IntKind.u8.wrap ((c.toNat : Int) - 97 + 65) = ((upC c).toNat : Int) := by
    have := uI g.1 g.2
    rw [← this]
    congr 1
    omega
   have st1 := st (upC c)
   rw [hset (upC c) rfl] at st1
   simp [r0, r1, r2, r7, r12, r13, r14, hi, hid, g.1, g.2, g1, g2n, g2, hlo, ld, hs0, hs, st1, hw]
   exact ⟨k, by omega, i + 1, by omega, _, _, ⟨rfl, rfl⟩, by simp [r0], by simp [r1], by simp [r2], by simp [r7], by simp [r12], by simp [r13], by simp, rfl⟩
  ·have he : aI true c = c := zI g
   have hG' : G = H ++ [.mk true 1 (bys (turned true t (i + 1)))] := by rw [dB hc he]; exact hG
   by_cases g1 : 97 ≤ c.toNat
   ·have g1' : (97 : Int) ≤ c.toNat := by omega
    have g2 : ¬ c.toNat < 123 := fun h => g ⟨g1, by omega⟩
    have g2' : ¬ (c.toNat : Int) < 123 := by omega
    simp [r0, r1, r2, r7, r12, r13, r14, hi, hid, g1, g2, g1', g2', hlo, ld, hw]
    exact ⟨k, by omega, i + 1, by omega, _, _, ⟨rfl, rfl⟩, by simp [r0], by simp [r1], by simp [r2], by simp [r7], by simp [r12], by simp [r13], by simp, hG'⟩
   ·have g1' : ¬ (97 : Int) ≤ c.toNat := by omega
    simp [r0, r1, r2, r7, r12, r13, r14, hi, hid, g1, g1', hlo, ld, hw]
    exact ⟨k, by omega, i + 1, by omega, _, _, ⟨rfl, rfl⟩, by simp [r0], by simp [r1], by simp [r2], by simp [r7], by simp [r12], by simp [r13], by simp, hG'⟩
theorem Bq {t : Str} {H : List Ob} (hl : t.length ≤ 100000) : callW C 330 [.str t, .int .u8 65, .int .u8 97] H = some (.str (t.map (aI false)), H) := by
 apply Ret.eq
 rw [Eb]
 simp [ni, Tryz.f330, elemT, fillL, zerosL, St.new]
 have hb0 : List.map (fun c : UInt8 => V.int IntKind.u8 (c.toNat : Int)) t = bys (turned false t 0) := by simp [bys, turned]
 rw [hb0]
 refine WP_loop (fun k σ => ∃ (i : Nat) (r : Nat → R) (G : List Ob), i + k = t.length ∧ σ = ⟨r, 0, G⟩ ∧ r 0 = .val (.str t) ∧ r 1 = .val (.int .u8 65) ∧ r 2 = .val (.int .u8 97) ∧ r 7 = .val (.slc (some (H.length, 0)) t.length) ∧ r 12 = .val (.slc (some (H.length, 0)) t.length) ∧ r 13 = .val (.int .i64 t.length) ∧ r 14 = .val (.int .i64 i) ∧ G = H ++ [.mk true 1 (bys (turned false t i))]) ?_ t.length _ ⟨0, _, _, by simp, rfl, by simp, by simp, by simp, by simp, by simp, by simp, by simp, rfl⟩
 rintro k σ ⟨i, r, G, hik, rfl, r0, r1, r2, r7, r12, r13, r14, hG⟩
 have hg : G[H.length]? = some (.mk true 1 (bys (turned false t i))) := by rw [hG]; exact get_last
 have hid : H.length < G.length := by rw [hG]; simp
 have hst : strideIs G H.length 1 = true := by unfold strideIs; rw [hg]; rfl
 have hlo : IntKind.u8.wrap 91 = 91 := by decide
 cases k with
 | zero =>
  have hi : i = t.length := by omega
  subst hi
  have he : turned false t t.length = t.map (aI false) := by unfold turned; simp
  have hB : Bs H G (.slc (some (H.length, 0)) t.length) (t.map (aI false)) := ⟨_, H.length, hG, Nat.le_refl _, by rw [← he]; exact hg, by simp⟩
  obtain ⟨idb, hv, _, hsl⟩ := hB.cut (n := t.length) (by simp)
  rw [List.take_of_length_le (by simp)] at hsl
  simp only [V.slc.injEq, Option.some.injEq, Prod.mk.injEq] at hv
  obtain ⟨⟨rfl, _⟩, _⟩ := hv
  subst hG
  simp [r0, r1, r2, r7, r12, r13, r14, hsl, hst, isByte, bys_mapM]
 | succ k =>
  have hi : i < t.length := by omega
  obtain ⟨c, hc⟩ : ∃ c, t[i]? = some c := ⟨t[i], by simp [hi]⟩
  have hw : IntKind.i64.wrap ((i : Int) + 1) = ((i : Int) + 1) := wrap_i64 (by omega) (by omega)
  have ld := load1 (o := i) (v := .int .u8 c.toNat) hg (bys_get (eX hc))
  have st : ∀ d : UInt8, _ := fun d => store1 (o := i) (v := .int .u8 d.toNat) hg (by rw [bys_len, eU]; exact hi) rfl rfl
  have hset : ∀ d : UInt8, d = aI false c → G.set H.length (.mk true 1 ((bys (turned false t i)).set i (.int .u8 d.toNat))) = H ++ [.mk true 1 (bys (turned false t (i + 1)))] := fun d hd => by
   rw [hG, set_last, oG, hd, ← dw hc]
  by_cases g : 65 ≤ c.toNat ∧ c.toNat ≤ 90
  ·have g1 : (65 : Int) ≤ c.toNat := by omega
   have g2n : c.toNat < 91 := by omega
   have g2 : (c.toNat : Int) < 91 := by omega
   have hs0 : IntKind.u8.wrap ((c.toNat : Int) - 65) = (c.toNat : Int) - 65 := by unfold IntKind.wrap; simp [IntKind.bits, IntKind.signed]; omega
   have hs : IntKind.u8.wrap ((c.toNat : Int) - 65 + 97) = ((lowC c).toNat : Int) := by
    have := dZ g.1 g.2
    rw [← this]
    congr 1
    omega
   have st1 := st (lowC c)
   rw [hset (lowC c) rfl] at st1
   simp [r0, r1, r2, r7, r12, r13, r14, hi, hid, g.1, g.2, g1, g2n, g2, hlo, ld, hs0, hs, st1, hw]
   exact ⟨k, by omega, i + 1, by omega, _, _, ⟨rfl, rfl⟩, by simp [r0], by simp [r1], by simp [r2], by simp [r7], by simp [r12], by simp [r13], by simp, rfl⟩
  ·have he : aI false c = c := eG g
   have hG' : G = H ++ [.mk true 1 (bys (turned false t (i + 1)))] := by rw [dB hc he]; exact hG
   by_cases g1 : 65 ≤ c.toNat
   ·have g1' : (65 : Int) ≤ c.toNat := by omega
    have g2 : ¬ c.toNat < 91 := fun h => g ⟨g1, by omega⟩
    have g2' : ¬ (c.toNat : Int) < 91 := by omega
    simp [r0, r1, r2, r7, r12, r13, r14, hi, hid, g1, g2, g1', g2', hlo, ld, hw]
    exact ⟨k, by omega, i + 1, by omega, _, _, ⟨rfl, rfl⟩, by simp [r0], by simp [r1], by simp [r2], by simp [r7], by simp [r12], by simp [r13], by simp, hG'⟩
   ·have g1' : ¬ (65 : Int) ≤ c.toNat := by omega
    simp [r0, r1, r2, r7, r12, r13, r14, hi, hid, g1, g1', hlo, ld, hw]
    exact ⟨k, by omega, i + 1, by omega, _, _, ⟨rfl, rfl⟩, by simp [r0], by simp [r1], by simp [r2], by simp [r7], by simp [r12], by simp [r13], by simp, hG'⟩
end Go.Proofs.Try1
end
section
namespace Go.Proofs.Try1
open Go Go.Lite
def setB (l : Str) : List V := (List.range 256).map fun i => V.bool (l.any fun c => c.toNat == i)
theorem aC {l : Str} : (setB l).length = 256 := by simp [setB]
theorem gB {l : Str} {i : Nat} (h : i < 256) : (setB l)[i]? = some (.bool (l.any fun c => c.toNat == i)) := by
 unfold setB
 rw [List.getElem?_map, List.getElem?_range h]
 rfl
theorem wu {l : Str} {c : UInt8} : (setB l)[c.toNat]? = some (.bool (decide (c ∈ l))) := by
 rw [gB c.toNat_lt]
 congr 2
 rw [Bool.eq_iff_iff]
 simp only [List.any_eq_true, decide_eq_true_eq, beq_iff_eq]
 constructor
 ·rintro ⟨d, hd, he⟩
  rw [← UInt8.toNat_inj.1 he]
  exact hd
 ·intro h
  exact ⟨c, h, rfl⟩
theorem wL : setB [] = List.replicate 256 (.bool false) := by
 apply List.ext_getElem?
 intro i
 by_cases h : i < 256
 ·rw [gB h, List.getElem?_replicate, if_pos h]
  rfl
 ·rw [List.getElem?_eq_none (by rw [aC]; omega), List.getElem?_eq_none (by rw [List.length_replicate]; omega)]
theorem setOf_snoc {l : Str} {c : UInt8} : (setB l).set c.toNat (.bool true) = setB (l ++ [c]) := by
 apply List.ext_getElem?
 intro i
 have hc := c.toNat_lt
 by_cases h : i < 256
 ·rw [gB h]
  by_cases hi : i = c.toNat
  ·subst hi
   rw [List.getElem?_set_self (by rw [aC]; omega)]
   simp
  ·rw [List.getElem?_set_ne (by omega), gB h]
   congr 2
   have : (c.toNat == i) = false := by simp; omega
   simp [this]
 ·rw [List.getElem?_eq_none (by simp [aC]; omega), List.getElem?_eq_none (by rw [aC]; omega)]
theorem Jr {t : Str} {H : List Ob} (ht : ∀ c ∈ t, c.toNat < 128) (hl : t.length ≤ 1000) : callW C 209 [.str t] H = some (.tup [.agg (setB t), .bool true], H) := by
 apply Ret.eq
 rw [IB]
 simp [uh, Tryz.f209, -List.reduceReplicate]
 refine WP_loop (fun k σ => ∃ (i : Nat) (r : Nat → R), i + k = t.length ∧ σ = ⟨r, 1, H⟩ ∧ r 0 = .val (.str t) ∧ r 2 = .box 0 (setB (t.take i)) ∧ r 4 = .val (.int .i64 i)) ?_ t.length _ ⟨0, _, by simp, rfl, by simp, by simp [wL, -List.reduceReplicate], by simp⟩
 rintro k σ ⟨i, r, hik, rfl, r0, r2, r4⟩
 cases k with
 | zero =>
  have hi : i = t.length := by omega
  subst hi
  rw [List.take_length] at r2
  have htk : (setB t).take 256 = setB t := List.take_of_length_le (by rw [aC]; omega)
  have hdr : (setB t).drop 256 = [] := List.drop_of_length_le (by rw [aC]; omega)
  have hall : ∀ x ∈ setB t, isOne x = true := fun x hx => by
   simp only [setB, List.mem_map] at hx
   obtain ⟨_, _, rfl⟩ := hx
   rfl
  simp [r0, r2, r4, aC, htk, hdr, if_pos hall, -List.reduceReplicate]
 | succ k =>
  have hi : i < t.length := by omega
  obtain ⟨c, hc⟩ : ∃ c, t[i]? = some c := ⟨t[i], by simp [hi]⟩
  have hc' : t[i] = c := (List.getElem?_eq_some_iff.1 hc).2
  have hw : IntKind.i64.wrap ((i : Int) + 1) = ((i : Int) + 1) := wrap_i64 (by omega) (by omega)
  have h128 : c.toNat < 128 := ht c (List.mem_of_getElem? hc)
  have h1 : ¬ (c.toNat : Int) ≥ 128 := by omega
  have h2 : (c.toNat : Int) < 256 := by omega
  have h3 : c.toNat < 256 := by omega
  have hs : setRange (setB (t.take i)) c.toNat [.bool true] = setB (t.take (i + 1)) := by rw [setRange_one (by rw [aC]; omega), setOf_snoc, take_get hc]
  have h4 : c.toNat + 1 ≤ 256 := by omega
  simp [r0, r2, r4, hi, hc', h1, h2, h3, h4, hw, aC, hs, indexR, -setRange, -List.reduceReplicate]
  exact ⟨k, by omega, i + 1, by omega, rfl, by omega⟩
theorem yX {l : Str} {H : List Ob} {id : Nat} {own : Bool} {c : UInt8} (h : H[id]? = some (.mk own 1 (setB l))) : callW C 278 [.ptr (some (id, 0)), .int .u8 c.toNat] H = some (.bool (decide (c ∈ l)), H) := by
 apply Ret.eq
 rw [Iy]
 have h2 : (c.toNat : Int) < 256 := by have := c.toNat_lt; omega
 have ld := load1 (o := c.toNat) h wu
 simp [rQ, Tryz.f278, indexR, h2, ld, -List.reduceReplicate]
def kset : Str := [97, 98, 99, 100, 101, 102, 103, 104, 105, 106, 107, 108, 109, 110, 111, 112, 113, 114, 115, 116, 117, 118, 119, 120, 121, 122, 48, 49, 50, 51, 52, 53, 54, 55, 56, 57, 95]
theorem kS {c : UInt8} : c ∈ kset ↔ LowB c ∨ DigB c ∨ c.toNat = 95 := by
 unfold kset LowB DigB
 simp only [List.mem_cons, List.not_mem_nil, or_false, ← UInt8.toNat_inj]
 have h := c.toNat_lt
 simp only [UInt8.toNat_ofNat, Nat.reducePow, Nat.reduceMod]
 omega
def df (t : Str) : Prop := ∀ c ∈ t, c ∈ kset
theorem Iw {t : Str} {H : List Ob} {id : Nat} {own : Bool} (h : H[id]? = some (.mk own 1 (setB kset))) (hl : t.length ≤ 1000) : ∃ s, callW C 211 [.str t, .ptr (some (id, 0))] H = some (.str s, H) ∧ (df s ↔ df t) ∧ (s = [] ∨ ¬ df s) ∧ s.length ≤ 1000 := by
 suffices hs : Ret C 211 [.str t, .ptr (some (id, 0))] H fun q H' => (∃ s, q = .str s ∧ (df s ↔ df t) ∧ (s = [] ∨ ¬ df s) ∧ s.length ≤ 1000) ∧ H' = H by
  obtain ⟨q, H', hc, ⟨s, rfl, hr⟩, rfl⟩ := hs
  exact ⟨s, hc, hr⟩
 rw [JI]
 simp [sJ, Tryz.f211, -List.reduceReplicate]
 refine WP_loop (fun k σ => ∃ (s : Str) (r : Nat → R), s.length = k ∧ σ = ⟨r, 0, H⟩ ∧ r 0 = .val (.str s) ∧ r 1 = .val (.ptr (some (id, 0))) ∧ (df s ↔ df t) ∧ s.length ≤ 1000) ?_ t.length _ ⟨t, _, rfl, rfl, by simp, by simp, Iff.rfl, hl⟩
 rintro k σ ⟨s, r, hk, rfl, r0, r1, hall, hs⟩
 cases k with
 | zero =>
  have hs0 : s = [] := List.length_eq_zero_iff.1 hk
  subst hs0
  simp [r0, r1]
  exact hall
 | succ k =>
  have hp : (0 : Int) < (s.length : Int) := by omega
  have hne : s ≠ [] := by rintro rfl; simp at hk
  obtain ⟨d, hd⟩ : ∃ d, s.getLast hne = d := ⟨_, rfl⟩
  have hd' : s[s.length - 1]? = some d := by rw [← List.getLast?_eq_getElem?, List.getLast?_eq_some_getLast hne, hd]
  have hd2 : s[s.length - 1]'(by omega) = d := (List.getElem?_eq_some_iff.1 hd').2
  have hw1 : IntKind.i64.wrap ((s.length : Int) - 1) = (s.length : Int) - 1 := wrap_i64 (by omega) (by omega)
  have h3 : (1 : Int) ≤ (s.length : Int) := by omega
  have h4 : ((s.length : Int) - 1).toNat = s.length - 1 := by omega
  have h5 : s.length - 1 < s.length := by omega
  have c1 := yX (c := d) h
  have hdrop : s = s.take (s.length - 1) ++ [d] := by
   have := take_get hd'
   rw [show s.length - 1 + 1 = s.length by omega, List.take_length] at this
   exact this
  by_cases hm : d ∈ kset
  ·have h6 : s.length - 1 ≤ s.length := by omega
   simp [r0, r1, hp, hne, hw1, h3, h4, h5, h6, hd2, hd', c1, hm, -List.reduceReplicate]
   refine ⟨by omega, k, by omega, _, by simp; omega, rfl, ?_, by simp; omega⟩
   rw [← hall]
   constructor
   ·intro hA c hc
    rw [hdrop] at hc
    rcases List.mem_append.1 hc with hc | hc
    ·exact hA c hc
    ·simp at hc; rw [hc]; exact hm
   ·intro hA c hc
    exact hA c (List.mem_of_mem_take hc)
  ·have hn : ¬ df s := fun hA => hm (hA d (List.mem_of_getElem? hd'))
   simp [r0, r1, hp, hne, hw1, h3, h4, h5, hd2, hd', c1, hm, -List.reduceReplicate]
   exact ⟨by omega, hall, hn, hs⟩
theorem FC {t : Str} {H : List Ob} {id : Nat} {own : Bool} (h : H[id]? = some (.mk own 1 (setB kset))) (hl : t.length ≤ 1000) : ∃ s, callW C 210 [.str t, .ptr (some (id, 0))] H = some (.str s, H) ∧ (df s ↔ df t) ∧ (s = [] ∨ ¬ df s) := by
 suffices hs : Ret C 210 [.str t, .ptr (some (id, 0))] H fun q H' => (∃ s, q = .str s ∧ (df s ↔ df t) ∧ (s = [] ∨ ¬ df s)) ∧ H' = H by
  obtain ⟨q, H', hc, ⟨s, rfl, hr⟩, rfl⟩ := hs
  exact ⟨s, hc, hr⟩
 rw [JW]
 simp [rX, Tryz.f210, -List.reduceReplicate]
 refine WP_loop (fun k σ => ∃ (s : Str) (r : Nat → R), s.length = k ∧ σ = ⟨r, 0, H⟩ ∧ r 0 = .val (.str s) ∧ r 1 = .val (.ptr (some (id, 0))) ∧ (df s ↔ df t)) ?_ t.length _ ⟨t, _, rfl, rfl, by simp, by simp, Iff.rfl⟩
 rintro k σ ⟨s, r, hk, rfl, r0, r1, hall⟩
 cases k with
 | zero =>
  have hs0 : s = [] := List.length_eq_zero_iff.1 hk
  subst hs0
  simp [r0, r1]
  exact hall
 | succ k =>
  match s, hk with
  | d :: s, hk =>
  have hk' : s.length = k := by simpa using hk
  have c1 := yX (c := d) h
  have hp : (0 : Int) < (s.length : Int) + 1 := by omega
  by_cases hm : d ∈ kset
  ·simp [r0, r1, hp, c1, hm, -List.reduceReplicate]
   refine ⟨k, by omega, s, hk', rfl, ?_⟩
   rw [← hall]
   constructor
   ·intro hA c hc
    rcases List.mem_cons.1 hc with rfl | hc
    ·exact hm
    ·exact hA c hc
   ·intro hA c hc
    exact hA c (List.mem_cons_of_mem _ hc)
  ·have hn : ¬ df (d :: s) := fun hA => hm (hA d List.mem_cons_self)
   simp [r0, r1, hp, c1, hm, -List.reduceReplicate]
   exact ⟨hall, hn⟩
theorem wrap_one : IntKind.i64.wrap 1 = 1 := rfl
attribute [simp] wrap_one
theorem aT {a b : Str} (h : LtS a b) : Op.bytesLess a b = true := h
theorem bi {a b : Str} (h : ¬ LtS a b) : Op.bytesLess a b = false := by
 cases hb : Op.bytesLess a b with
 | false => rfl
 | true => exact absurd hb h
theorem kN {H : List Ob} {id o : Nat} {v : V} (h : ∀ T : LT, T.one → ∀ r c, loadAt T ⟨r, c, H⟩ (.hp id o) = some v) : id < H.length := by
 have := h ⟨.str, 1, 16, [.str []]⟩ one_str (fun _ => .val .undef) 0
 unfold loadAt cellsAt at this
 rw [if_neg (by decide)] at this
 cases hg : H[id]? with
 | none => simp only [hg] at this; cases this
 | some o => exact (List.getElem?_eq_some_iff.1 hg).1
theorem nT {H : List Ob} {v : V} {l : List Str} (h : AStrs H v l) : callW C 187 [v] H = some (.bool (dec (NamesOk l)), H) := by
 apply Ret.dec
 rw [GL]
 have hb : l.length ≤ 9223372036854775807 := h.bound
 simp [rY, Tryz.f187]
 refine WP_loop (fun k σ => ∃ (i : Nat) (r : Nat → R), i + k = l.length ∧ σ = ⟨r, 0, H⟩ ∧ r 0 = .val v ∧ r 3 = .val (.int .i64 i) ∧ ∀ j x, j < i → l[j]? = some x → NameOk x ∧ PrevLt (fun x => x) l j x) ?_ l.length _ ⟨0, _, by simp, rfl, by simp, by simp, by simp⟩
 rintro k σ ⟨i, r, hik, rfl, r0, r3, hall⟩
 cases k with
 | zero =>
  have hi : i = l.length := by omega
  subst hi
  have hx : NamesOk l := at_all (P := fun j (x : Str) => NameOk x ∧ PrevLt (fun x => x) l j x) hall
  simp [r0, r3, h.len, hx]
 | succ k =>
  have hi : i < l.length := by omega
  obtain ⟨x, hx⟩ : ∃ c, l[i]? = some c := ⟨l[i], by simp [hi]⟩
  have hw : IntKind.i64.wrap ((i : Int) + 1) = ((i : Int) + 1) := wrap_i64 (by omega) (by omega)
  obtain ⟨id, o, e1, l0, _⟩ := strs_idx h hx
  have c1 := gp (t := x) (H := H)
  have hstep := fun h => at_step (P := fun j (x : Str) => NameOk x ∧ PrevLt (fun x => x) l j x) hall hx h
  by_cases g1 : NameOk x
  ·rw [dec_pos g1] at c1
   by_cases hi0 : i = 0
   ·have := hstep ⟨g1, fun y hy => by omega⟩
    subst hi0
    simp at e1
    simp [r0, r3, hi, h.len, e1, l0, c1, regionL_none]
    exact ⟨k, by omega, 1, by omega, by omega, this⟩
   ·have hip : 0 < i := by omega
    obtain ⟨y, hy⟩ : ∃ c, l[i - 1]? = some c := ⟨l[i - 1]'(by omega), by simp⟩
    obtain ⟨id', o', e1', l0', _⟩ := strs_idx h hy
    have hw1 : IntKind.i64.wrap ((i : Int) - 1) = ((i - 1 : Nat) : Int) := by rw [wrap_i64 (by omega) (by omega)]; omega
    by_cases g2 : LtS y x
    ·have := hstep ⟨g1, fun z _ hz => by rw [hy] at hz; cases hz; exact g2⟩
     simp [r0, r3, hi, h.len, e1, l0, c1, e1', l0', hw, hw1, hip, aT g2, regionL_none]
     exact ⟨k, by omega, i + 1, by omega, by omega, this⟩
    ·have hn : ¬ NamesOk l := fun hd => g2 ((hd i x hx).2 y hip hy)
     simp [r0, r3, hi, h.len, e1, l0, c1, e1', l0', hw, hw1, hip, bi g2, regionL_none, hn]
  ·rw [dec_neg g1] at c1
   have hn : ¬ NamesOk l := fun hd => g1 (hd i x hx).1
   simp [r0, r3, hi, h.len, e1, l0, c1, hn, regionL_none]
theorem xR {H : List Ob} {v : V} {l : List Str} (h : AStrs H v l) : callW C 259 [v] H = some (.bool (dec (ValuesOk l)), H) := by
 apply Ret.dec
 rw [Jy]
 have hb : l.length ≤ 9223372036854775807 := h.bound
 simp [uN, Tryz.f259]
 refine WP_loop (fun k σ => ∃ (i : Nat) (r : Nat → R), i + k = l.length ∧ σ = ⟨r, 0, H⟩ ∧ r 0 = .val v ∧ r 3 = .val (.int .i64 i) ∧ ∀ j x, j < i → l[j]? = some x → ValueOk x ∧ PrevLt norm l j x) ?_ l.length _ ⟨0, _, by simp, rfl, by simp, by simp, by simp⟩
 rintro k σ ⟨i, r, hik, rfl, r0, r3, hall⟩
 cases k with
 | zero =>
  have hi : i = l.length := by omega
  subst hi
  have hx := at_all (P := fun j (x : Str) => ValueOk x ∧ PrevLt norm l j x) hall
  by_cases g1 : 1 ≤ l.length
  ·have g1' : (1 : Int) ≤ (l.length : Int) := by omega
   by_cases g2 : l.length ≤ 4
   ·have g2' : (l.length : Int) ≤ 4 := by omega
    have hv : ValuesOk l := ⟨hx, g1, g2⟩
    simp [r0, r3, h.len, g1', g2', hv]
   ·have g2' : ¬ (l.length : Int) ≤ 4 := by omega
    have hv : ¬ ValuesOk l := fun h => g2 h.2.2
    simp [r0, r3, h.len, g1', g2', hv]
  ·have g1' : ¬ (1 : Int) ≤ (l.length : Int) := by omega
   have hv : ¬ ValuesOk l := fun h => g1 h.2.1
   simp [r0, r3, h.len, g1', hv]
 | succ k =>
  have hi : i < l.length := by omega
  obtain ⟨x, hx⟩ : ∃ c, l[i]? = some c := ⟨l[i], by simp [hi]⟩
  have hw : IntKind.i64.wrap ((i : Int) + 1) = ((i : Int) + 1) := wrap_i64 (by omega) (by omega)
  obtain ⟨id, o, e1, l0, _⟩ := strs_idx h hx
  have c1 := iO (t := x) (H := H)
  have c2 := cZ (t := x) (H := H)
  have hstep := fun h => at_step (P := fun j (x : Str) => ValueOk x ∧ PrevLt norm l j x) hall hx h
  by_cases g1 : ValueOk x
  ·rw [dec_pos g1] at c1
   by_cases hi0 : i = 0
   ·have := hstep ⟨g1, fun y hy => by omega⟩
    subst hi0
    simp at e1
    simp [r0, r3, hi, h.len, e1, l0, c1]
    exact ⟨k, by omega, 1, by omega, by omega, this⟩
   ·have hip : 0 < i := by omega
    obtain ⟨y, hy⟩ : ∃ c, l[i - 1]? = some c := ⟨l[i - 1]'(by omega), by simp⟩
    obtain ⟨id', o', e1', l0', _⟩ := strs_idx h hy
    have c3 := cZ (t := y) (H := H)
    have hw1 : IntKind.i64.wrap ((i : Int) - 1) = ((i - 1 : Nat) : Int) := by rw [wrap_i64 (by omega) (by omega)]; omega
    have hlo := kN l0
    by_cases g2 : LtS (norm y) (norm x)
    ·have := hstep ⟨g1, fun z _ hz => by rw [hy] at hz; cases hz; exact g2⟩
     simp [r0, r3, hi, h.len, e1, l0, c1, c2, c3, e1', l0', hw, hw1, hip, hlo, aT g2]
     exact ⟨k, by omega, i + 1, by omega, by omega, this⟩
    ·have hn : ¬ ValuesOk l := fun hd => g2 ((hd.1 i x hx).2 y hip hy)
     simp [r0, r3, hi, h.len, e1, l0, c1, c2, c3, e1', l0', hw, hw1, hip, hlo, bi g2, hn]
  ·rw [dec_neg g1] at c1
   have hn : ¬ ValuesOk l := fun hd => g1 (hd.1 i x hx).1
   simp [r0, r3, hi, h.len, e1, l0, c1, hn]
theorem Ar {H : List Ob} {v : V} {l : List PAttr} (h : AAttrs H v l) : callW C 182 [v] H = some (.bool (dec (AttrsOk l)), H) := by
 apply Ret.dec
 rw [F8]
 have hb : l.length ≤ 9223372036854775807 := h.bound
 simp [rE, Tryz.f182]
 refine WP_loop (fun k σ => ∃ (i : Nat) (r : Nat → R), i + k = l.length ∧ σ = ⟨r, 0, H⟩ ∧ r 0 = .val v ∧ r 3 = .val (.int .i64 i) ∧ ∀ j x, j < i → l[j]? = some x → NameOk x.name ∧ PrevLt PAttr.name l j x ∧ ValuesOk x.vals) ?_ l.length _ ⟨0, _, by simp, rfl, by simp, by simp, by simp⟩
 rintro k σ ⟨i, r, hik, rfl, r0, r3, hall⟩
 cases k with
 | zero =>
  have hi : i = l.length := by omega
  subst hi
  have hx := at_all (P := fun j (x : PAttr) => NameOk x.name ∧ PrevLt PAttr.name l j x ∧ ValuesOk x.vals) hall
  by_cases g : l.length ≤ 8
  ·have g' : (l.length : Int) ≤ 8 := by omega
   have hv : AttrsOk l := ⟨hx, g⟩
   simp [r0, r3, h.len, g', hv]
  ·have g' : ¬ (l.length : Int) ≤ 8 := by omega
   have hv : ¬ AttrsOk l := fun h => g h.2
   simp [r0, r3, h.len, g', hv]
 | succ k =>
  have hi : i < l.length := by omega
  obtain ⟨x, hx⟩ : ∃ c, l[i]? = some c := ⟨l[i], by simp [hi]⟩
  have hw : IntKind.i64.wrap ((i : Int) + 1) = ((i : Int) + 1) := wrap_i64 (by omega) (by omega)
  obtain ⟨id, o, w, e1, l0, l1, _, hvs, _⟩ := attrs_idx h hx
  have c1 := gp (t := x.name) (H := H)
  have c2 := xR hvs
  have hstep := fun h => at_step (P := fun j (x : PAttr) => NameOk x.name ∧ PrevLt PAttr.name l j x ∧ ValuesOk x.vals) hall hx h
  by_cases g1 : NameOk x.name
  rotate_left
  ·rw [dec_neg g1] at c1
   have hn : ¬ AttrsOk l := fun hd => g1 (hd.1 i x hx).1
   simp [r0, r3, hi, h.len, e1, l0, c1, hn, regionL_none]
  rw [dec_pos g1] at c1
  by_cases hi0 : i = 0
  ·have hpv : PrevLt PAttr.name l i x := fun y hy => by omega
   by_cases g3 : ValuesOk x.vals
   ·rw [dec_pos g3] at c2
    have := hstep ⟨g1, hpv, g3⟩
    subst hi0
    simp at e1
    simp [r0, r3, hi, h.len, e1, l0, l1, c1, c2, regionL_none]
    exact ⟨k, by omega, 1, by omega, by omega, this⟩
   ·rw [dec_neg g3] at c2
    have hn : ¬ AttrsOk l := fun hd => g3 (hd.1 i x hx).2.2
    subst hi0
    simp at e1
    simp [r0, r3, hi, h.len, e1, l0, l1, c1, c2, regionL_none, hn]
  ·have hip : 0 < i := by omega
   obtain ⟨y, hy⟩ : ∃ c, l[i - 1]? = some c := ⟨l[i - 1]'(by omega), by simp⟩
   obtain ⟨id', o', w', e1', l0', _⟩ := attrs_idx h hy
   have hw1 : IntKind.i64.wrap ((i : Int) - 1) = ((i - 1 : Nat) : Int) := by rw [wrap_i64 (by omega) (by omega)]; omega
   by_cases g2 : LtS y.name x.name
   ·have hpv : PrevLt PAttr.name l i x := fun z _ hz => by rw [hy] at hz; cases hz; exact g2
    by_cases g3 : ValuesOk x.vals
    ·rw [dec_pos g3] at c2
     have := hstep ⟨g1, hpv, g3⟩
     simp [r0, r3, hi, h.len, e1, l0, l1, c1, c2, e1', l0', hw, hw1, hip, aT g2, regionL_none]
     exact ⟨k, by omega, i + 1, by omega, by omega, this⟩
    ·rw [dec_neg g3] at c2
     have hn : ¬ AttrsOk l := fun hd => g3 (hd.1 i x hx).2.2
     simp [r0, r3, hi, h.len, e1, l0, l1, c1, c2, e1', l0', hw, hw1, hip, aT g2, regionL_none, hn]
   ·have hn : ¬ AttrsOk l := fun hd => g2 ((hd.1 i x hx).2.1 y hip hy)
    simp [r0, r3, hi, h.len, e1, l0, c1, e1', l0', hw, hw1, hip, bi g2, regionL_none, hn]
theorem BC {H : List Ob} {v w : V} {e : PEntry} (h1 : ARdns H v e.dn) (h2 : AAttrs H w e.attrs) : callW C 101 [.agg [v, w]] H = some (.bool (dec (EntryOk e)), H) := by
 apply Ret.dec
 rw [FN]
 have c1 := Bd h1
 have c2 := Ar h2
 by_cases g0 : 0 < e.dn.length
 rotate_left
 ·have hn : ¬ EntryOk e := fun h => g0 h.1
  have g0' : e.dn.length = 0 := by omega
  simp [iK, Tryz.f101, h1.len, g0', hn, h1.one, h2.one]
 by_cases g1 : DnOk e.dn
 rotate_left
 ·rw [dec_neg g1] at c1
  have hn : ¬ EntryOk e := fun h => g1 h.2.1
  simp [iK, Tryz.f101, h1.len, g0, c1, hn, h1.one, h2.one]
 rw [dec_pos g1] at c1
 by_cases g2 : AttrsOk e.attrs
 ·rw [dec_pos g2] at c2
  have hn : EntryOk e := ⟨g0, g1, g2⟩
  simp [iK, Tryz.f101, h1.len, g0, c1, c2, hn, h1.one, h2.one]
 ·rw [dec_neg g2] at c2
  have hn : ¬ EntryOk e := fun h => g2 h.2.2
  simp [iK, Tryz.f101, h1.len, g0, c1, c2, hn, h1.one, h2.one]
end Go.Proofs.Try1
end
