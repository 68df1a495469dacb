/- Part 11 of the proof of a law: the interpreter, its soundness, and what functions of the program compute over it. Conditions: none but those that each theorem names. -/
import Derived.Test.YtglbhjmpemiijaaGreatDoorA08
import Derived.Test.YtglbhjmpemiijaaGreatDoorA10
import Derived.Test.YtglbhjmpemiijaaGreatDoorA07
import Derived.Test.YtglbhjmpemiijaaGreatDoorA05
import Derived.Test.YtglbhjmpemiijaaGreatDoorA09
import Derived.Test.YtglbhjmpemiijaaGreatDoorA04
import Derived.Laws.Externs
import Derived.CallsIn
import Derived.Sort.EncStr
import Derived.Sort.Grow
import Derived.Test.YtglbhjmpemiijaaGreatDoorA06
import Derived.WalkKit
import Derived.Test.YtglbhjmpemiijaaGreatDoorProg

section
namespace Go.Proofs.Try1
open Go Go.Lite
set_option linter.unusedSimpArgs false
set_option linter.unusedVariables false

set_option maxRecDepth 20000 in
set_option maxHeartbeats 40000000 in
theorem ret_FnExactTreeAdd {H : List Ob} {c0 : List V} {u0 : U} {c1 : List V} {u1 : U}  {uR : U} (h0 : At H shTree c0 u0) (h1 : At H shEntry c1 u1)
    (hS : ∀ (G : List Ob) (x0 x1 : List V), At G shTree x0 u0 → At G shEntry x1 u1 → ∃ G' y, callW C 72 [valC shTree x0, valC shEntry x1] G = some (valC shTreeOut y, G') ∧ Le G G' ∧ At G' shTreeOut y uR)
    (hI : ∀ (G : List Ob) (x0 x1 : List V), At G shTree x0 u0 → At G shEntry x1 u1 → ∃ G' y, callW C 73 [valC shTree x0, valC shEntry x1] G = some (valC shTreeOut y, G') ∧ Le G G' ∧ New G.length G'.length G' shTreeOut y uR)
    (hR : 1 + cntV uR ≤ 50000000) : Ret C 11 [valC shTree c0, valC shEntry c1] H fun r _ => r = .bool true := by
  rw [op11]
  obtain ⟨c0_0, c0_1, rfl⟩ := list2 (At.len _ h0 : _ = 2)
  have on0 := ones_all h0
  simp only [List.mem_cons, List.not_mem_nil, or_false, forall_eq_or_imp, forall_eq] at on0
  obtain ⟨c1_0, c1_1, rfl⟩ := list2 (At.len _ h1 : _ = 2)
  have on1 := ones_all h1
  simp only [List.mem_cons, List.not_mem_nil, or_false, forall_eq_or_imp, forall_eq] at on1
  simp only [valC, List.headD_cons]
  have b0 := sz_Tree H [c0_0, c0_1] _ (1048576) h0 (by omega)
  simp only [valC, List.headD_cons] at b0
  by_cases g0 : wt u0 ≤ 1048576
  rotate_left
  · rw [if_neg g0] at b0
    simp at b0
    simp [code11, Tryz.f11, on0, on1, b0]
  rw [if_pos g0] at b0
  have hw0 : wt u0 ≤ 1048576 := by omega
  have p0 : ¬ (((1048576 - wt u0 : Nat) : Int) < 0) := by omega
  obtain ⟨LL0, hLL0⟩ : ∃ n, n = 1048576 - wt u0 := ⟨_, rfl⟩
  rw [← hLL0] at b0 p0
  have q0 : LL0 + wt u0 = 1048576 := by omega
  have b1 := sz_Entry H [c1_0, c1_1] _ (LL0) h1 (by omega)
  simp only [valC, List.headD_cons] at b1
  by_cases g1 : wt u1 ≤ LL0
  rotate_left
  · rw [if_neg g1] at b1
    simp at b0 b1
    simp [code11, Tryz.f11, on0, on1, b0, p0, b1]
  rw [if_pos g1] at b1
  have hw1 : wt u1 ≤ 1048576 := by omega
  have p1 : ¬ (((LL0 - wt u1 : Nat) : Int) < 0) := by omega
  obtain ⟨LL1, hLL1⟩ : ∃ n, n = LL0 - wt u1 := ⟨_, rfl⟩
  rw [← hLL1] at b1 p1
  have q1 : LL1 + wt u1 = LL0 := by omega
  have L0 : Le H H := Le.refl
  obtain ⟨G1, y0, k1, s1, n1⟩ := toN to_Tree (h0.Le L0) hw0
  have l1 := s1.len
  have L1 := L0.trans s1
  obtain ⟨y0_0, y0_1, rfl⟩ := list2 (At.len _ n1.at : _ = 2)
  have o1 := ones_all n1.at
  simp only [List.mem_cons, List.not_mem_nil, or_false, forall_eq_or_imp, forall_eq] at o1
  simp only [valC, List.headD_cons] at k1
  obtain ⟨G2, y1, k2, s2, n2⟩ := toN to_Entry (h1.Le L1) hw1
  have l2 := s2.len
  have L2 := L1.trans s2
  obtain ⟨y1_0, y1_1, rfl⟩ := list2 (At.len _ n2.at : _ = 2)
  have o2 := ones_all n2.at
  simp only [List.mem_cons, List.not_mem_nil, or_false, forall_eq_or_imp, forall_eq] at o2
  simp only [valC, List.headD_cons] at k2
  obtain ⟨G3, w, k3, s3, n3⟩ := hS _ [y0_0, y0_1] [y1_0, y1_1] (n1.at.Le s2) (n2.at.Le Le.refl)
  have l3 := s3.len
  have L3 := L2.trans s3
  obtain ⟨w_0, w_1, w_2, w_3, rfl⟩ := list4 (At.len _ n3 : _ = 4)
  have o3 := ones_all n3
  simp only [List.mem_cons, List.not_mem_nil, or_false, forall_eq_or_imp, forall_eq] at o3
  simp only [valC, List.headD_cons] at k3
  obtain ⟨G4, z0, k4, s4, n4⟩ := toN to_Tree (h0.Le L3) hw0
  have l4 := s4.len
  have L4 := L3.trans s4
  obtain ⟨z0_0, z0_1, rfl⟩ := list2 (At.len _ n4.at : _ = 2)
  have o4 := ones_all n4.at
  simp only [List.mem_cons, List.not_mem_nil, or_false, forall_eq_or_imp, forall_eq] at o4
  simp only [valC, List.headD_cons] at k4
  obtain ⟨G5, z1, k5, s5, n5⟩ := toN to_Entry (h1.Le L4) hw1
  have l5 := s5.len
  have L5 := L4.trans s5
  obtain ⟨z1_0, z1_1, rfl⟩ := list2 (At.len _ n5.at : _ = 2)
  have o5 := ones_all n5.at
  simp only [List.mem_cons, List.not_mem_nil, or_false, forall_eq_or_imp, forall_eq] at o5
  simp only [valC, List.headD_cons] at k5
  obtain ⟨G6, g, k6, s6, n6⟩ := hI _ [z0_0, z0_1] [z1_0, z1_1] (n4.at.Le s5) (n5.at.Le Le.refl)
  have l6 := s6.len
  have L6 := L5.trans s6
  obtain ⟨g_0, g_1, g_2, g_3, rfl⟩ := list4 (At.len _ n6.at : _ = 4)
  have o6 := ones_all n6.at
  simp only [List.mem_cons, List.not_mem_nil, or_false, forall_eq_or_imp, forall_eq] at o6
  simp only [valC, List.headD_cons] at k6
  have k7 := eqN eq_TreeOut n6.at (n3.Le (Le.trans (Le.trans s4 s5) s6))
  simp only [valC, List.headD_cons] at k7
  obtain ⟨G7, v0, k8, s7, n7⟩ := toN to_Tree (h0.Le L6) hw0
  have l7 := s7.len
  have L7 := L6.trans s7
  obtain ⟨v0_0, v0_1, rfl⟩ := list2 (At.len _ n7.at : _ = 2)
  have o7 := ones_all n7.at
  simp only [List.mem_cons, List.not_mem_nil, or_false, forall_eq_or_imp, forall_eq] at o7
  simp only [valC, List.headD_cons] at k8
  have k9 := eqN eq_Tree (n4.at.Le (Le.trans (Le.trans s5 s6) s7)) n7.at
  simp only [valC, List.headD_cons] at k9
  obtain ⟨G8, v1, k10, s8, n8⟩ := toN to_Entry (h1.Le L7) hw1
  have l8 := s8.len
  have L8 := L7.trans s8
  obtain ⟨v1_0, v1_1, rfl⟩ := list2 (At.len _ n8.at : _ = 2)
  have o8 := ones_all n8.at
  simp only [List.mem_cons, List.not_mem_nil, or_false, forall_eq_or_imp, forall_eq] at o8
  simp only [valC, List.headD_cons] at k10
  have k11 := eqN eq_Entry (n5.at.Le (Le.trans (Le.trans s6 s7) s8)) n8.at
  simp only [valC, List.headD_cons] at k11
  have hsum : wt u0 + wt u1 ≤ 1048576 := by omega
  have cb0 := cntV_bound h0 40 (by decide)
  have cb1 := cntV_bound h1 40 (by decide)
  have m4 := n4.Le (Le.trans (Le.trans (Le.trans s5 s6) s7) s8)
  have m5 := n5.Le (Le.trans (Le.trans s6 s7) s8)
  have mR := n6.Le (Le.trans s7 s8)
  obtain ⟨M0, k12, ml0, mf0, mn0⟩ := mkN (k := 1) mk_Tree m4 (by omega)
  simp only [valC, List.headD_cons] at k12
  have m5 := New.frame (G' := M0) m5 (fun q h1 h2 => mf0 q (by omega))
  have mR := New.frame (G' := M0) mR (fun q h1 h2 => mf0 q (by omega))
  obtain ⟨K0, hK0⟩ : ∃ n, n = 1 + cntV u0 := ⟨_, rfl⟩
  rw [← hK0] at k12
  obtain ⟨M1, k13, ml1, mf1, mn1⟩ := mkN (k := K0) mk_Entry m5 (by omega)
  simp only [valC, List.headD_cons] at k13
  have mR := New.frame (G' := M1) mR (fun q h1 h2 => mf1 q (by omega))
  obtain ⟨K1, hK1⟩ : ∃ n, n = K0 + cntV u1 := ⟨_, rfl⟩
  rw [← hK1] at k13
  have hKb : K1 ≤ 50000000 := by omega
  have pK : ¬ ((K1 : Int) < 0) := by omega
  have upS : Up G3 M1 := fun q o hq => by
    have hql := (List.getElem?_eq_some_iff.1 hq).1
    rw [mf1 q (.inl (by omega)), mf0 q (.inl (by omega))]
    exact ((Le.trans (Le.trans (Le.trans (Le.trans s4 s5) s6) s7) s8) : Le _ _).up q o hq
  have k14 := eqN eq_TreeOut mR.at (n3.Up upS)
  simp only [valC, List.headD_cons] at k14
  obtain ⟨Q, k15, ql, qf, qn⟩ := mkN (k := 1) mk_TreeOut mR hR
  simp only [valC, List.headD_cons] at k15
  have upQ : Up G3 Q := fun q o hq => by
    have hql := (List.getElem?_eq_some_iff.1 hq).1
    rw [qf q (.inl (by omega))]
    exact upS q o hq
  have upH : Up H Q := L3.up.trans upQ
  have k16 := held_TreeOut Q [g_0, g_1, g_2, g_3] _ 1 qn.at hR
  simp only [valC, List.headD_cons] at k16
  have R0 : Le Q Q := Le.refl
  have L9 := R0
  obtain ⟨G10, zz0, k17, s10, n10⟩ := toN to_Tree ((h0.Up upH).Le L9) hw0
  have l10 := s10.len
  have L10 := L9.trans s10
  obtain ⟨zz0_0, zz0_1, rfl⟩ := list2 (At.len _ n10.at : _ = 2)
  have o10 := ones_all n10.at
  simp only [List.mem_cons, List.not_mem_nil, or_false, forall_eq_or_imp, forall_eq] at o10
  simp only [valC, List.headD_cons] at k17
  obtain ⟨G11, zz1, k18, s11, n11⟩ := toN to_Entry ((h1.Up upH).Le L10) hw1
  have l11 := s11.len
  have L11 := L10.trans s11
  obtain ⟨zz1_0, zz1_1, rfl⟩ := list2 (At.len _ n11.at : _ = 2)
  have o11 := ones_all n11.at
  simp only [List.mem_cons, List.not_mem_nil, or_false, forall_eq_or_imp, forall_eq] at o11
  simp only [valC, List.headD_cons] at k18
  obtain ⟨G12, gg, k19, s12, n12⟩ := hI _ [zz0_0, zz0_1] [zz1_0, zz1_1] (n10.at.Le s11) (n11.at.Le Le.refl)
  have l12 := s12.len
  have L12 := L11.trans s12
  obtain ⟨gg_0, gg_1, gg_2, gg_3, rfl⟩ := list4 (At.len _ n12.at : _ = 4)
  have o12 := ones_all n12.at
  simp only [List.mem_cons, List.not_mem_nil, or_false, forall_eq_or_imp, forall_eq] at o12
  simp only [valC, List.headD_cons] at k19
  have k20 := eqN eq_TreeOut n12.at ((n3.Up upQ).Le L12)
  simp only [valC, List.headD_cons] at k20
  have k21 := held_TreeOut G12 [g_0, g_1, g_2, g_3] _ 1 (qn.at.Le L12) hR
  simp only [valC, List.headD_cons] at k21
  obtain ⟨KR, hKR⟩ : ∃ n, n = 1 + cntV uR := ⟨_, rfl⟩
  rw [← hKR] at k15
  rw [← hKR] at k16
  rw [← hKR] at k21
  have pR : ¬ ((KR : Int) < 0) := by omega
  clear upS upQ upH
  simp at b0 k12 k15 k16 k21
  simp [code11, Tryz.f11, on0, on1, b0, p0, b1, p1, k1, o1, k2, o2, k3, o3, k4, o4, k5, o5, k6, o6, k7, k8, o7, k9, k10, o8, k11, k12, k13, pK, k14, k15, k16, k17, o10, k18, o11, k19, o12, k20, k21, pR, regionL_some, List.lookup]
end Go.Proofs.Try1
end

section
namespace Go.Proofs.Try1
open Go Go.Lite
set_option linter.unusedSimpArgs false
set_option linter.unusedVariables false

theorem DnOk.drop {l : List PRdn} (hd : DnOk l) (k : Nat) : DnOk (l.drop k) :=
  ⟨fun j x hx => hd.1 (k + j) x (by rw [List.getElem?_drop] at hx; exact hx), by have := hd.2; simp; omega⟩

end Go.Proofs.Try1
end

section
namespace Go.Proofs.Try1
open Go Go.Lite
set_option linter.unusedSimpArgs false
set_option linter.unusedVariables false

end Go.Proofs.Try1
end

section
namespace Go.Lite
open Go
set_option linter.unusedSimpArgs false
set_option linter.unusedVariables false

section
variable {α : Type} {G : List Ob} {sh : Sh} {f : α → U} {v : V} {l : List α} {F : List Nat}

theorem chunk_take {D : List V} {s i j : Nat} (h : j * s + s ≤ i * s) : ((D.take (i * s)).drop (j * s)).take s = (D.drop (j * s)).take s := by
  apply List.ext_getElem?
  intro q
  by_cases hq : q < s
  · rw [List.getElem?_take_of_lt hq, List.getElem?_take_of_lt hq, List.getElem?_drop, List.getElem?_take_of_lt (by omega), List.getElem?_drop]
  · rw [List.getElem?_eq_none (by simp; omega), List.getElem?_eq_none (by simp; omega)]

/-- The chunks of a row into which one is put. -/
theorem ins_chunk {D c : List V} {s n i : Nat} (hD : D.length = n * s) (hc : c.length = s) (hi : i ≤ n) {j : Nat} :
    (j < i → ((D.take (i * s) ++ c ++ D.drop (i * s)).drop (j * s)).take s = (D.drop (j * s)).take s) ∧ (j = i → ((D.take (i * s) ++ c ++ D.drop (i * s)).drop (j * s)).take s = c) ∧
    (∀ t, j = i + 1 + t → ((D.take (i * s) ++ c ++ D.drop (i * s)).drop (j * s)).take s = (D.drop ((i + t) * s)).take s) := by
  have hin : i * s ≤ n * s := Nat.mul_le_mul_right _ hi
  have hA : (D.take (i * s)).length = i * s := by simp; omega
  refine ⟨fun h => ?_, fun h => ?_, fun t h => ?_⟩
  · have hm := mul_step (s := s) h
    rw [List.append_assoc, List.drop_append_of_le_length (by omega), List.take_append_of_le_length (by simp; omega)]
    exact chunk_take hm
  · subst h
    rw [List.append_assoc, List.drop_append_of_le_length (by omega), List.drop_of_length_le (by omega), List.nil_append, List.take_append_of_le_length (by omega), List.take_of_length_le (by omega)]
  · subst h
    have e1 : (i + 1 + t) * s = (D.take (i * s) ++ c).length + t * s := by rw [List.length_append, hA, hc]; simp [Nat.add_mul]
    rw [e1, ← List.drop_drop, List.drop_left, List.drop_drop]
    congr 2
    rw [Nat.add_mul]

theorem take_get? {α : Type} {l : List α} {i j : Nat} {x : α} : (l.take i ++ x :: l.drop i)[j]? = if j < i ∧ j < l.length then l[j]? else if j = min i l.length then some x else l[j - 1]? := by
  by_cases h1 : j < (l.take i).length
  · rw [List.getElem?_append_left h1]
    have h2 : j < i ∧ j < l.length := by simp at h1; omega
    rw [if_pos h2, List.getElem?_take_of_lt h2.1]
  · rw [List.getElem?_append_right (by omega)]
    have h2 : ¬ (j < i ∧ j < l.length) := by simp at h1; omega
    rw [if_neg h2]
    have hl : (l.take i).length = min i l.length := List.length_take
    by_cases h3 : j = min i l.length
    · rw [if_pos h3, hl, h3, Nat.sub_self]; rfl
    · rw [if_neg h3, hl]
      obtain ⟨k, hk⟩ : ∃ k, j - min i l.length = k + 1 := ⟨j - min i l.length - 1, by omega⟩
      rw [hk, List.getElem?_cons_succ, List.getElem?_drop]
      by_cases h4 : i ≤ l.length
      · congr 1; omega
      · rw [List.getElem?_eq_none (by omega), List.getElem?_eq_none (by omega)]

theorem flatten_ins {Fs : List (List Nat)} {K : List Nat} {i : Nat} : ∀ q, q ∈ (Fs.take i ++ K :: Fs.drop i).flatten ↔ q ∈ Fs.flatten ∨ q ∈ K := by
  intro q
  have h : Fs.flatten = (Fs.take i).flatten ++ (Fs.drop i).flatten := by rw [← List.flatten_append, List.take_append_drop]
  rw [h, List.flatten_append, List.flatten_cons]
  simp only [List.mem_append]
  constructor
  · rintro (h | h | h) <;> simp [h]
  · rintro ((h | h) | h) <;> simp [h]
theorem flatten_ins_nodup {Fs : List (List Nat)} {K : List Nat} {i : Nat} (h1 : Fs.flatten.Nodup) (h2 : K.Nodup) (h3 : ∀ q ∈ K, q ∉ Fs.flatten) : (Fs.take i ++ K :: Fs.drop i).flatten.Nodup := by
  have h : Fs.flatten = (Fs.take i).flatten ++ (Fs.drop i).flatten := by rw [← List.flatten_append, List.take_append_drop]
  rw [h] at h1 h3
  rw [List.flatten_append, List.flatten_cons]
  obtain ⟨a1, a2, a3⟩ := List.nodup_append.1 h1
  refine List.nodup_append.2 ⟨a1, List.nodup_append.2 ⟨h2, a2, fun a ha b hb e => ?_⟩, fun a ha b hb e => ?_⟩
  · subst e; exact h3 a ha (List.mem_append_right _ hb)
  · subst e
    rcases List.mem_append.1 hb with hb | hb
    · exact h3 a hb (List.mem_append_left _ ha)
    · exact a3 a ha a hb rfl

/-- An element of its own is inserted. -/
theorem insertF (h : AtF G (.slice sh) [v] (.lst (l.map f)) F) (hn : F.Nodup) {x : α} {c : List V} {K : List Nat} (hx : AtF G sh c (f x) K) (hxn : K.Nodup) (hd : ∀ q ∈ K, q ∉ F) {i : Nat} (hi : i ≤ l.length) (hl : l.length ≤ 1000000) (hs : sh.size ≠ 0) :
    ∃ v' G' F', insertPrim sh.size [v, .int .i64 i, .slc (some (G.length, 0)) 1] (G ++ [.mk true sh.size c]) = some (v', G') ∧ AtF G' (.slice sh) [v'] (.lst ((l.take i ++ x :: l.drop i).map f)) F' ∧ F'.Nodup ∧
      (∀ q ∈ F', q ∈ F ∨ q ∈ K ∨ q = G.length + 1) ∧ (∀ q, q ∉ F → q < G.length → G'[q]? = G[q]?) ∧ G'.length = G.length + 2 ∧ v' = .slc (some (G.length + 1, 0)) (l.length + 1) := by
  obtain ⟨w, us, hw, hus, hlen, h⟩ := AtF_slice.1 h
  cases hw
  cases hus
  have hcl : c.length = sh.size := At.len _ (AtF.at _ hx)
  have hco : c.all isOne = true := At.ones _ (AtF.at _ hx)
  have hget : (G ++ [Ob.mk true sh.size c])[G.length]? = some (.mk true sh.size c) := get_last
  have hK := AtF.mem _ hx
  have hcond : sh.size = sh.size ∧ c.length = sh.size ∧ (0 : Int) ≤ (i : Int) ∧ (i : Int) ≤ ((l.length : Nat) : Int) ∧ l.length ≤ 1000000 ∧ c.all isOne = true := ⟨rfl, hcl, by omega, by omega, hl, hco⟩
  rcases h with ⟨rfl, hl0, rfl⟩ | ⟨id, off, cells, Fs, rfl, h2, h3, h4, rfl, h6⟩
  · have hl0 : l = [] := by simpa using hl0
    subst hl0
    have hi0 : i = 0 := by simpa using hi
    subst hi0
    refine ⟨.slc (some (G.length + 1, 0)) 1, G ++ [.mk true sh.size c] ++ [.mk true sh.size c], (G.length + 1) :: K, ?_, ?_, ?_, fun q hq => ?_, fun q _ hq => ?_, by simp, by simp⟩
    · simp [insertPrim, hcl, hco]
    · refine AtF_slice.2 ⟨_, [f x], rfl, rfl, by simp [maxLen], .inr ⟨G.length + 1, 0, c, [K], rfl, by simp, by simp [hcl], rfl, by simp, fun j y Fj hy hFj => ?_⟩⟩
      have hj : j = 0 := by have := (List.getElem?_eq_some_iff.1 hy).1; simpa using this
      subst hj
      cases hy
      cases hFj
      rw [Nat.zero_mul, Nat.add_zero, List.drop_zero, List.take_of_length_le (by omega)]
      exact hx.ext.ext
    · exact List.nodup_cons.2 ⟨fun hm => by have := hK _ hm; omega, hxn⟩
    · rcases List.mem_cons.1 hq with rfl | hq
      · exact .inr (.inr rfl)
      · exact .inr (.inl hq)
    · rw [List.append_assoc, List.getElem?_append_left hq]
  · rw [List.length_map] at h3 h4 hlen
    have hid : id < G.length := (List.getElem?_eq_some_iff.1 h2).1
    have hidx : id ≠ G.length := by omega
    obtain ⟨D, hD⟩ : ∃ D, D = (cells.drop off).take (l.length * sh.size) := ⟨_, rfl⟩
    have hDl : D.length = l.length * sh.size := by rw [hD]; simp; omega
    have hg2 : (G ++ [Ob.mk true sh.size c])[id]? = some (.mk true sh.size cells) := up_append _ _ h2
    have him : i * sh.size ≤ l.length * sh.size := Nat.mul_le_mul_right _ hi
    have hcells : ((cells.drop off).take (i * sh.size)) ++ c ++ (((cells.drop off).take (l.length * sh.size)).drop (i * sh.size)) = D.take (i * sh.size) ++ c ++ D.drop (i * sh.size) := by
      rw [hD, List.take_take, Nat.min_eq_left him]
    obtain ⟨N, hN⟩ : ∃ N, N = D.take (i * sh.size) ++ c ++ D.drop (i * sh.size) := ⟨_, rfl⟩
    have hNl : N.length = (l.length + 1) * sh.size := by
      have e1 : (D.take (i * sh.size)).length = i * sh.size := by rw [List.length_take, hDl]; omega
      rw [hN, List.length_append, List.length_append, e1, hcl, List.length_drop, hDl, Nat.add_mul]; omega
    have hlen2 : ((G ++ [Ob.mk true sh.size c]).set id .dead).length = G.length + 1 := by simp
    have hfr : ∀ q, q ≠ id → q < G.length → ((G ++ [Ob.mk true sh.size c]).set id .dead ++ [Ob.mk true sh.size N])[q]? = G[q]? := fun q hq hql => by
      rw [List.getElem?_append_left (by omega), List.getElem?_set_ne (fun e => hq e.symm), List.getElem?_append_left hql]
    obtain ⟨hnid, hnf⟩ := List.nodup_cons.1 hn
    have hFlt : ∀ j y Fj, (l.map f)[j]? = some y → Fs[j]? = some Fj → ∀ q ∈ Fj, q < G.length ∧ q ≠ id := fun j y Fj hy hFj q hq => ⟨AtF.mem _ (h6 j y Fj hy hFj) q hq, fun e => hnid (e ▸ List.mem_flatten.2 ⟨Fj, List.mem_of_getElem? hFj, hq⟩)⟩
    have hlen3 : (l.take i ++ x :: l.drop i).length = l.length + 1 := by simp; omega
    have hKid : id ∉ K := fun hm => hd id hm List.mem_cons_self
    refine ⟨.slc (some (G.length + 1, 0)) (l.length + 1), (G ++ [Ob.mk true sh.size c]).set id .dead ++ [Ob.mk true sh.size N], (G.length + 1) :: (Fs.take i ++ K :: Fs.drop i).flatten, ?_, ?_, ?_, fun q hq => ?_, fun q hqF hq => hfr q (fun e => hqF (by rw [e]; exact List.mem_cons_self)) hq, by simp, by simp⟩
    · have hone : ((cells.drop off).take (l.length * sh.size)).all isOne = true := by
        rw [← hD]
        refine rows_ones hDl fun j hj => ?_
        obtain ⟨Fj, hFj⟩ : ∃ Fj, Fs[j]? = some Fj := ⟨_, List.getElem?_eq_getElem (by omega)⟩
        have h7 := h6 j (f l[j]) Fj (by rw [List.getElem?_map, List.getElem?_eq_getElem hj]; rfl) hFj
        rw [hD, row_chunk h3 hj]
        exact At.ones _ (AtF.at _ h7)
      simp only [insertPrim, hget, List.length_map, hg2]
      rw [if_pos ⟨trivial, hcond.2⟩, if_pos ⟨trivial, hidx, h3, hone⟩, Int.toNat_natCast, hcells, ← hN]
      simp
    · refine AtF_slice.2 ⟨.slc (some (G.length + 1, 0)) (l.length + 1), (l.take i ++ x :: l.drop i).map f, rfl, rfl, by rw [List.length_map, hlen3]; unfold maxLen; omega, .inr ⟨G.length + 1, 0, N, Fs.take i ++ K :: Fs.drop i, by rw [List.length_map, hlen3], by rw [← hlen2, get_last], by rw [List.length_map, hlen3, hNl]; omega, by rw [List.length_map, hlen3]; simp; omega, rfl, fun j y Fj hy hFj => ?_⟩⟩
      rw [List.getElem?_map, take_get?] at hy
      rw [take_get?] at hFj
      obtain ⟨c1, c2, c3⟩ := ins_chunk (j := j) hDl hcl hi
      rw [← hN] at c1 c2 c3
      rw [Nat.zero_add]
      have hmin : min i l.length = i := by omega
      have hmin' : min i Fs.length = i := by omega
      by_cases j1 : j < i
      · rw [if_pos ⟨j1, by omega⟩] at hy hFj
        rw [c1 j1, hD, row_chunk h3 (by omega)]
        have h7 := h6 j y Fj (by rw [List.getElem?_map]; exact hy) hFj
        exact AtF.frame _ (fun q hq => hfr q (hFlt j y Fj (by rw [List.getElem?_map]; exact hy) hFj q hq).2 (hFlt j y Fj (by rw [List.getElem?_map]; exact hy) hFj q hq).1) h7
      · rw [if_neg (by omega)] at hy hFj
        by_cases j2 : j = i
        · rw [hmin, if_pos j2] at hy
          rw [hmin', if_pos j2] at hFj
          cases hy
          cases hFj
          rw [c2 j2]
          exact AtF.frame _ (fun q hq => hfr q (fun e => hKid (e ▸ hq)) (hK q hq)) hx
        · rw [hmin, if_neg j2] at hy
          rw [hmin', if_neg j2] at hFj
          obtain ⟨t, ht⟩ : ∃ t, j = i + 1 + t := ⟨j - i - 1, by omega⟩
          have hj1 : j - 1 = i + t := by omega
          rw [hj1] at hy hFj
          have hlt : i + t < l.length := by
            cases hh : l[i + t]? with
            | none => rw [hh] at hy; cases hy
            | some z => exact (List.getElem?_eq_some_iff.1 hh).1
          rw [c3 t ht, hD, row_chunk h3 hlt]
          have h7 := h6 (i + t) y Fj (by rw [List.getElem?_map]; exact hy) hFj
          exact AtF.frame _ (fun q hq => hfr q (hFlt _ y Fj (by rw [List.getElem?_map]; exact hy) hFj q hq).2 (hFlt _ y Fj (by rw [List.getElem?_map]; exact hy) hFj q hq).1) h7
    · refine List.nodup_cons.2 ⟨fun hm => ?_, flatten_ins_nodup hnf hxn fun q hq hm => hd q hq (List.mem_cons_of_mem _ hm)⟩
      rcases (flatten_ins _).1 hm with hm | hm
      · obtain ⟨Fj, hF1, hF2⟩ := List.mem_flatten.1 hm
        obtain ⟨j, hj, rfl⟩ := List.getElem_of_mem hF1
        have := hFlt j ((l.map f)[j]'(by simp; omega)) Fs[j] (List.getElem?_eq_getElem _) (List.getElem?_eq_getElem _) _ hF2
        omega
      · have := hK _ hm; omega
    · rcases List.mem_cons.1 hq with rfl | hq
      · exact .inr (.inr rfl)
      · rcases (flatten_ins _).1 hq with hq | hq
        · exact .inl (List.mem_cons_of_mem _ hq)
        · exact .inr (.inl hq)
end

section
variable {α : Type} {G : List Ob} {sh : Sh} {f : α → U} {v : V} {l : List α} {F : List Nat}
end

section
variable {α : Type} {G : List Ob} {sh : Sh} {f : α → U} {v : V} {l : List α} {F : List Nat}
end

/-! ### The attributes, one of them set -/
theorem filt_take {α : Type} {p : α → Bool} {l : List α} {i : Nat} (h1 : ∀ q x, q < i → l[q]? = some x → p x = true) (h2 : ∀ q x, i ≤ q → l[q]? = some x → p x = false) : l.filter p = l.take i := by
  have : l.filter p = (l.take i).filter p ++ (l.drop i).filter p := by rw [← List.filter_append, List.take_append_drop]
  rw [this, List.filter_eq_self.2, List.filter_eq_nil_iff.2, List.append_nil]
  · intro x hx
    obtain ⟨j, hj, rfl⟩ := List.getElem_of_mem hx
    rw [h2 (i + j) _ (by omega) (by rw [← List.getElem?_drop]; exact List.getElem?_eq_getElem hj)]
    decide
  · intro x hx
    obtain ⟨j, hj, rfl⟩ := List.getElem_of_mem hx
    have hj2 : j < i := by rw [List.length_take] at hj; omega
    exact h1 j _ hj2 (by rw [← List.getElem?_take_of_lt hj2]; exact List.getElem?_eq_getElem hj)
theorem filt_drop {α : Type} {p : α → Bool} {l : List α} {i : Nat} (h1 : ∀ q x, q < i → l[q]? = some x → p x = false) (h2 : ∀ q x, i ≤ q → l[q]? = some x → p x = true) : l.filter p = l.drop i := by
  have : l.filter p = (l.take i).filter p ++ (l.drop i).filter p := by rw [← List.filter_append, List.take_append_drop]
  rw [this, List.filter_eq_nil_iff.2, List.nil_append, List.filter_eq_self.2]
  · intro x hx
    obtain ⟨j, hj, rfl⟩ := List.getElem_of_mem hx
    exact h2 (i + j) _ (by omega) (by rw [← List.getElem?_drop]; exact List.getElem?_eq_getElem hj)
  · intro x hx
    obtain ⟨j, hj, rfl⟩ := List.getElem_of_mem hx
    have hj2 : j < i := by rw [List.length_take] at hj; omega
    rw [h1 j _ hj2 (by rw [← List.getElem?_take_of_lt hj2]; exact List.getElem?_eq_getElem hj)]
    decide
end Go.Lite
end

section
namespace Go.Lite
open Go
set_option linter.unusedSimpArgs false
set_option linter.unusedVariables false

/-- A row that the call itself lays, over a heap that stood before. -/
def Rw (s : Nat) (B G : List Ob) (v : V) (n : Nat) (cs : List V) : Prop :=
  (∃ T, G = B ++ T) ∧ cs.length = n * s ∧ ((v = .slc none 0 ∧ n = 0) ∨ ∃ id, v = .slc (some (id, 0)) n ∧ B.length ≤ id ∧ G[id]? = some (.mk true s cs))

section
variable {s n m : Nat} {B G : List Ob} {v : V} {cs xs : List V}
theorem Rw.nil : Rw s B B (.slc none 0) 0 [] := ⟨⟨[], by simp⟩, by simp, .inl ⟨rfl, rfl⟩⟩
theorem Rw.init (hB : ∃ T, G = B ++ T) : Rw s B (G ++ [.mk true s []]) (.slc (some (G.length, 0)) 0) 0 [] := by
  obtain ⟨T, rfl⟩ := hB
  exact ⟨⟨T ++ [.mk true s []], by simp⟩, by simp, .inr ⟨(B ++ T).length, rfl, by simp, get_last⟩⟩
theorem Rw.pre (h : Rw s B G v n cs) : ∃ T, G = B ++ T := h.1
theorem Rw.ext {T : List Ob} (h : Rw s B G v n cs) : Rw s B (G ++ T) v n cs := by
  obtain ⟨⟨S, rfl⟩, h2, h3⟩ := h
  exact ⟨⟨S ++ T, by simp⟩, h2, h3.imp id fun ⟨id, q1, q2, q3⟩ => ⟨id, q1, q2, up_append _ _ q3⟩⟩
theorem Rw.one (h : Rw s B G v n cs) : isOne v = true ∧ cellsOf v = some [v] := by
  rcases h.2.2 with ⟨rfl, _⟩ | ⟨id, rfl, _⟩ <;> exact ⟨rfl, rfl⟩
theorem Rw.many (h : Rw s B G v n cs) {d : LD} {by_ : Nat} {z : List V} {x : V} (hx : newCells ⟨d, s, by_, z⟩ G x = some (xs, m)) (hm : xs.length = m * s) (ho : xs.all isOne = true)
    (hz : z.length = s) (h0 : 0 < s) (hb0 : 0 < by_) (hb1 : by_ ≤ 1000000) (hb : (n + m) * by_ ≤ maxMade) :
    ∃ v' G', appendV ⟨d, s, by_, z⟩ G v x = some (v', G') ∧ Rw s B G' v' (n + m) (cs ++ xs) := by
  by_cases hm0 : m = 0
  · subst hm0
    have hx0 : xs = [] := List.length_eq_zero_iff.1 (by omega)
    subst hx0
    refine ⟨v, G, ?_, by simpa using h⟩
    unfold appendV
    rw [if_pos (by simp [growOk, h0, hb0, hb1, hz]), hx]
    simp only [if_true]
    rcases h.2.2 with ⟨rfl, _⟩ | ⟨id, rfl, _⟩ <;> rfl
  obtain ⟨⟨T, rfl⟩, h2, h3⟩ := h
  rcases h3 with ⟨rfl, rfl⟩ | ⟨id, rfl, q2, q3⟩
  · have hc0 : cs = [] := List.length_eq_zero_iff.1 (by omega)
    subst hc0
    refine ⟨_, _, appendV_nil hz h0 hb0 hb1 hx hm0 ho (by simpa using hb), ⟨T ++ [.mk true s xs], by simp⟩, by simp [hm], .inr ⟨(B ++ T).length, by simp, by simp, ?_⟩⟩
    rw [List.nil_append]; exact get_last
  · refine ⟨_, _, appendV_row hz h0 hb0 hb1 q3 h2 hx hm0 ho hb, ⟨T.set (id - B.length) .dead ++ [.mk true s (cs ++ xs)], ?_⟩, by simp [h2, hm, Nat.add_mul], .inr ⟨(B ++ T).length, rfl, by simp, ?_⟩⟩
    · rw [List.set_append_right _ _ q2, List.append_assoc]
    · have hl : ((B ++ T).set id .dead).length = (B ++ T).length := List.length_set
      rw [← hl, get_last]
end

/-- Elements in their cells, each with its own objects. -/
def RowsOk (B : List Ob) (sh : Sh) (cs : List V) (us : List U) (Fs : List (List Nat)) : Prop :=
  cs.length = us.length * sh.size ∧ Fs.length = us.length ∧ ∀ i x F, us[i]? = some x → Fs[i]? = some F → AtF B sh ((cs.drop (i * sh.size)).take sh.size) x F

section
variable {B G : List Ob} {sh : Sh} {cs cs' : List V} {us us' : List U} {Fs Fs' : List (List Nat)} {v : V}
theorem RowsOk.nil : RowsOk B sh [] [] [] := ⟨by simp, rfl, fun i x F h => by cases h⟩
theorem RowsOk.one {c : List V} {x : U} {F : List Nat} (h : AtF B sh c x F) : RowsOk B sh c [x] [F] := by
  have hl : c.length = sh.size := At.len _ (AtF.at _ h)
  refine ⟨by simp [hl], rfl, fun i y K hy hK => ?_⟩
  cases i with
  | zero => cases hy; cases hK; rw [Nat.zero_mul, List.drop_zero, List.take_of_length_le (by omega)]; exact h
  | succ i => cases hy
theorem RowsOk.take (h : RowsOk B sh cs us Fs) {k : Nat} (hk : k ≤ us.length) : RowsOk B sh (cs.take (k * sh.size)) (us.take k) (Fs.take k) := by
  obtain ⟨h1, h2, h3⟩ := h
  have hm : k * sh.size ≤ us.length * sh.size := Nat.mul_le_mul_right _ hk
  refine ⟨by simp [Nat.min_eq_left hk]; omega, by simp; omega, fun i x F hx hF => ?_⟩
  have hi : i < k := by have := (List.getElem?_eq_some_iff.1 hx).1; simp at this; omega
  rw [List.getElem?_take_of_lt hi] at hx hF
  have hs : i * sh.size + sh.size ≤ k * sh.size := mul_step hi
  have := h3 i x F hx hF
  rw [chunk_take hs]
  exact this
theorem RowsOk.drop (h : RowsOk B sh cs us Fs) {k : Nat} (hk : k ≤ us.length) : RowsOk B sh (cs.drop (k * sh.size)) (us.drop k) (Fs.drop k) := by
  obtain ⟨h1, h2, h3⟩ := h
  refine ⟨by simp [h1, Nat.sub_mul], by simp; omega, fun i x F hx hF => ?_⟩
  rw [List.getElem?_drop] at hx hF
  have := h3 (k + i) x F hx hF
  rw [List.drop_drop, ← Nat.add_mul]
  exact this
theorem RowsOk.append (h : RowsOk B sh cs us Fs) (h' : RowsOk B sh cs' us' Fs') : RowsOk B sh (cs ++ cs') (us ++ us') (Fs ++ Fs') := by
  obtain ⟨h1, h2, h3⟩ := h
  obtain ⟨k1, k2, k3⟩ := h'
  refine ⟨by simp [h1, k1, Nat.add_mul], by simp [h2, k2], fun i x F hx hF => ?_⟩
  by_cases hi : i < us.length
  · rw [List.getElem?_append_left hi] at hx
    rw [List.getElem?_append_left (by omega)] at hF
    have hs : i * sh.size + sh.size ≤ us.length * sh.size := mul_step hi
    rw [List.drop_append_of_le_length (by omega), List.take_append_of_le_length (by simp; omega)]
    exact h3 i x F hx hF
  · obtain ⟨t, rfl⟩ : ∃ t, i = us.length + t := ⟨i - us.length, by omega⟩
    rw [List.getElem?_append_right (by omega)] at hx hF
    rw [show us.length + t - us.length = t by omega] at hx
    rw [show us.length + t - Fs.length = t by omega] at hF
    have e : (us.length + t) * sh.size = cs.length + t * sh.size := by rw [Nat.add_mul, h1]
    rw [e, List.drop_append, List.drop_eq_nil_of_le (by omega), List.nil_append, Nat.add_sub_cancel_left]
    exact k3 t x F hx hF
theorem RowsOk.ones (h : RowsOk B sh cs us Fs) : cs.all isOne = true := by
  refine rows_ones (n := us.length) (s := sh.size) h.1 fun j hj => ?_
  have hF : j < Fs.length := by rw [h.2.1]; exact hj
  exact At.ones _ (AtF.at _ (h.2.2 j us[j] Fs[j] (List.getElem?_eq_getElem hj) (List.getElem?_eq_getElem hF)))
theorem RowsOk.mem (h : RowsOk B sh cs us Fs) : ∀ q ∈ Fs.flatten, q < B.length := fun q hq => by
  obtain ⟨F, hF, hq⟩ := List.mem_flatten.1 hq
  obtain ⟨i, hi, rfl⟩ := List.getElem_of_mem hF
  have hi' : i < us.length := by rw [← h.2.1]; exact hi
  exact AtF.mem _ (h.2.2 i us[i] Fs[i] (List.getElem?_eq_getElem hi') (List.getElem?_eq_getElem hi)) q hq
theorem RowsOk.frame (h : RowsOk B sh cs us Fs) (hG : ∀ q ∈ Fs.flatten, G[q]? = B[q]?) : RowsOk G sh cs us Fs :=
  ⟨h.1, h.2.1, fun i x F hx hF => AtF.frame _ (fun q hq => hG q (List.mem_flatten.2 ⟨F, List.mem_of_getElem? hF, hq⟩)) (h.2.2 i x F hx hF)⟩

/-- The cells of a slice's own elements, and of its parts. -/
theorem AtF.rows {F : List Nat} (h : AtF B (.slice sh) [v] (.lst us) F) (hn : F.Nodup) : ∃ p cs Fs, v = .slc p us.length ∧ RowsOk B sh cs us Fs ∧ Fs.flatten.Nodup ∧ (∀ q ∈ Fs.flatten, q ∈ F) ∧
    ((p = none ∧ us = []) ∨ ∃ id off cells, p = some (id, off) ∧ B[id]? = some (.mk true sh.size cells) ∧ id ∈ F ∧ id ∉ Fs.flatten ∧
      ∀ (d : LD) (by_ : Nat) (z : List V) (G : List Ob) (lo hi : Nat), G[id]? = B[id]? → lo ≤ hi → hi ≤ us.length →
        newCells ⟨d, sh.size, by_, z⟩ G (.slc (some (id, off + lo * sh.size)) (hi - lo)) = some ((cs.drop (lo * sh.size)).take ((hi - lo) * sh.size), hi - lo)) := by
  obtain ⟨w, us', hw, hus, hlen, h⟩ := AtF_slice.1 h
  cases hw
  cases hus
  rcases h with ⟨rfl, rfl, rfl⟩ | ⟨id, off, cells, Fs, rfl, h2, h3, h4, rfl, h6⟩
  · exact ⟨none, [], [], rfl, RowsOk.nil, by simp, by simp, .inl ⟨rfl, rfl⟩⟩
  · obtain ⟨hn1, hn2⟩ := List.nodup_cons.1 hn
    have hcl : ((cells.drop off).take (us.length * sh.size)).length = us.length * sh.size := by simp; omega
    refine ⟨some (id, off), (cells.drop off).take (us.length * sh.size), Fs, rfl, ⟨hcl, h4, fun i x F hx hF => ?_⟩, hn2, fun q hq => List.mem_cons_of_mem _ hq, .inr ⟨id, off, cells, rfl, h2, List.mem_cons_self, hn1, fun d by_ z G lo hi hG hlo hhi => ?_⟩⟩
    · rw [row_chunk h3 (List.getElem?_eq_some_iff.1 hx).1]
      exact h6 i x F hx hF
    · have e1 : lo * sh.size + (hi - lo) * sh.size = hi * sh.size := by rw [← Nat.add_mul]; congr 1; omega
      have e2 : hi * sh.size ≤ us.length * sh.size := Nat.mul_le_mul_right _ hhi
      have e3 : (((cells.drop off).take (us.length * sh.size)).drop (lo * sh.size)).take ((hi - lo) * sh.size) = (cells.drop (off + lo * sh.size)).take ((hi - lo) * sh.size) := by
        rw [List.drop_take, List.take_take, List.drop_drop, Nat.min_eq_left (by omega)]
      rw [e3]
      simp only [newCells, slcCells, hG, h2]
      by_cases h0 : (hi - lo) * sh.size = 0
      · rw [if_pos h0, h0, List.take_zero]
      · rw [if_neg h0]
        unfold rdCells
        rw [if_pos (by omega)]
end
end Go.Lite
end

section
namespace Go.Lite
open Go
set_option linter.unusedSimpArgs false
set_option linter.unusedVariables false

section
variable {H S X : List Ob} {l : List Nat} {k : Nat} {o : Ob}
end
end Go.Lite
end

section
namespace Go.Proofs.Try1
open Go Go.Lite
set_option linter.unusedSimpArgs false
set_option linter.unusedVariables false

end Go.Proofs.Try1
end

section
namespace Go.Proofs.Try1
open Go Go.Lite
set_option linter.unusedSimpArgs false
set_option linter.unusedVariables false

end Go.Proofs.Try1
end

section
namespace Go.Proofs.Try1
open Go Go.Lite
set_option linter.unusedSimpArgs false
set_option linter.unusedVariables false

theorem TreeOk.small {t : PTree} (h : TreeOk t) : SmallT t := by
  refine ⟨⟨by have := h.1.2; omega, fun c hc => ?_⟩, by have := h.2.1.1; omega, fun e he => EntryOk.small (TreeOk.dns h e he)⟩
  obtain ⟨j, hj, rfl⟩ := List.getElem_of_mem hc
  have hc := (h.1.1 j _ (List.getElem?_eq_getElem hj)).1
  exact ⟨by have := hc.l1; omega, by have := hc.l2; omega, by have := hc.l3; omega⟩
theorem TreeOk.rise {t : PTree} (h : TreeOk t) : t.entries.Pairwise fun a b => keyE a < keyE b := rise_pair (key := keyE) (fun j x hx => (h.2.1.2 j x hx).2.2)

theorem TOut.new {H : List Ob} {T : List Ob} {t : PTree} {w1 w2 : V} (hn : New H.length (H ++ T).length (H ++ T) shTree [w1, w2] t.u) : ∃ T' q, q = .agg [w1, w2, .slc none 0, .int .i64 0] ∧ gcH H (H ++ T) q = H ++ T' ∧ TOut H ⟨t, [], 0⟩ q (H ++ T') := by
  have h2 : New H.length (H ++ T).length (H ++ T) shTreeOut [w1, w2, .slc none 0, .int .i64 0] (PTreeOut.u ⟨t, [], 0⟩) := New.st (News.cons (c1 := [w1, w2]) (m := (H ++ T).length) hn (News.nilS (News.int (by decide) News.nil)) (by simp) (Nat.le_refl _))
  obtain ⟨T', h3, h4⟩ := h2.gcA
  exact ⟨T', _, rfl, h3, T', w1, w2, .slc none 0, rfl, rfl, h4⟩
theorem TOut.ones {H : List Ob} {o : PTreeOut} {q : V} {H' : List Ob} (h : TOut H o q H') : ∃ w1 w2 w3, q = .agg [w1, w2, w3, .int .i64 o.code] ∧ (isOne w1 = true ∧ cellsOf w1 = some [w1]) ∧ (isOne w2 = true ∧ cellsOf w2 = some [w2]) ∧ (isOne w3 = true ∧ cellsOf w3 = some [w3]) := by
  obtain ⟨T, w1, w2, w3, rfl, rfl, h3⟩ := h
  have := At.ones _ h3.at
  simp only [List.all_cons, List.all_nil, Bool.and_true, Bool.and_eq_true] at this
  exact ⟨w1, w2, w3, rfl, ⟨this.1, isOne_cells this.1⟩, ⟨this.2.1, isOne_cells this.2.1⟩, ⟨this.2.2.1, isOne_cells this.2.2.1⟩⟩
/-- An answer that a call hands on as it is. -/
theorem TOut.gc {H : List Ob} {o : PTreeOut} {q : V} {H' : List Ob} (h : TOut H o q H') : TOut H o q (gcH H H' q) := by
  obtain ⟨T, w1, w2, w3, rfl, rfl, h3⟩ := h
  obtain ⟨T', h4, h5⟩ := h3.gcA
  exact ⟨T', w1, w2, w3, rfl, h4, h5⟩

end Go.Proofs.Try1
end

section
namespace Go.Proofs.Try1
open Go Go.Lite
set_option linter.unusedSimpArgs false
set_option linter.unusedVariables false

set_option maxRecDepth 10000 in
set_option maxHeartbeats 4000000 in
theorem i_classOfN {H : List Ob} {v : V} {l : List PClass} {t : Str} {c : PClass} (h : AClasses H v l) (hf : firstOf PClass.name l t = some c) (hb : SmallC c) (hnm : c.name.length ≤ maxLen) :
    ∃ T w1 w2 w3, callW C 145 [v, .str t] H = some (.tup [.agg [.str c.name, w1, w2, w3], .bool true], H ++ T) ∧ New H.length (H ++ T).length (H ++ T) shClass [.str c.name, w1, w2, w3] c.u := by
  suffices hs : Ret C 145 [v, .str t] H fun q H' => ∃ T w1 w2 w3, q = .tup [.agg [.str c.name, w1, w2, w3], .bool true] ∧ H' = H ++ T ∧ New H.length (H ++ T).length (H ++ T) shClass [.str c.name, w1, w2, w3] c.u by
    obtain ⟨q, H', hc, T, w1, w2, w3, rfl, rfl, hr⟩ := hs
    exact ⟨T, w1, w2, w3, hc, hr⟩
  rw [op145]
  obtain ⟨r, c1, hr⟩ := l_idxClass (H := H ++ [.mk true 1 [.str t]]) (idn := H.length) (t := t) get_last h.ext
  rcases hr.pos with ⟨k, a, h1, rfl, h2⟩ | ⟨rfl, h2⟩
  rotate_left
  · rw [hf] at h2; cases h2
  rw [hf] at h2
  cases h2
  obtain ⟨id, o, w1, w2, w3, e1, l4, q1, q2, q3⟩ := classes_idxT h h1
  have l4 := l4 [.mk true 1 [.str t]]
  have hk : ¬ ((k : Int) < 0) := by omega
  obtain ⟨A0, hA0⟩ : ∃ A, A = H ++ [.mk true 1 [.str t]] := ⟨_, rfl⟩
  obtain ⟨T1, x1, d1, n1⟩ := l_CloneS (H := A0) (by rw [hA0]; exact q1.ext) hb.1
  obtain ⟨A, hA⟩ : ∃ A, A = A0 ++ T1 := ⟨_, rfl⟩
  rw [← hA] at d1 n1
  obtain ⟨T2, x2, d2, n2⟩ := l_CloneS (H := A) (by rw [hA, hA0]; exact q2.ext.ext) hb.2.1
  obtain ⟨B, hB⟩ : ∃ B, B = A ++ T2 := ⟨_, rfl⟩
  rw [← hB] at d2 n2
  obtain ⟨T3, x3, d3, n3⟩ := l_CloneS (H := B) (by rw [hB, hA, hA0]; exact q3.ext.ext.ext) hb.2.2
  have o1 := New.one1 n1
  have o2 := New.one1 n2
  have o3 := New.one1 n3
  have hAl : A0.length ≤ A.length := by rw [hA]; simp
  have hBl : A.length ≤ B.length := by rw [hB]; simp
  have hne : New A0.length (B ++ T3).length (B ++ T3) shClass [.str c.name, x1, x2, x3] c.u :=
    New.st (News.str hnm (News.cons (m := A.length) (c1 := [x1]) (by rw [hB, List.append_assoc]; exact n1.ext) (News.cons (m := B.length) (c1 := [x2]) n2.ext (News.one n3 (by simp)) hBl (by simp)) hAl (by simp; omega)))
  have hGH : B ++ T3 = H ++ ([.mk true 1 [.str t]] ++ T1 ++ T2 ++ T3) := by rw [hB, hA, hA0]; simp
  have hne' : New H.length (B ++ T3).length (B ++ T3) shClass [.str c.name, x1, x2, x3] c.u := hne.wide (by rw [hA0]; simp) (Nat.le_refl _)
  rw [hGH] at hne'
  obtain ⟨T', hg, hn'⟩ := hne'.gc (v := .tup [.agg [.str c.name, x1, x2, x3], .bool true]) (by simp [lowV, lowVs])
  rw [← hGH] at hg
  rw [← hA0] at c1 l4
  simp [code145, Tryz.f145, c1, hk, e1, l4, d1, d2, d3, o1, o2, o3, q1.one, q2.one, q3.one, strideOf, buildV, fillL, structPlace, ← hA0, List.lookup, hg]
  exact ⟨T', x1, x2, x3, ⟨rfl, rfl, rfl⟩, rfl, by simpa using hn'⟩

set_option maxRecDepth 10000 in
set_option maxHeartbeats 8000000 in
theorem i_copySchema {H : List Ob} {vl : V} {l : List PClass} (h : AClasses H vl l) (hb : l.length ≤ 1048576 ∧ ∀ c ∈ l, SmallC c) :
    ∃ T w, callW C 203 [vl] H = some (w, H ++ T) ∧ New H.length (H ++ T).length (H ++ T) (.slice shClass) [w] (.lst (l.map PClass.u)) ∧ ¬ lowV H w := by
  suffices hs : Ret C 203 [vl] H fun q H' => ∃ T, H' = H ++ T ∧ New H.length (H ++ T).length (H ++ T) (.slice shClass) [q] (.lst (l.map PClass.u)) ∧ ¬ lowV H q by
    obtain ⟨q, H', hc, T, rfl, hr⟩ := hs
    exact ⟨T, q, hc, hr⟩
  rw [op203]
  have hbl := hb.1
  simp [code203, Tryz.f203, elemT, fillL, zerosL, St.new, h.len]
  refine WP_loop (fun k σ => ∃ (i n : Nat) (r : Nat → R) (G : List Ob) (w : V), i + k = l.length ∧ σ = ⟨r, n, G⟩ ∧ r 3 = .val w ∧ r 9 = .val vl ∧ r 10 = .val (.int .i64 l.length) ∧ r 11 = .val (.int .i64 i) ∧ LstF H G shClass PClass.u w (l.take i) ∧ ¬ lowV H w) ?_ l.length _ ⟨0, _, _, H ++ [.mk true 4 []], .slc (some (H.length, 0)) 0, by simp, rfl, by simp, by simp, by simp, by simp, by rw [List.take_zero]; exact LstF.init (sh := shClass), fun ⟨own, es, cells, h⟩ => by simp at h⟩
  rintro k σ ⟨i, n, r, G, w, hik, rfl, r3, r9, r10, r11, hG, hnl⟩
  obtain ⟨S, hS⟩ := hG.pre
  have hlG : AClasses G vl l := by rw [hS]; exact h.ext
  have hwo := hG.one
  cases k with
  | zero =>
    have hi : i = l.length := by omega
    subst hi
    rw [List.take_length] at hG
    have n2 := hG.new h.bound
    have hg : gcH H G w = G := gcH_not hnl
    simp [r3, r9, r10, r11, hg, hwo]
    exact ⟨S, hS, by rw [← List.length_append, ← hS]; exact n2, hnl⟩
  | succ k =>
    have hi : i < l.length := by omega
    obtain ⟨x, hx⟩ : ∃ c, l[i]? = some c := ⟨l[i], by simp [hi]⟩
    have hw : IntKind.i64.wrap ((i : Int) + 1) = ((i : Int) + 1) := wrap_i64 (by omega) (by omega)
    obtain ⟨id, o, w1, w2, w3, e1, l0, l4, q1, q2, q3, _, hnm⟩ := classes_idx hlG hx
    have h1 : AClasses (G ++ [.mk true 4 [.str x.name, w1, w2, w3]]) (.slc (some (G.length, 0)) 1) [x] := At_slice.2 ⟨_, _, rfl, rfl, by simp [maxLen], .inr ⟨G.length, 0, true, [.str x.name, w1, w2, w3], rfl, get_last, by simp, fun j y hy => by
      have hj : j = 0 := by have := (List.getElem?_eq_some_iff.1 hy).1; simpa using this
      subst hj
      cases hy
      simpa using class_at.2 ⟨w1, w2, w3, rfl, hnm, q1.ext, q2.ext, q3.ext⟩⟩⟩
    obtain ⟨T2, y1, y2, y3, c1, n1⟩ := i_classOfN h1 (t := x.name) (c := x) (by simp [firstOf]) (hb.2 x (List.mem_of_getElem? hx)) hnm
    rw [List.append_assoc] at c1 n1
    have n1' : New G.length _ (G ++ ([.mk true 4 [.str x.name, w1, w2, w3]] ++ T2)) shClass [.str x.name, y1, y2, y3] x.u := n1.wide (by simp) (Nat.le_refl _)
    obtain ⟨w', G', a3, hG', _, _⟩ := hG.push (T := [.mk true 4 [.str x.name, w1, w2, w3]] ++ T2) (d := .struct [(0, 9), (1, 26), (2, 26), (3, 26)]) (by_ := 88) (z := [.str [], .slc none 0, .slc none 0, .slc none 0]) (sz := 4) n1' rfl rfl (by decide) (by decide) (by decide) (by simp; unfold maxMade; omega)
    rw [← take_get hx] at hG'
    obtain ⟨_, _, _, hcy, _, b1, b2, b3⟩ := class_at.1 n1.at
    cases hcy
    have hw' := hG'.one
    have o1 := q1.one
    have o2 := q2.one
    have o3 := q3.one
    have p1 := b1.one
    have p2 := b2.one
    have p3 := b3.one
    have hid := lo_of l0
    have hnl' : ¬ lowV H w' := by
      rcases hG'.2 with ⟨_, h0⟩ | ⟨id', cs, Fs, g1, g2, rfl, _⟩
      · have := congrArg List.length h0; rw [List.length_take, List.length_nil] at this; omega
      · rintro ⟨own, es, cells, hh⟩
        have := (List.getElem?_eq_some_iff.1 hh).1
        omega
    simp only [List.append_assoc, List.length_append, List.cons_append, List.nil_append, List.length_cons] at a3 c1
    simp [r3, r9, r10, r11, hi, e1, l0, l4, hid, c1, a3, elemT, fillL, zerosL, St.new, buildV, o1, o2, o3, p1, p2, p3, hwo, hw', hw]
    exact ⟨k, by omega, i + 1, by omega, _, _, _, ⟨rfl, rfl, rfl⟩, w', by simp, by simp [r9], by simp [r10], by simp, hG', hnl'⟩

set_option maxRecDepth 10000 in
set_option maxHeartbeats 8000000 in
theorem i_copyEntries {H : List Ob} {vl : V} {l : List PEntry} (h : AEntries H vl l) (hb : l.length ≤ 1048576 ∧ ∀ c ∈ l, SmallE c) :
    ∃ T w, callW C 361 [vl] H = some (w, H ++ T) ∧ New H.length (H ++ T).length (H ++ T) (.slice shEntry) [w] (.lst (l.map PEntry.u)) ∧ ¬ lowV H w := by
  suffices hs : Ret C 361 [vl] H fun q H' => ∃ T, H' = H ++ T ∧ New H.length (H ++ T).length (H ++ T) (.slice shEntry) [q] (.lst (l.map PEntry.u)) ∧ ¬ lowV H q by
    obtain ⟨q, H', hc, T, rfl, hr⟩ := hs
    exact ⟨T, q, hc, hr⟩
  rw [op361]
  have hbl := hb.1
  simp [code361, Tryz.f361, elemT, fillL, zerosL, St.new, h.len]
  refine WP_loop (fun k σ => ∃ (i n : Nat) (r : Nat → R) (G : List Ob) (w : V), i + k = l.length ∧ σ = ⟨r, n, G⟩ ∧ r 3 = .val w ∧ r 7 = .val vl ∧ r 8 = .val (.int .i64 l.length) ∧ r 9 = .val (.int .i64 i) ∧ LstF H G shEntry PEntry.u w (l.take i) ∧ ¬ lowV H w) ?_ l.length _ ⟨0, _, _, H ++ [.mk true 2 []], .slc (some (H.length, 0)) 0, by simp, rfl, by simp, by simp, by simp, by simp, by rw [List.take_zero]; exact LstF.init (sh := shEntry), fun ⟨own, es, cells, h⟩ => by simp at h⟩
  rintro k σ ⟨i, n, r, G, w, hik, rfl, r3, r7, r8, r9, hG, hnl⟩
  obtain ⟨S, hS⟩ := hG.pre
  have hlG : AEntries G vl l := by rw [hS]; exact h.ext
  have hwo := hG.one
  cases k with
  | zero =>
    have hi : i = l.length := by omega
    subst hi
    rw [List.take_length] at hG
    have n2 := hG.new h.bound
    have hg : gcH H G w = G := gcH_not hnl
    simp [r3, r7, r8, r9, hg, hwo]
    exact ⟨S, hS, by rw [← List.length_append, ← hS]; exact n2, hnl⟩
  | succ k =>
    have hi : i < l.length := by omega
    obtain ⟨x, hx⟩ : ∃ c, l[i]? = some c := ⟨l[i], by simp [hi]⟩
    have hw : IntKind.i64.wrap ((i : Int) + 1) = ((i : Int) + 1) := wrap_i64 (by omega) (by omega)
    obtain ⟨id, o, v1, v2, e1, l0, l1, lm, a1, a2, _⟩ := entries_idx hlG hx
    have hid := lo_of l0
    obtain ⟨T2, y1, y2, c2, n2⟩ := i_copied a1 a2 (hb.2 x (List.mem_of_getElem? hx))
    obtain ⟨_, _, hcy, b1, b2⟩ := entry_at.1 n2.at
    cases hcy
    obtain ⟨w', G', a3, hG', _, _⟩ := hG.push (T := T2) (d := .struct [(0, 29), (1, 30)]) (by_ := 48) (z := [.slc none 0, .slc none 0]) (sz := 2) n2 rfl rfl (by decide) (by decide) (by decide) (by simp; unfold maxMade; omega)
    rw [← take_get hx] at hG'
    have hw' := hG'.one
    have o1 := a1.one
    have o2 := a2.one
    have p1 := b1.one
    have p2 := b2.one
    have hnl' : ¬ lowV H w' := by
      rcases hG'.2 with ⟨_, h0⟩ | ⟨id', cs, Fs, g1, g2, rfl, _⟩
      · have := congrArg List.length h0; rw [List.length_take, List.length_nil] at this; omega
      · rintro ⟨own, es, cells, hh⟩
        have := (List.getElem?_eq_some_iff.1 hh).1
        omega
    simp only [List.append_assoc, List.length_append] at a3
    simp [r3, r7, r8, r9, hi, e1, l0, l1, lm, hid, c2, a3, elemT, fillL, zerosL, St.new, buildV, structPlace, o1, o2, p1, p2, hwo, hw', hw]
    exact ⟨k, by omega, i + 1, by omega, _, _, _, ⟨rfl, rfl, rfl⟩, w', by simp, by simp [r7], by simp [r8], by simp, hG', hnl'⟩

set_option maxRecDepth 10000 in
set_option maxHeartbeats 4000000 in
theorem i_copiedT {H : List Ob} {vs ve : V} {t : PTree} (hs : AClasses H vs t.schema) (h : AEntries H ve t.entries) (hb : SmallT t) :
    ∃ T w1 w2, callW C 282 [.agg [vs, ve]] H = some (.agg [w1, w2], H ++ T) ∧ New H.length (H ++ T).length (H ++ T) shTree [w1, w2] t.u ∧ ¬ lowV H w1 := by
  suffices hs : Ret C 282 [.agg [vs, ve]] H fun q H' => ∃ T w1 w2, q = .agg [w1, w2] ∧ H' = H ++ T ∧ New H.length (H ++ T).length (H ++ T) shTree [w1, w2] t.u ∧ ¬ lowV H w1 by
    obtain ⟨q, H', hc, T, w1, w2, rfl, rfl, hr⟩ := hs
    exact ⟨T, w1, w2, hc, hr⟩
  rw [op282]
  have hos := hs.one
  have hoe := h.one
  obtain ⟨T1, w1, c1, n1, nl1⟩ := i_copySchema hs hb.1
  obtain ⟨K, hK⟩ : ∃ K, K = H ++ T1 := ⟨_, rfl⟩
  rw [← hK] at n1 c1
  obtain ⟨T2, w2, c2, n2, nl2⟩ := i_copyEntries (H := K) (by rw [hK]; exact h.ext) hb.2
  have o1 := New.one1 n1
  have o2 := New.one1 n2
  have hKl : H.length ≤ K.length := by rw [hK]; simp
  have hne : New H.length (K ++ T2).length (K ++ T2) shTree [w1, w2] t.u := New.st (News.cons (m := K.length) (c1 := [w1]) n1.ext (News.one n2 (by simp)) hKl (by simp))
  have hg : gcH H (K ++ T2) (.agg [w1, w2]) = K ++ T2 := gcH_not fun h => nl1 h.1
  simp [code282, Tryz.f282, hos, hoe, c1, c2, o1, o2, fillL, zerosL, buildV, structPlace, hg, regionL_none, regionL_some, List.lookup]
  exact ⟨T1 ++ T2, w1, w2, ⟨rfl, rfl⟩, by rw [hK]; simp, by rw [hK, List.append_assoc] at hne; simpa using hne, nl1⟩

theorem keepPre {H G : List Ob} (h : ∀ q, q < H.length → G[q]? = H[q]?) (hl : H.length ≤ G.length) : ∃ T, G = H ++ T := by
  refine ⟨G.drop H.length, List.ext_getElem? fun i => ?_⟩
  by_cases hi : i < H.length
  · rw [List.getElem?_append_left hi, h i hi]
  · rw [List.getElem?_append_right (by omega), List.getElem?_drop]
    congr 1
    omega

/-- What a change of a tree leaves: a code, or the tree changed in its place. -/
def ChgT (H : List Ob) (idt : Nat) (G : List Ob) (o : PTreeOut) (code : Int) (G' : List Ob) : Prop :=
  code = o.code ∧ (∀ q, q < H.length → G'[q]? = G[q]?) ∧ G.length ≤ G'.length ∧ (code = 0 → o.entries = [] ∧ ∃ w1 w2, G'[idt]? = some (.mk true 2 [w1, w2]) ∧ New H.length G'.length G' shTree [w1, w2] o.tree.u)

set_option maxRecDepth 10000 in
set_option maxHeartbeats 4000000 in
theorem i_treeChanged {H : List Ob} {vs ve : V} {t : PTree} {g : Nat} {b : List V} {o : PTreeOut} (hs : AClasses H vs t.schema) (h : AEntries H ve t.entries) (hb : SmallT t) (hill : o.code ≠ 0 → o = illT o.code) (hwf : (Lit.int .i64 o.code).wf = true)
    (hcall : ∀ K w1 w2, (∃ T, K = H ++ T) → New H.length K.length K shTree [w1, w2] t.u → ∃ code G', callW C g ([.ptr (some (K.length, 0))] ++ b) (K ++ [.mk true 2 [w1, w2]]) = some (.int .i64 code, G') ∧ ChgT H K.length (K ++ [.mk true 2 [w1, w2]]) o code G') :
    ∃ q H', callW C 180 [.agg [vs, ve], .fn g [] b] H = some (q, H') ∧ TOut H o q H' := by
  suffices hs : Ret C 180 [.agg [vs, ve], .fn g [] b] H fun q H' => TOut H o q H' by
    obtain ⟨q, H', hc, hr⟩ := hs
    exact ⟨q, H', hc, hr⟩
  rw [op180]
  have hos := hs.one
  have hoe := h.one
  obtain ⟨T1, d, a, c1, n1, _⟩ := i_copiedT hs h hb
  obtain ⟨K, hK⟩ : ∃ K, K = H ++ T1 := ⟨_, rfl⟩
  rw [← hK] at c1 n1
  obtain ⟨_, _, hcs, hd1, ha1⟩ := tree_at.1 n1.at
  cases hcs
  have hoD := hd1.one
  have hoA := ha1.one
  obtain ⟨code, G', c2, rfl, hfr, hlen, hok⟩ := hcall K d a ⟨T1, hK⟩ n1
  have hpre : ∃ T, G' = H ++ T := keepPre (fun q hq => by rw [hfr q hq, hK, List.append_assoc, List.getElem?_append_left hq]) (by rw [hK] at hlen; simp at hlen; omega)
  have st := storeN (H := K ++ [.mk true 2 [.slc none 0, .slc none 0]]) (o := 0) (l := [d, a]) get_last (by simp) (by simp) (by simp [hoD, hoA])
  simp at st
  by_cases g0 : o.code = 0
  · obtain ⟨k0, d', a', k1, k2⟩ := hok g0
    obtain ⟨_, _, hcs, hd2, ha2⟩ := tree_at.1 k2.at
    cases hcs
    have hoD' := hd2.one
    have hoA' := ha2.one
    have ld := loadN (o := 0) (n := 2) k1 (by simp) (by decide) rfl
    simp at ld
    obtain ⟨T, rfl⟩ := hpre
    obtain ⟨T', q, rfl, hg, hfin⟩ := TOut.new k2
    obtain ⟨ot, oe, oc⟩ := o
    simp only at g0 c2 hfin k0
    subst g0 k0
    simp at c2
    simp [code180, Tryz.f180, c1, c2, hos, hoe, hoD, hoA, hoD', hoA', strideOf, st, ld, buildV, structPlace, fillL, hg]
    exact hfin
  · have hgc : gcH H G' (.agg [.slc none 0, .slc none 0, .slc none 0, .int .i64 o.code]) = H := by
      obtain ⟨T, rfl⟩ := hpre
      exact gcH_low (by simp [lowV, lowVs])
    have hfin : TOut H o (.agg [.slc none 0, .slc none 0, .slc none 0, .int .i64 o.code]) H := by
      have := TOut.ill (H := H) hwf
      rw [← hill g0] at this
      exact this
    simp at c2
    simp [code180, Tryz.f180, c1, c2, hos, hoe, hoD, hoA, strideOf, st, g0, buildV, structPlace, fillL, hgc]
    exact hfin
end Go.Proofs.Try1
end

section
namespace Go.Proofs.Try1
open Go Go.Lite
set_option linter.unusedSimpArgs false
set_option linter.unusedVariables false

end Go.Proofs.Try1
end

section
namespace Go.Proofs.Try1
open Go Go.Lite
set_option linter.unusedSimpArgs false
set_option linter.unusedVariables false

/-- What the search tells of the first entry of a key. -/
theorem search_first {l : List PEntry} {key : Str} {i : Nat} {ok : Bool} (hp : l.Pairwise fun a b => keyE a < keyE b) (hlo : ∀ q a, q < i → l[q]? = some a → LtS (keyE a) key) (hhi : ∀ q a, i ≤ q → l[q]? = some a → ¬ LtS (keyE a) key) (hok : ok = true ↔ ∃ a, l[i]? = some a ∧ keyE a = key) :
    (ok = false → firstOf keyE l key = none) ∧ (ok = true → ∃ x, l[i]? = some x ∧ keyE x = key ∧ firstOf keyE l key = some x) := by
  refine ⟨fun h => first_none fun y hy he => ?_, fun h => ?_⟩
  · obtain ⟨j, hj, rfl⟩ := List.getElem_of_mem hy
    rcases Nat.lt_trichotomy j i with hh | hh | hh
    · have := hlo j _ hh (List.getElem?_eq_getElem hj)
      rw [he] at this
      exact LtS_irrefl _ this
    · subst hh
      have := hok.2 ⟨_, List.getElem?_eq_getElem hj, he⟩
      rw [h] at this; cases this
    · have h1 := hhi i _ (Nat.le_refl _) (List.getElem?_eq_getElem (by omega))
      have h2 := List.pairwise_iff_getElem.1 hp i j (by omega) hj hh
      rw [he] at h2
      exact h1 ((LtS_iff _ _).2 h2)
  · obtain ⟨x, hx, he⟩ := hok.1 h
    exact ⟨x, hx, he, first_uniq hp hx he⟩

end Go.Proofs.Try1
end

section
namespace Go.Proofs.Try1
open Go Go.Lite
set_option linter.unusedSimpArgs false
set_option linter.unusedVariables false

theorem TOut.base {H : List Ob} {X : List Ob} {o : PTreeOut} {q : V} {H' : List Ob} (h : TOut (H ++ X) o q H') : TOut H o q (gcH H H' q) := by
  obtain ⟨T, w1, w2, w3, rfl, rfl, h3⟩ := h
  rw [List.append_assoc] at h3 ⊢
  obtain ⟨T', h4, h5⟩ := (h3.wide (b' := H.length) (by simp) (Nat.le_refl _)).gcA
  exact ⟨T', w1, w2, w3, rfl, h4, h5⟩

/-- A tree's cells, each with its own objects. -/
theorem tree_parts {G : List Ob} {w1 w2 : V} {t : PTree} {b e : Nat} (h : New b e G shTree [w1, w2] t.u) : ∃ F1 F2, AtF G (.slice shClass) [w1] (.lst (t.schema.map PClass.u)) F1 ∧ AtF G (.slice shEntry) [w2] (.lst (t.entries.map PEntry.u)) F2 ∧ F1.Nodup ∧ F2.Nodup ∧ (∀ q ∈ F1, q ∉ F2) ∧ (∀ q ∈ F1, b ≤ q) ∧ (∀ q ∈ F2, b ≤ q) := by
  obtain ⟨F, f1, f2, f3⟩ := h
  obtain ⟨us, hus, f4⟩ := AtF_st.1 f1
  cases hus
  obtain ⟨c1', c2', u1, us1, F1, F2, hcs, hu, rfl, f5, f6⟩ := AtsF_cons.1 f4
  cases hu
  obtain ⟨c3', c4', u2, us2, F3, F4, rfl, hu, rfl, f7, f8⟩ := AtsF_cons.1 f6
  cases hu
  obtain ⟨rfl, _, rfl⟩ := AtsF_nil.1 f8
  obtain ⟨x1, _, rfl, _⟩ := AtF_slice.1 f5
  obtain ⟨x2, _, rfl, _⟩ := AtF_slice.1 f7
  simp only [List.append_nil, List.cons_append, List.nil_append, List.cons.injEq, and_true] at hcs
  obtain ⟨rfl, rfl⟩ := hcs
  rw [List.append_nil] at f2 f3
  obtain ⟨fa, fb, fc⟩ := List.nodup_append.1 f2
  exact ⟨F1, F3, f5, f7, fa, fb, fun q h1 h2 => fc q h1 q h2 rfl, fun q hq => (f3 q (List.mem_append_left _ hq)).1, fun q hq => (f3 q (List.mem_append_right _ hq)).1⟩
theorem tree_join {G : List Ob} {w1 w2 : V} {t : PTree} {b : Nat} {F1 F2 : List Nat} (h1 : AtF G (.slice shClass) [w1] (.lst (t.schema.map PClass.u)) F1) (h2 : AtF G (.slice shEntry) [w2] (.lst (t.entries.map PEntry.u)) F2) (n1 : F1.Nodup) (n2 : F2.Nodup) (hd : ∀ q ∈ F1, q ∉ F2) (b1 : ∀ q ∈ F1, b ≤ q) (b2 : ∀ q ∈ F2, b ≤ q) : New b G.length G shTree [w1, w2] t.u :=
  ⟨F1 ++ F2, AtF_st.2 ⟨_, rfl, AtsF_cons.2 ⟨[w1], [w2], _, _, F1, F2, rfl, rfl, rfl, h1, AtsF_cons.2 ⟨[w2], [], _, _, F2, [], rfl, rfl, by simp, h2, AtsF_nil.2 ⟨rfl, rfl, rfl⟩⟩⟩⟩, List.nodup_append.2 ⟨n1, n2, fun x hx y hy e => hd x hx (e ▸ hy)⟩, fun q hq => by
    rcases List.mem_append.1 hq with hq | hq
    · exact ⟨b1 q hq, AtF.mem _ h1 q hq⟩
    · exact ⟨b2 q hq, AtF.mem _ h2 q hq⟩⟩

end Go.Proofs.Try1
end

section
namespace Go.Lite
open Go
set_option linter.unusedSimpArgs false
set_option linter.unusedVariables false

variable {H T : List Ob}


theorem ASl.shape {α : Type} {sh : Sh} {f : α → U} {v : V} {l : List α} (h : ASl H sh f v l) : ∃ p, v = .slc p l.length := by
  rcases h.sub with ⟨rfl, rfl⟩ | ⟨id, off, own, cells, rfl, _⟩ <;> exact ⟨_, rfl⟩

theorem gcH_noext {G G' : List Ob} {r : V} (h : ¬ Ext G G') : gcH G G' r = G' := by
  unfold gcH
  rw [if_neg fun hc => h hc.1]
end Go.Lite
end

section
namespace Go.Lite
open Go
set_option linter.unusedSimpArgs false
set_option linter.unusedVariables false

section
variable {B G : List Ob} {sh : Sh} {cs xs : List V} {us : List U} {Fs : List (List Nat)} {v : V} {s n m : Nat}
/-- The same append, and what it leaves. -/
theorem Rw.manyF (h : Rw s B G v n cs) {d : LD} {by_ : Nat} {z : List V} {x : V} (hx : newCells ⟨d, s, by_, z⟩ G x = some (xs, m)) (hm : xs.length = m * s) (ho : xs.all isOne = true)
    (hz : z.length = s) (h0 : 0 < s) (hb0 : 0 < by_) (hb1 : by_ ≤ 1000000) (hb : (n + m) * by_ ≤ maxMade) :
    ∃ v' G', appendV ⟨d, s, by_, z⟩ G v x = some (v', G') ∧ Rw s B G' v' (n + m) (cs ++ xs) ∧ G.length ≤ G'.length ∧ (∀ q, q < G.length → (∀ k, v ≠ .slc (some (q, 0)) k) → G'[q]? = G[q]?) ∧ ((v' = v ∧ m = 0) ∨ v' = .slc (some (G.length, 0)) (n + m)) := by
  by_cases hm0 : m = 0
  · subst hm0
    have hx0 : xs = [] := List.length_eq_zero_iff.1 (by omega)
    subst hx0
    refine ⟨v, G, ?_, by simpa using h, Nat.le_refl _, fun _ _ _ => rfl, .inl ⟨rfl, rfl⟩⟩
    unfold appendV
    rw [if_pos (by simp [growOk, h0, hb0, hb1, hz]), hx]
    simp only [if_true]
    rcases h.2.2 with ⟨rfl, _⟩ | ⟨id, rfl, _⟩ <;> rfl
  obtain ⟨⟨T, rfl⟩, h2, h3⟩ := h
  rcases h3 with ⟨rfl, rfl⟩ | ⟨id, rfl, q2, q3⟩
  · have hc0 : cs = [] := List.length_eq_zero_iff.1 (by omega)
    subst hc0
    refine ⟨_, _, appendV_nil hz h0 hb0 hb1 hx hm0 ho (by simpa using hb), ⟨⟨T ++ [.mk true s xs], by simp⟩, by simp [hm], .inr ⟨(B ++ T).length, by simp, by simp, ?_⟩⟩, by simp, fun q hq _ => List.getElem?_append_left hq, .inr (by simp)⟩
    rw [List.nil_append]; exact get_last
  · have hl : ((B ++ T).set id .dead).length = (B ++ T).length := List.length_set
    refine ⟨_, _, appendV_row hz h0 hb0 hb1 q3 h2 hx hm0 ho hb, ⟨⟨T.set (id - B.length) .dead ++ [.mk true s (cs ++ xs)], ?_⟩, by simp [h2, hm, Nat.add_mul], .inr ⟨(B ++ T).length, rfl, by simp, ?_⟩⟩, by simp, fun q hq hne => ?_, .inr rfl⟩
    · rw [List.set_append_right _ _ q2, List.append_assoc]
    · rw [← hl, get_last]
    · rw [List.getElem?_append_left (by rw [hl]; exact hq), List.getElem?_set_ne (fun e => hne n (by rw [e]))]

/-- A row of elements whose objects stand anywhere but in the row. -/
theorem Rw.slG (h : Rw sh.size B G v n cs) (hr : RowsOk G sh cs us Fs) (hl : us.length = n) (hb : n ≤ maxLen) (hn : Fs.flatten.Nodup) (hni : ∀ id, v = .slc (some (id, 0)) n → id ∉ Fs.flatten) :
    ∃ F, AtF G (.slice sh) [v] (.lst us) F ∧ F.Nodup ∧ ∀ q ∈ F, q ∈ Fs.flatten ∨ v = .slc (some (q, 0)) n := by
  obtain ⟨⟨T, rfl⟩, h2, h3⟩ := h
  subst hl
  rcases h3 with ⟨rfl, h0⟩ | ⟨id, rfl, q2, q3⟩
  · have hu : us = [] := List.length_eq_zero_iff.1 h0
    subst hu
    exact ⟨[], AtF_slice.2 ⟨_, _, rfl, rfl, by simp, .inl ⟨rfl, rfl, rfl⟩⟩, List.nodup_nil, fun q hq => by cases hq⟩
  · refine ⟨id :: Fs.flatten, AtF_slice.2 ⟨_, _, rfl, rfl, hb, .inr ⟨id, 0, cs, Fs, rfl, q3, by rw [hr.1]; omega, hr.2.1, rfl, fun i x F hx hF => ?_⟩⟩, List.nodup_cons.2 ⟨hni id rfl, hn⟩, fun q hq => ?_⟩
    · rw [Nat.zero_add]
      exact hr.2.2 i x F hx hF
    · rcases List.mem_cons.1 hq with rfl | hq
      · exact .inr rfl
      · exact .inl hq
end
end Go.Lite
end

section
namespace Go.Proofs.Try1
open Go Go.Lite
set_option linter.unusedSimpArgs false
set_option linter.unusedVariables false

/-- An entry in its place. -/
noncomputable def putE (l : List PEntry) (e : PEntry) : List PEntry := l.filter (fun x => dec (LtS (keyE x) (keyE e))) ++ e :: l.filter (fun x => !dec (LtS (keyE x) (keyE e)))

theorem putE_at {l : List PEntry} {e : PEntry} {i : Nat} (h1 : ∀ q a, q < i → l[q]? = some a → LtS (keyE a) (keyE e)) (h2 : ∀ q a, i ≤ q → l[q]? = some a → ¬ LtS (keyE a) (keyE e)) : putE l e = l.take i ++ e :: l.drop i := by
  unfold putE
  rw [filt_take (i := i) (fun q x hq hx => dec_pos (h1 q x hq hx)) (fun q x hq hx => dec_neg (h2 q x hq hx)), filt_drop (i := i) (fun q x hq hx => by rw [dec_pos (h1 q x hq hx)]; rfl) (fun q x hq hx => by rw [dec_neg (h2 q x hq hx)]; rfl)]

theorem rise_from {l : List PEntry} {e : PEntry} {i : Nat} (hp : l.Pairwise fun a b => keyE a < keyE b) (h : ∀ x, l[i]? = some x → ¬ LtS (keyE x) (keyE e)) : ∀ q a, i ≤ q → l[q]? = some a → ¬ LtS (keyE a) (keyE e) := by
  intro q a hq ha hlt
  obtain ⟨hql, rfl⟩ := List.getElem?_eq_some_iff.1 ha
  by_cases e : i = q
  · subst e; exact h _ ha hlt
  · have h1 := List.pairwise_iff_getElem.1 hp i q (by omega) hql (by omega)
    exact h _ (List.getElem?_eq_getElem (by omega)) (LtS_trans ((LtS_iff _ _).2 h1) hlt)

set_option maxRecDepth 10000 in
set_option maxHeartbeats 8000000 in
theorem s_PutT {H : List Ob} {vs ve v1 v2 : V} {t : PTree} {e : PEntry} (hs : AClasses H vs t.schema) (h : AEntries H ve t.entries) (hd : ARdns H v1 e.dn) (ha : AAttrs H v2 e.attrs) (hb : SmallT t) (hbe : SmallE e) (hok : ∀ x ∈ t.entries, DnOk x.dn) (hde : DnOk e.dn)
    (hp : t.entries.Pairwise fun a b => keyE a < keyE b) (hel : t.entries.length ≤ 1000) :
    ∃ T w1 w2, callW C 286 [.agg [vs, ve], .agg [v1, v2]] H = some (.agg [w1, w2], H ++ T) ∧ New H.length (H ++ T).length (H ++ T) shTree [w1, w2] (PTree.u ⟨t.schema, putE t.entries e⟩) := by
  suffices hs : Ret C 286 [.agg [vs, ve], .agg [v1, v2]] H fun q H' => ∃ T w1 w2, q = .agg [w1, w2] ∧ H' = H ++ T ∧ New H.length (H ++ T).length (H ++ T) shTree [w1, w2] (PTree.u ⟨t.schema, putE t.entries e⟩) by
    obtain ⟨q, H', hc, T, w1, w2, rfl, rfl, hr⟩ := hs
    exact ⟨T, w1, w2, hc, hr⟩
  rw [op286]
  have hos := hs.one
  have hoe := h.one
  have hod := hd.one
  have hoa := ha.one
  obtain ⟨T1, w1, w2, c1, n1⟩ := s_CopyT hs h hb
  obtain ⟨K, hK⟩ : ∃ K, K = H ++ T1 := ⟨_, rfl⟩
  rw [← hK] at n1 c1
  have hKl : H.length ≤ K.length := by rw [hK]; simp
  obtain ⟨_, _, hcs, hw1, hw2⟩ := tree_at.1 n1.at
  cases hcs
  have ho1 := hw1.one
  have ho2 := hw2.one
  have hdK : ARdns K v1 e.dn := by rw [hK]; exact hd.ext
  have haK : AAttrs K v2 e.attrs := by rw [hK]; exact ha.ext
  have hkey := s_Key hdK hde
  have hn : t.entries.length ≤ 9223372036854775807 := by omega
  obtain ⟨key, hkeq⟩ : ∃ key, key = keyE e := ⟨_, rfl⟩
  simp [code286, Tryz.f286, hos, hoe, hod, hoa, c1, fillL, zerosL, buildV, structPlace, ho1, ho2]
  refine WP.mono (Q := fun ex σ' => ∃ (i n : Nat) (r : Nat → R), ex = .exit 0 ∧ σ' = ⟨r, n, K⟩ ∧ r 3 = .box 1 [v1, v2] ∧ r 4 = .box 2 [.slc none 0, .slc none 0] ∧ r 5 = .box 3 [w1, w2] ∧ r 6 = .val (.int .i64 i) ∧ i ≤ t.entries.length ∧ (∀ q a, q < i → t.entries[q]? = some a → LtS (keyE a) (keyE e)) ∧ (∀ x, t.entries[i]? = some x → ¬ LtS (keyE x) (keyE e))) ?_ ?_
  · refine WP_loop (fun k σ => ∃ (i n : Nat) (r : Nat → R), i + k = t.entries.length ∧ σ = ⟨r, n, K⟩ ∧ r 3 = .box 1 [v1, v2] ∧ r 4 = .box 2 [.slc none 0, .slc none 0] ∧ r 5 = .box 3 [w1, w2] ∧ r 6 = .val (.int .i64 i) ∧ (∀ q a, q < i → t.entries[q]? = some a → LtS (keyE a) (keyE e))) ?_ t.entries.length _ ⟨0, _, _, by simp, rfl, by simp, by simp, by simp, by simp, by simp⟩
    rintro k σ ⟨i, n, r, hik, rfl, r3, r4, r5, r6, hall⟩
    cases k with
    | zero =>
      have hi : i = t.entries.length := by omega
      subst hi
      simp [r3, r4, r5, r6, hw2.len, regionL_none, regionL_some, List.lookup]
      exact ⟨t.entries.length, _, _, ⟨rfl, rfl⟩, by simp [r3], by simp [r4], by simp [r5], by simp [r6], Nat.le_refl _, hall, fun x hx => by simp at hx⟩
    | succ k =>
      have hi : i < t.entries.length := by omega
      obtain ⟨x, hx⟩ : ∃ c, t.entries[i]? = some c := ⟨t.entries[i], by simp [hi]⟩
      have hw : IntKind.i64.wrap ((i : Int) + 1) = ((i : Int) + 1) := wrap_i64 (by omega) (by omega)
      obtain ⟨id, o, x1, x2, e1, l0, l1, lm, a1, a2, _⟩ := entries_idx hw2 hx
      have hid := lo_of l0
      have c2 := s_Key a1 (hok x (List.mem_of_getElem? hx))
      by_cases g : LtS (keyE x) (keyE e)
      · have g' := LtS_dec g
        simp [r3, r4, r5, r6, hi, hw2.len, e1, l0, l1, hid, c2, hkey, g', hw, hod, hoa, regionL_none, regionL_some, List.lookup]
        refine ⟨k, by omega, i + 1, by omega, _, _, ⟨rfl, rfl⟩, by simp [r3], by simp [r4], by simp [r5], by simp, fun q a hq haq => ?_⟩
        by_cases hqi : q = i
        · subst hqi; rw [hx] at haq; cases haq; exact g
        · exact hall q a (by omega) haq
      · have g' := LtS_no g
        simp [r3, r4, r5, r6, hi, hw2.len, e1, l0, l1, hid, c2, hkey, g', hw, hod, hoa, regionL_none, regionL_some, List.lookup]
        refine ⟨i, _, _, ⟨rfl, rfl⟩, by simp [r3], by simp [r4], by simp [r5], by simp [r6], by omega, hall, fun y hy => ?_⟩
        rw [hx] at hy; cases hy; exact g
  · rintro ex σ' ⟨i, n, r, rfl, rfl, r3, r4, r5, r6, hil, hlo, hst⟩
    have hhi := rise_from hp hst
    have hput := putE_at hlo hhi
    obtain ⟨F1, F2, f1, f2, d1, d2, hdj, b1, b2⟩ := tree_parts n1
    have hsz : shEntry.size = 2 := rfl
    obtain ⟨p, cs, Fs, hw2v, hr, hnf, hsub, hpp⟩ := f2.rows d2
    rw [List.length_map] at hw2v hpp
    have hrl := hr.1
    rw [List.length_map, hsz] at hrl
    have hones := hr.ones
    have hS : ∃ s1 s2 : V, (∀ d by_ z, newCells ⟨d, 2, by_, z⟩ (K ++ [.mk true 2 []]) s1 = some (cs.take (i * 2), i)) ∧ (∀ G, (∃ S, G = K ++ S) → ∀ d by_ z, newCells ⟨d, 2, by_, z⟩ G s2 = some (cs.drop (i * 2), t.entries.length - i)) ∧
        ((w2 = .slc none 0 ∧ s1 = .slc none 0 ∧ s2 = .slc none 0 ∧ i = 0 ∧ t.entries.length = 0) ∨ ∃ id off, w2 = .slc (some (id, off)) t.entries.length ∧ s1 = .slc (some (id, off)) i ∧ s2 = .slc (some (id, off + i * 2)) (t.entries.length - i) ∧ ∀ G, (∃ S, G = K ++ S) → strideIs G id 2 = true) := by
      rcases hpp with ⟨rfl, h0⟩ | ⟨id, off, cells, rfl, hcell, hidF, hidn, hnc⟩
      · have h0 : t.entries = [] := by simpa using h0
        have hl0 : t.entries.length = 0 := by rw [h0]; rfl
        have hi0 : i = 0 := by omega
        have hc0 : cs = [] := List.length_eq_zero_iff.1 (by omega)
        subst hi0 hc0
        exact ⟨.slc none 0, .slc none 0, fun d by_ z => by simp [newCells, slcCells], fun G _ d by_ z => by simp [newCells, slcCells, hl0], .inl ⟨by rw [hw2v, hl0], rfl, rfl, rfl, hl0⟩⟩
      · rw [hsz] at hcell hnc
        have hidl : id < K.length := (List.getElem?_eq_some_iff.1 hcell).1
        refine ⟨.slc (some (id, off)) i, .slc (some (id, off + i * 2)) (t.entries.length - i), fun d by_ z => ?_, fun G ⟨S, hG⟩ d by_ z => ?_, .inr ⟨id, off, hw2v, rfl, rfl, fun G ⟨S, hG⟩ => ?_⟩⟩
        · have := hnc d by_ z (K ++ [.mk true 2 []]) 0 i (List.getElem?_append_left hidl) (by omega) hil
          simpa using this
        · have := hnc d by_ z G i t.entries.length (by rw [hG, List.getElem?_append_left hidl]) hil (Nat.le_refl _)
          rw [List.take_of_length_le (by simp; omega)] at this
          exact this
        · rw [hG]; simp [strideIs, List.getElem?_append_left hidl, hcell]
    obtain ⟨s1, s2, nc1, nc2, hcase⟩ := hS
    have R0 : Rw 2 K (K ++ [.mk true 2 []]) (.slc (some (K.length, 0)) 0) 0 [] := Rw.init ⟨[], by simp⟩
    have hone1 : (cs.take (i * 2)).all isOne = true := List.all_eq_true.2 fun x hx => List.all_eq_true.1 hones x (List.mem_of_mem_take hx)
    have hone2 : (cs.drop (i * 2)).all isOne = true := List.all_eq_true.2 fun x hx => List.all_eq_true.1 hones x (List.mem_of_mem_drop hx)
    obtain ⟨x1, G1, a1, R1, le1, fr1, id1⟩ := R0.manyF (d := .struct [(0, 29), (1, 30)]) (by_ := 48) (z := [.slc none 0, .slc none 0]) (nc1 _ _ _) (by simp; omega) hone1 rfl (by decide) (by decide) (by decide) (by unfold maxMade; omega)
    obtain ⟨S1, hS1⟩ := R1.pre
    obtain ⟨T2, y1, y2, c3, n3⟩ := s_Copy (H := G1) (by rw [hS1]; exact hdK.ext) (by rw [hS1]; exact haK.ext) hbe
    obtain ⟨Fe, e1, e2, e3⟩ := n3
    obtain ⟨_, _, hcy, b3, b4⟩ := entry_at.1 (AtF.at _ e1)
    cases hcy
    have p1 := b3.one
    have p2 := b4.one
    have R1e : Rw 2 K (G1 ++ T2 ++ [.mk true 2 [y1, y2]]) x1 (0 + i) ([] ++ cs.take (i * 2)) := by rw [List.append_assoc]; exact R1.ext
    obtain ⟨x2, G2, a2, R2, le2, fr2, id2⟩ := R1e.manyF (d := .struct [(0, 29), (1, 30)]) (by_ := 48) (z := [.slc none 0, .slc none 0]) (newCells_tmp (c := [y1, y2]) (by simp)) rfl (by simp [p1, p2]) rfl (by decide) (by decide) (by decide) (by unfold maxMade; omega)
    have id2 := id2.resolve_left fun hh => by have := hh.2; omega
    obtain ⟨S2, hS2⟩ := R2.pre
    obtain ⟨x3, G3, a3, R3, le3, fr3, id3⟩ := R2.manyF (d := .struct [(0, 29), (1, 30)]) (by_ := 48) (z := [.slc none 0, .slc none 0]) (nc2 G2 ⟨S2, hS2⟩ _ _ _) (by simp; omega) hone2 rfl (by decide) (by decide) (by decide) (by unfold maxMade; omega)
    obtain ⟨S3, hS3⟩ := R3.pre
    have hul : i ≤ (t.entries.map PEntry.u).length := by rw [List.length_map]; omega
    have fK : ∀ q, q < K.length → G3[q]? = K[q]? := fun q hq => by rw [hS3, List.getElem?_append_left hq]
    have q1 := (hr.take hul).frame (G := G3) fun q hq => fK q ((hr.take hul).mem q hq)
    have q3 := (hr.drop hul).frame (G := G3) fun q hq => fK q ((hr.drop hul).mem q hq)
    have hFel : ∀ q ∈ Fe, G1.length ≤ q ∧ q < (G1 ++ T2).length := e3
    have hx1 : ∀ q ∈ Fe, ∀ k, x1 ≠ .slc (some (q, 0)) k := fun q hq k hk => by
      rcases R1.2.2 with ⟨hv, _⟩ | ⟨id, hv, _, hg⟩
      · rw [hv] at hk; cases hk
      · rw [hv] at hk
        simp only [V.slc.injEq, Option.some.injEq, Prod.mk.injEq, and_true] at hk
        have := (List.getElem?_eq_some_iff.1 hg).1
        have := (hFel q hq).1
        omega
    have hlen3 : (G1 ++ T2 ++ [Ob.mk true 2 [y1, y2]]).length = (G1 ++ T2).length + 1 := by simp; omega
    have fE : ∀ q ∈ Fe, G3[q]? = (G1 ++ T2)[q]? := fun q hq => by
      have h2 := (hFel q hq).2
      rw [fr3 q (by omega) (fun k hk => by
        rw [id2] at hk
        simp only [V.slc.injEq, Option.some.injEq, Prod.mk.injEq, and_true] at hk
        omega), fr2 q (by omega) (hx1 q hq), List.getElem?_append_left h2]
    have q2 : RowsOk G3 shEntry [y1, y2] [e.u] [Fe] := RowsOk.one (AtF.frame _ fE e1)
    have hrow := (q1.append q2).append q3
    have hFsl : ∀ q ∈ Fs.flatten, q < K.length := hr.mem
    have hnd : (Fs.take i ++ [Fe] ++ Fs.drop i).flatten.Nodup := by
      have := flatten_ins_nodup (i := i) hnf e2 (fun q hq hm => by
        have h1 := hFsl q hm
        have h2 := (hFel q hq).1
        rw [hS1] at h2
        simp at h2
        omega)
      simpa using this
    have R3' : Rw shEntry.size K G3 x3 (0 + i + 1 + (t.entries.length - i)) (cs.take (i * shEntry.size) ++ [y1, y2] ++ cs.drop (i * shEntry.size)) := by simpa [hsz] using R3
    have hK1 : K.length ≤ G1.length := by rw [hS1]; simp
    have hni : ∀ id, x3 = .slc (some (id, 0)) (0 + i + 1 + (t.entries.length - i)) → id ∉ (Fs.take i ++ [Fe] ++ Fs.drop i).flatten := fun id hid hm => by
      have hge : (G1 ++ T2).length ≤ id := by
        rcases id3 with ⟨h1, _⟩ | h1
        · rw [h1, id2] at hid
          simp only [V.slc.injEq, Option.some.injEq, Prod.mk.injEq, and_true] at hid
          omega
        · rw [h1] at hid
          simp only [V.slc.injEq, Option.some.injEq, Prod.mk.injEq, and_true] at hid
          omega
      have hle : G1.length ≤ (G1 ++ T2).length := by simp
      have : id ∈ Fs.flatten ∨ id ∈ Fe := (flatten_ins (i := i) (Fs := Fs) (K := Fe) id).1 (by simpa using hm)
      rcases this with hh | hh
      · have := hFsl id hh; omega
      · have := (hFel id hh).2; omega
    obtain ⟨F', g1, g2, g3⟩ := R3'.slG hrow (by simp; omega) (by unfold maxLen; omega) hnd hni
    have eus : (t.entries.map PEntry.u).take i ++ [e.u] ++ (t.entries.map PEntry.u).drop i = (putE t.entries e).map PEntry.u := by rw [hput]; simp
    rw [eus] at g1
    have gm := AtF.mem _ g1
    have hge3 : ∀ q ∈ F', q ∈ Fs.flatten ∨ K.length ≤ q := fun q hq => by
      rcases g3 q hq with hh | hh
      · rcases (flatten_ins (i := i) (Fs := Fs) (K := Fe) q).1 (by simpa using hh) with h1 | h1
        · exact .inl h1
        · exact .inr (by have := (hFel q h1).1; omega)
      · rcases R3'.2.2 with ⟨hv, _⟩ | ⟨id, hv, hid, _⟩
        · rw [hv] at hh; cases hh
        · rw [hv] at hh
          simp only [V.slc.injEq, Option.some.injEq, Prod.mk.injEq, and_true] at hh
          exact .inr (by omega)
    have hne : New H.length G3.length G3 shTree [w1, x3] (PTree.u ⟨t.schema, putE t.entries e⟩) := tree_join (t := ⟨t.schema, putE t.entries e⟩) (AtF.frame _ (fun q hq => fK q (AtF.mem _ f1 q hq)) f1) g1 d1 g2
      (fun q h1 h2 => by
        rcases hge3 q h2 with hh | hh
        · exact hdj q h1 (hsub q hh)
        · have := AtF.mem _ f1 q h1; omega) b1 (fun q hq => by
        rcases hge3 q hq with hh | hh
        · exact b2 q (hsub q hh)
        · omega)
    obtain ⟨T', hg, hn'⟩ := (show New H.length G3.length (H ++ (T1 ++ S3)) shTree [w1, x3] (PTree.u ⟨t.schema, putE t.entries e⟩) by rw [← List.append_assoc, ← hK, ← hS3]; exact hne).gcA
    rw [← List.append_assoc, ← hK, ← hS3] at hg
    have o1 := R1.one
    have o2 := R2.one
    have o3 := R3.one
    simp only [List.append_assoc, List.length_append] at a2
    rcases hcase with ⟨hw0, rfl, rfl, hi0, hl0⟩ | ⟨id, off, hw0, rfl, rfl, hstr⟩
    · subst hw0 hi0
      simp [r3, r4, r5, r6, elemT, fillL, zerosL, St.new, buildV, structPlace, ho1, o1, o2, o3, p1, p2, hod, hoa, a1, a2, a3, c3, hg]
      exact ⟨T', w1, x3, ⟨rfl, rfl⟩, rfl, by simpa using hn'⟩
    · subst hw0
      have st0 := hstr (K ++ [.mk true 2 []]) ⟨_, rfl⟩
      have st2 := hstr G2 ⟨S2, hS2⟩
      simp [r3, r4, r5, r6, elemT, fillL, zerosL, St.new, buildV, structPlace, ho1, o1, o2, o3, p1, p2, hod, hoa, a1, a2, a3, c3, st0, st2, hil, hg]
      exact ⟨T', w1, x3, ⟨rfl, rfl⟩, rfl, by simpa using hn'⟩
end Go.Proofs.Try1
end

section
namespace Go.Proofs.Try1
open Go Go.Lite
set_option linter.unusedSimpArgs false
set_option linter.unusedVariables false

/-- What TreeAdd answers. -/
noncomputable def addTCode (t : PTree) (e : PEntry) : Int :=
  if ¬ firstOf keyE t.entries (keyE e) = none then 7 else if ¬ dec (ParentOk t.entries e.dn) = true then 6 else if ¬ dec (FitsOk t.schema e) = true then 12 else if 20 ≤ t.entries.length then 9 else 0
noncomputable def addTOf (t : PTree) (e : PEntry) : PTreeOut := if addTCode t e = 0 then ⟨⟨t.schema, putE t.entries e⟩, [], 0⟩ else illT (addTCode t e)
noncomputable def treeAddOf (t : PTree) (e : PEntry) : PTreeOut := if dec (TreeOk t ∧ EntryOk e) = true then addTOf t e else illT 1

theorem addTOf_code {t : PTree} {e : PEntry} : (addTOf t e).code = addTCode t e := by
  unfold addTOf
  split
  · rename_i h; exact h.symm
  · rfl
theorem addTOf_ill {t : PTree} {e : PEntry} (h : (addTOf t e).code ≠ 0) : addTOf t e = illT (addTOf t e).code := by
  rw [addTOf_code] at h ⊢
  unfold addTOf
  rw [if_neg h]
theorem addTCode_wf {t : PTree} {e : PEntry} : (Lit.int .i64 (addTCode t e)).wf = true := by
  unfold addTCode
  split
  · exact wf_code (n := 7) (by decide) (by decide)
  · split
    · exact wf_code (n := 6) (by decide) (by decide)
    · split
      · exact wf_code (n := 12) (by decide) (by decide)
      · split
        · exact wf_code (n := 9) (by decide) (by decide)
        · exact wf_code (n := 0) (by decide) (by decide)

set_option maxRecDepth 10000 in
set_option maxHeartbeats 8000000 in
theorem s_AddT {H : List Ob} {vs ve v1 v2 : V} {t : PTree} {e : PEntry} (hs : AClasses H vs t.schema) (h : AEntries H ve t.entries) (hd : ARdns H v1 e.dn) (ha : AAttrs H v2 e.attrs) (gt : TreeOk t) (ge : EntryOk e) :
    ∃ q H', callW C 185 [.agg [vs, ve], .agg [v1, v2]] H = some (q, H') ∧ TOut H (addTOf t e) q H' := by
  suffices hs : Ret C 185 [.agg [vs, ve], .agg [v1, v2]] H fun q H' => TOut H (addTOf t e) q H' by
    obtain ⟨q, H', hc, hr⟩ := hs
    exact ⟨q, H', hc, hr⟩
  rw [op185]
  have hos := hs.one
  have hoe := h.one
  have hod := hd.one
  have hoa := ha.one
  have hokd : ∀ x ∈ t.entries, DnOk x.dn := fun x hx => (TreeOk.dns gt x hx).2.1
  have gd := ge.2.1
  have c7 := s_IllT (H := H) (c := 7)
  have c6 := s_IllT (H := H) (c := 6)
  have c12 := s_IllT (H := H) (c := 12)
  have c9 := s_IllT (H := H) (c := 9)
  have k1 := s_Key hd gd
  obtain ⟨r, k2, hr⟩ := s_TAt (vs := vs) (t := keyD e.dn) h hokd hos
  have fin : ∀ c : Int, addTCode t e = c → c ≠ 0 → addTOf t e = illT c := fun c hc h0 => by unfold addTOf; rw [hc, if_neg h0]
  rcases hr.pos with ⟨k, x, h1, rfl, h2⟩ | ⟨rfl, h2⟩
  · have hc : addTCode t e = 7 := if_pos (by rw [h2]; simp)
    have hk : (0 : Int) ≤ k := by omega
    rw [fin 7 hc (by decide)]
    simp [code185, Tryz.f185, hos, hoe, hod, hoa, k1, k2, hk, c7, fillL, zerosL, regionL_none, regionL_some, List.lookup]
    exact TOut.ill (by decide)
  have hn1 : ¬ ¬ firstOf keyE t.entries (keyE e) = none := fun hh => hh h2
  have hc0 : addTCode t e = if ¬ dec (ParentOk t.entries e.dn) = true then 6 else if ¬ dec (FitsOk t.schema e) = true then 12 else if 20 ≤ t.entries.length then 9 else 0 := if_neg hn1
  -- the parent
  have hpar : ∃ b : Bool, (∀ Q : Prop, True) ∧ b = dec (ParentOk t.entries e.dn) := ⟨_, fun _ => trivial, rfl⟩
  obtain ⟨rc, k3, hrc, hrc2⟩ := s_CheckC hs hd ha ge.1
  by_cases g1 : e.dn.length ≤ 1
  · have g1' : ¬ (1 : Int) < e.dn.length := by omega
    have hp : ParentOk t.entries e.dn := .inl g1
    have hc1 : addTCode t e = if ¬ dec (FitsOk t.schema e) = true then 12 else if 20 ≤ t.entries.length then 9 else 0 := by rw [hc0, dec_pos hp]; rfl
    by_cases g2 : FitsOk t.schema e
    rotate_left
    · have hr0 : rc = 12 := hrc2.resolve_left fun hh => g2 (hrc.1 hh)
      subst hr0
      have hc : addTCode t e = 12 := by rw [hc1, dec_neg g2]; rfl
      rw [fin 12 hc (by decide)]
      simp [code185, Tryz.f185, hos, hoe, hod, hoa, hd.len, k1, k2, k3, g1', c12, fillL, zerosL, regionL_none, regionL_some, List.lookup]
      exact TOut.ill (by decide)
    have hr0 : rc = 0 := hrc.2 g2
    subst hr0
    by_cases g3 : 20 ≤ t.entries.length
    · have g3' : (20 : Int) ≤ t.entries.length := by omega
      have hc : addTCode t e = 9 := by rw [hc1, dec_pos g2]; simp [g3]
      rw [fin 9 hc (by decide)]
      simp [code185, Tryz.f185, hos, hoe, hod, hoa, hd.len, h.len, k1, k2, k3, g1', g3', c9, fillL, zerosL, regionL_none, regionL_some, List.lookup]
      exact TOut.ill (by decide)
    have g3' : ¬ (20 : Int) ≤ t.entries.length := by omega
    have hc : addTCode t e = 0 := by rw [hc1, dec_pos g2]; simp [g3]
    have eo : addTOf t e = ⟨⟨t.schema, putE t.entries e⟩, [], 0⟩ := if_pos hc
    obtain ⟨T, w1, w2, k4, hn⟩ := s_PutT hs h hd ha (TreeOk.small gt) (EntryOk.small ge) hokd gd (TreeOk.rise gt) (by omega)
    have hos2 := At.ones _ hn.at
    simp only [List.all_cons, List.all_nil, Bool.and_true, Bool.and_eq_true] at hos2
    have ho1 := isOne_cells hos2.1
    have ho2 := isOne_cells hos2.2
    obtain ⟨T', q, rfl, hg, hfin⟩ := TOut.new hn
    rw [eo]
    simp [code185, Tryz.f185, hos, hoe, hod, hoa, hd.len, h.len, k1, k2, k3, k4, g1', g3', hos2, ho1, ho2, hg, fillL, zerosL, buildV, structPlace, regionL_none, regionL_some, List.lookup]
    exact hfin
  have g1' : (1 : Int) < e.dn.length := by omega
  obtain ⟨id, off, own, cells, hv, hcell, htl⟩ := rdns_tail hd (by omega)
  have hst : strideIs H id 2 = true := by simp [strideIs, hcell]
  have hidl : id < H.length := (List.getElem?_eq_some_iff.1 hcell).1
  have k5 := s_Key htl (DnOk.tail gd)
  obtain ⟨r2, k6, hr2⟩ := s_TAt (vs := vs) (t := keyD e.dn.tail) h hokd hos
  have h1le : 1 ≤ e.dn.length := by omega
  subst hv
  have hpiff : ParentOk t.entries e.dn ↔ ¬ firstOf keyE t.entries (keyD e.dn.tail) = none := by
    constructor
    · rintro (hh | ⟨y, hy, he⟩) hf
      · exact g1 hh
      · have := List.find?_eq_none.1 hf y hy
        simp [he] at this
    · intro hf
      cases hff : firstOf keyE t.entries (keyD e.dn.tail) with
      | none => exact absurd hff hf
      | some y => exact .inr ⟨y, List.mem_of_find?_eq_some hff, by have := List.find?_some hff; simpa using this⟩
  rcases hr2.pos with ⟨k, x, h3, rfl, h4⟩ | ⟨rfl, h4⟩
  rotate_left
  · have hp : ¬ ParentOk t.entries e.dn := fun hh => hpiff.1 hh h4
    have hc : addTCode t e = 6 := by rw [hc0, dec_neg hp]; rfl
    rw [fin 6 hc (by decide)]
    simp [code185, Tryz.f185, hos, hoe, hoa, hd.len, k1, k2, k5, k6, g1', h1le, hst, hidl, c6, fillL, zerosL, regionL_none, regionL_some, List.lookup]
    exact TOut.ill (by decide)
  have hk : ¬ ((k : Int) < 0) := by omega
  have hp : ParentOk t.entries e.dn := hpiff.2 (by rw [h4]; simp)
  have hc1 : addTCode t e = if ¬ dec (FitsOk t.schema e) = true then 12 else if 20 ≤ t.entries.length then 9 else 0 := by rw [hc0, dec_pos hp]; rfl
  by_cases g2 : FitsOk t.schema e
  rotate_left
  · have hr0 : rc = 12 := hrc2.resolve_left fun hh => g2 (hrc.1 hh)
    subst hr0
    have hc : addTCode t e = 12 := by rw [hc1, dec_neg g2]; rfl
    rw [fin 12 hc (by decide)]
    simp [code185, Tryz.f185, hos, hoe, hoa, hd.len, k1, k2, k3, k5, k6, hk, g1', h1le, hst, hidl, c12, fillL, zerosL, regionL_none, regionL_some, List.lookup]
    exact TOut.ill (by decide)
  have hr0 : rc = 0 := hrc.2 g2
  subst hr0
  by_cases g3 : 20 ≤ t.entries.length
  · have g3' : (20 : Int) ≤ t.entries.length := by omega
    have hc : addTCode t e = 9 := by rw [hc1, dec_pos g2]; simp [g3]
    rw [fin 9 hc (by decide)]
    simp [code185, Tryz.f185, hos, hoe, hoa, hd.len, h.len, k1, k2, k3, k5, k6, hk, g1', g3', h1le, hst, hidl, c9, fillL, zerosL, regionL_none, regionL_some, List.lookup]
    exact TOut.ill (by decide)
  have g3' : ¬ (20 : Int) ≤ t.entries.length := by omega
  have hc : addTCode t e = 0 := by rw [hc1, dec_pos g2]; simp [g3]
  have eo : addTOf t e = ⟨⟨t.schema, putE t.entries e⟩, [], 0⟩ := if_pos hc
  obtain ⟨T, w1, w2, k4, hn⟩ := s_PutT hs h hd ha (TreeOk.small gt) (EntryOk.small ge) hokd gd (TreeOk.rise gt) (by omega)
  have hos2 := At.ones _ hn.at
  simp only [List.all_cons, List.all_nil, Bool.and_true, Bool.and_eq_true] at hos2
  have ho1 := isOne_cells hos2.1
  have ho2 := isOne_cells hos2.2
  obtain ⟨T', q, rfl, hg, hfin⟩ := TOut.new hn
  rw [eo]
  simp [code185, Tryz.f185, hos, hoe, hoa, hd.len, h.len, k1, k2, k3, k4, k5, k6, hk, g1', g3', h1le, hst, hidl, hos2, ho1, ho2, hg, fillL, zerosL, buildV, structPlace, regionL_none, regionL_some, List.lookup]
  exact hfin

set_option maxRecDepth 10000 in
set_option maxHeartbeats 4000000 in
theorem s_TreeAdd {H : List Ob} {vs ve v1 v2 : V} {t : PTree} {e : PEntry} (hs : AClasses H vs t.schema) (h : AEntries H ve t.entries) (hd : ARdns H v1 e.dn) (ha : AAttrs H v2 e.attrs) :
    ∃ q H', callW C 72 [.agg [vs, ve], .agg [v1, v2]] H = some (q, H') ∧ TOut H (treeAddOf t e) q H' := by
  suffices hs : Ret C 72 [.agg [vs, ve], .agg [v1, v2]] H fun q H' => TOut H (treeAddOf t e) q H' by
    obtain ⟨q, H', hc, hr⟩ := hs
    exact ⟨q, H', hc, hr⟩
  rw [op72]
  have hos := hs.one
  have hoe := h.one
  have hod := hd.one
  have hoa := ha.one
  have c1 := s_IllT (H := H) (c := 1)
  have c2 := s_TreeRight hs h
  have c3 := s_Entry hd ha
  by_cases g1 : TreeOk t
  rotate_left
  · rw [dec_neg g1] at c2
    have eo : treeAddOf t e = illT 1 := by unfold treeAddOf; rw [dec_neg (fun h => g1 h.1)]; rfl
    rw [eo]
    simp [code72, Tryz.f72, hos, hoe, hod, hoa, c1, c2, fillL, zerosL]
    exact TOut.ill (by decide)
  rw [dec_pos g1] at c2
  by_cases g2 : EntryOk e
  rotate_left
  · rw [dec_neg g2] at c3
    have eo : treeAddOf t e = illT 1 := by unfold treeAddOf; rw [dec_neg (fun h => g2 h.2)]; rfl
    rw [eo]
    simp [code72, Tryz.f72, hos, hoe, hod, hoa, c1, c2, c3, fillL, zerosL]
    exact TOut.ill (by decide)
  rw [dec_pos g2] at c3
  have eo : treeAddOf t e = addTOf t e := by unfold treeAddOf; rw [dec_pos ⟨g1, g2⟩]; rfl
  rw [eo]
  obtain ⟨q, H', c4, hq⟩ := s_AddT hs h hd ha g1 g2
  obtain ⟨w1, w2, w3, rfl, o1, o2, o3⟩ := hq.ones
  have := hq.gc
  simp [code72, Tryz.f72, hos, hoe, hod, hoa, c2, c3, c4, o1, o2, o3, fillL, zerosL]
  exact this
end Go.Proofs.Try1
end

section
namespace Go.Proofs.Try1
open Go Go.Lite
set_option linter.unusedSimpArgs false
set_option linter.unusedVariables false

theorem noext_at {G G' : List Ob} {q : Nat} {o : Ob} (h : G[q]? = some o) (h' : G'[q]? ≠ some o) : ¬ Ext G G' := by
  rintro ⟨T, rfl⟩
  exact h' (up_append _ _ h)

set_option maxRecDepth 10000 in
set_option maxHeartbeats 8000000 in
theorem i_addTM {G : List Ob} {idt : Nat} {vs ve v1 v2 : V} {t : PTree} {e : PEntry} {F Fe : List Nat} (ht : G[idt]? = some (.mk true 2 [vs, ve])) (hs : AClasses G vs t.schema) (hA : AtF G (.slice shEntry) [ve] (.lst (t.entries.map PEntry.u)) F) (hn : F.Nodup) (hide : idt ∉ F)
    (hE : AtF G shEntry [v1, v2] e.u Fe) (hEn : Fe.Nodup) (hEF : ∀ q ∈ Fe, q ∉ F ∧ q ≠ idt) (gt : TreeOk t) (ge : EntryOk e) :
    ∃ G', callW C 187 [.ptr (some (idt, 0)), .agg [v1, v2]] G = some (.int .i64 (addTCode t e), G') ∧ (addTCode t e ≠ 0 → G' = G) ∧
      (addTCode t e = 0 → ∃ ve' F', G'[idt]? = some (.mk true 2 [vs, ve']) ∧ ve' ≠ ve ∧ AtF G' (.slice shEntry) [ve'] (.lst ((putE t.entries e).map PEntry.u)) F' ∧ F'.Nodup ∧ (∀ q ∈ F', q ∈ F ∨ q ∈ Fe ∨ G.length ≤ q) ∧ (∀ q, q < G.length → q ∉ F → q ≠ idt → G'[q]? = G[q]?) ∧ G.length ≤ G'.length) := by
  suffices hs : Ret C 187 [.ptr (some (idt, 0)), .agg [v1, v2]] G fun q G' => q = .int .i64 (addTCode t e) ∧ (addTCode t e ≠ 0 → G' = G) ∧
      (addTCode t e = 0 → ∃ ve' F', G'[idt]? = some (.mk true 2 [vs, ve']) ∧ ve' ≠ ve ∧ AtF G' (.slice shEntry) [ve'] (.lst ((putE t.entries e).map PEntry.u)) F' ∧ F'.Nodup ∧ (∀ q ∈ F', q ∈ F ∨ q ∈ Fe ∨ G.length ≤ q) ∧ (∀ q, q < G.length → q ∉ F → q ≠ idt → G'[q]? = G[q]?) ∧ G.length ≤ G'.length) by
    obtain ⟨q, G', hc, rfl, hr⟩ := hs
    exact ⟨G', hc, hr⟩
  rw [op187]
  have htl : idt < G.length := (List.getElem?_eq_some_iff.1 ht).1
  have he : AEntries G ve t.entries := AtF.at _ hA
  obtain ⟨_, _, hcs, hd, ha⟩ := entry_at.1 (AtF.at _ hE)
  cases hcs
  have hod := hd.one
  have hoa := ha.one
  obtain ⟨K, hK⟩ : ∃ K, K = G ++ [.mk true 2 [v1, v2]] := ⟨_, rfl⟩
  have hKl : K.length = G.length + 1 := by rw [hK]; simp
  have hKt : K[idt]? = some (.mk true 2 [vs, ve]) := by rw [hK]; exact up_append _ _ ht
  have hKe : K[G.length]? = some (.mk true 2 [v1, v2]) := by rw [hK]; exact get_last
  have hsK : AClasses K vs t.schema := by rw [hK]; exact hs.ext
  have heK : AEntries K ve t.entries := by rw [hK]; exact he.ext
  have hdK : ARdns K v1 e.dn := by rw [hK]; exact hd.ext
  have haK : AAttrs K v2 e.attrs := by rw [hK]; exact ha.ext
  have hAK : AtF K (.slice shEntry) [ve] (.lst (t.entries.map PEntry.u)) F := by rw [hK]; exact hA.ext
  have hEK : AtF K shEntry [v1, v2] e.u Fe := by rw [hK]; exact hE.ext
  have l0 := load1 (o := 0) (v := vs) hKt rfl
  have l1 := load1 (o := 1) (v := ve) hKt rfl
  have m0 := load1 (o := 0) (v := v1) hKe rfl
  have mN := loadN (o := 0) (n := 2) hKe (by simp) (by decide) rfl
  simp at mN
  have hel : t.entries.length ≤ 20 := gt.2.1.1
  have hok : ∀ x ∈ t.entries, DnOk x.dn := fun x hx => (TreeOk.dns gt x hx).2.1
  have hp := TreeOk.rise gt
  obtain ⟨i, ok, c1, hile, hlo, hhi, hok'⟩ := i_searchT hKt heK (by omega) hok hp hdK ge.2.1
  obtain ⟨s1, s2⟩ := search_first hp hlo hhi hok'
  have c2 := i_hasParent hKt heK (by omega) hok hp hdK ge.2.1
  have c3 := i_fits hKe hsK hdK haK gt.1 ge
  have hgc : ∀ c : Int, gcH G K (.int .i64 c) = G := fun c => by rw [hK]; exact gcH_int
  cases ok with
  | true =>
    obtain ⟨x, _, _, hf⟩ := s2 rfl
    have hc : addTCode t e = 7 := if_pos (by rw [show keyE e = keyD e.dn from rfl, hf]; simp)
    rw [hc]
    simp [-gcH_int, code187, Tryz.f187, hod, hoa, strideOf, ← hK, m0, c1, hgc]
  | false =>
  have hf := s1 rfl
  have hc0 : addTCode t e = if ¬ dec (ParentOk t.entries e.dn) = true then 6 else if ¬ dec (FitsOk t.schema e) = true then 12 else if 20 ≤ t.entries.length then 9 else 0 := if_neg (fun hh => hh hf)
  by_cases g1 : ParentOk t.entries e.dn
  rotate_left
  · have hc : addTCode t e = 6 := by rw [hc0, dec_neg g1]; rfl
    rw [dec_neg g1] at c2
    rw [hc]
    simp [-gcH_int, code187, Tryz.f187, hod, hoa, strideOf, ← hK, m0, c1, c2, hgc]
  rw [dec_pos g1] at c2
  have hc1 : addTCode t e = if ¬ dec (FitsOk t.schema e) = true then 12 else if 20 ≤ t.entries.length then 9 else 0 := by rw [hc0, dec_pos g1]; rfl
  by_cases g2 : FitsOk t.schema e
  rotate_left
  · have hc : addTCode t e = 12 := by rw [hc1, dec_neg g2]; rfl
    rw [dec_neg g2] at c3
    rw [hc]
    simp [-gcH_int, code187, Tryz.f187, hod, hoa, strideOf, ← hK, m0, l0, c1, c2, c3, hgc]
  rw [dec_pos g2] at c3
  by_cases g3 : t.entries.length = 20
  · have hc : addTCode t e = 9 := by rw [hc1, dec_pos g2]; simp; omega
    have g3' : (t.entries.length : Int) = 20 := by omega
    rw [hc]
    simp [-gcH_int, code187, Tryz.f187, hod, hoa, strideOf, ← hK, m0, l0, l1, c1, c2, c3, heK.len, g3', hgc]
  have g3' : ¬ (t.entries.length : Int) = 20 := by omega
  have hc : addTCode t e = 0 := by rw [hc1, dec_pos g2]; simp; omega
  obtain ⟨v', G1, F1, p1, a1, n1, s1', fr1, len1, hv'⟩ := insertF (f := PEntry.u) hAK hn hEK hEn (fun q hq => (hEF q hq).1) hile (by omega) (by decide)
  have p2 : callW C 287 [ve, .int .i64 i, .slc (some (K.length, 0)) 1] (K ++ [.mk true 2 [v1, v2]]) = some (v', G1) := by
    rw [callW_prim (show C.prim 287 = some (insertPrim 2) from rfl)]
    exact p1
  have ht1 : G1[idt]? = some (.mk true 2 [vs, ve]) := by rw [fr1 idt hide (by omega)]; exact hKt
  have hov' : isOne v' = true ∧ cellsOf v' = some [v'] := by rw [hv']; exact ⟨rfl, rfl⟩
  have st := store1 (o := 1) (v := v') ht1 (by simp) hov'.2 hov'.1
  simp at st
  have hG1l : idt < G1.length := by omega
  have hne : v' ≠ ve := fun eq => by
    rw [hv'] at eq
    rcases he.sub with ⟨hh, _⟩ | ⟨id, off, own, cells, hh, h3, _⟩
    · rw [hh] at eq; cases eq
    · rw [hh] at eq
      have := (List.getElem?_eq_some_iff.1 h3).1
      simp only [V.slc.injEq, Option.some.injEq, Prod.mk.injEq] at eq
      omega
  have hF1 : idt ∉ F1 := fun hm => by
    rcases s1' idt hm with hh | hh | hh
    · exact hide hh
    · exact (hEF idt hh).2 rfl
    · omega
  have hext : ¬ Ext G (G1.set idt (.mk true 2 [vs, v'])) := noext_at ht (by
    rw [List.getElem?_set_self hG1l]
    intro eq
    cases eq
    exact hne rfl)
  have hgc2 := gcH_noext (r := .int .i64 0) hext
  have hidK : idt < K.length := by omega
  have fin : ∃ ve' F', (G1.set idt (.mk true 2 [vs, v']))[idt]? = some (.mk true 2 [vs, ve']) ∧ ve' ≠ ve ∧ AtF (G1.set idt (.mk true 2 [vs, v'])) (.slice shEntry) [ve'] (.lst ((putE t.entries e).map PEntry.u)) F' ∧ F'.Nodup ∧ (∀ q ∈ F', q ∈ F ∨ q ∈ Fe ∨ G.length ≤ q) ∧ (∀ q, q < G.length → q ∉ F → q ≠ idt → (G1.set idt (.mk true 2 [vs, v']))[q]? = G[q]?) ∧ G.length ≤ (G1.set idt (.mk true 2 [vs, v'])).length := by
   refine ⟨v', F1, List.getElem?_set_self hG1l, hne, ?_, n1, fun q hq => ?_, fun q hq hqF hqe => ?_, by simp; omega⟩
   · rw [putE_at hlo hhi]
     exact AtF.kill a1 hF1
   · rcases s1' q hq with hh | hh | hh
     · exact .inl hh
     · exact .inr (.inl hh)
     · exact .inr (.inr (by omega))
   · rw [List.getElem?_set_ne (fun eq => hqe eq.symm), fr1 q hqF (by omega), hK, List.getElem?_append_left hq]
  rw [hc]
  simp [-gcH_int, code187, Tryz.f187, hod, hoa, strideOf, ← hK, m0, mN, l0, l1, c1, c2, c3, heK.len, g3', hidK, Keep_append, elemT, fillL, zerosL, St.new, p2, st, hov', he.one, hgc2, regionL_none, regionL_some, List.lookup]
  simpa using fin

set_option maxRecDepth 10000 in
theorem i_addTFn {G0 G : List Ob} {idt ide : Nat} {own : Bool} {es : Nat} {v1 v2 y1 y2 : V} (hq : G0[ide]? = some (.mk own es [v1, v2])) (ho : (isOne v1 = true ∧ cellsOf v1 = some [v1]) ∧ (isOne v2 = true ∧ cellsOf v2 = some [v2])) (hy : (isOne y1 = true ∧ cellsOf y1 = some [y1]) ∧ (isOne y2 = true ∧ cellsOf y2 = some [y2]))
    (hcp : callW C 162 [.agg [v1, v2]] G0 = some (.agg [y1, y2], G)) {code : Int} {G' X : List Ob}
    (hc : callW C 187 [.ptr (some (idt, 0)), .agg [y1, y2]] G = some (.int .i64 code, G')) (hgc : gcH G0 G' (.int .i64 code) = X) :
    callW C 186 [.ptr (some (idt, 0)), .ptr (some (ide, 0))] G0 = some (.int .i64 code, X) := by
  suffices hs : Ret C 186 [.ptr (some (idt, 0)), .ptr (some (ide, 0))] G0 fun r H' => r = .int .i64 code ∧ H' = X by
    obtain ⟨r, H', h, rfl, rfl⟩ := hs
    exact h
  rw [op186]
  have lN := loadN (o := 0) (n := 2) hq (by simp) (by decide) rfl
  simp at lN
  simp [-gcH_int, code186, Tryz.f186, lN, ho, hy, hcp, hc, hgc]

set_option maxRecDepth 10000 in
set_option maxHeartbeats 4000000 in
theorem i_TreeAdd {H : List Ob} {vs ve v1 v2 : V} {t : PTree} {e : PEntry} (hs : AClasses H vs t.schema) (h : AEntries H ve t.entries) (hd : ARdns H v1 e.dn) (ha : AAttrs H v2 e.attrs) :
    ∃ q H', callW C 73 [.agg [vs, ve], .agg [v1, v2]] H = some (q, H') ∧ TOut H (treeAddOf t e) q H' := by
  suffices hs : Ret C 73 [.agg [vs, ve], .agg [v1, v2]] H fun q H' => TOut H (treeAddOf t e) q H' by
    obtain ⟨q, H', hc, hr⟩ := hs
    exact ⟨q, H', hc, hr⟩
  rw [op73]
  have hos := hs.one
  have hoe := h.one
  have hod := hd.one
  have hoa := ha.one
  have hil : ∀ (X : List Ob) c, gcH H (H ++ X) (.agg [.slc none 0, .slc none 0, .slc none 0, .int .i64 c]) = H := fun X c => gcH_low (by simp [lowV, lowVs])
  obtain ⟨K, hK⟩ : ∃ K, K = H ++ [.mk true 2 [v1, v2]] := ⟨_, rfl⟩
  have hKl : K.length = H.length + 1 := by rw [hK]; simp
  have hKe : K[H.length]? = some (.mk true 2 [v1, v2]) := by rw [hK]; exact get_last
  have hsK : AClasses K vs t.schema := by rw [hK]; exact hs.ext
  have hK2 : AEntries K ve t.entries := by rw [hK]; exact h.ext
  have hdK : ARdns K v1 e.dn := by rw [hK]; exact hd.ext
  have haK : AAttrs K v2 e.attrs := by rw [hK]; exact ha.ext
  have lN := loadN (o := 0) (n := 2) hKe (by simp) (by decide) rfl
  simp at lN
  have hgK : ∀ c, gcH H K (.agg [.slc none 0, .slc none 0, .slc none 0, .int .i64 c]) = H := fun c => by rw [hK]; exact hil _ _
  have c1 := i_TreeRight hsK hK2
  have c2 := i_Entry hdK haK
  by_cases g1 : TreeOk t
  rotate_left
  · rw [dec_neg g1] at c1
    have eo : treeAddOf t e = illT 1 := by unfold treeAddOf; rw [dec_neg (fun h => g1 h.1)]; rfl
    rw [eo]
    simp [code73, Tryz.f73, hos, hoe, hod, hoa, strideOf, fillL, zerosL, buildV, structPlace, ← hK, lN, c1, hgK]
    exact TOut.ill (by decide)
  rw [dec_pos g1] at c1
  by_cases g2 : EntryOk e
  rotate_left
  · rw [dec_neg g2] at c2
    have eo : treeAddOf t e = illT 1 := by unfold treeAddOf; rw [dec_neg (fun h => g2 h.2)]; rfl
    rw [eo]
    simp [code73, Tryz.f73, hos, hoe, hod, hoa, strideOf, fillL, zerosL, buildV, structPlace, ← hK, lN, c1, c2, hgK]
    exact TOut.ill (by decide)
  rw [dec_pos g2] at c2
  have eo : treeAddOf t e = addTOf t e := by unfold treeAddOf; rw [dec_pos ⟨g1, g2⟩]; rfl
  rw [eo]
  obtain ⟨q, H', c6, hq⟩ := i_treeChanged (H := K) (g := 186) (b := [.ptr (some (H.length, 0))]) (o := addTOf t e) hsK hK2 (TreeOk.small g1) addTOf_ill (by rw [addTOf_code]; exact addTCode_wf) (fun M d a ⟨R, hR⟩ hnew => by
    obtain ⟨F1, F2, f1, f2, n1, n2, hdj, b1, b2⟩ := tree_parts hnew
    obtain ⟨G0, hG⟩ : ∃ G, G = M ++ [.mk true 2 [d, a]] := ⟨_, rfl⟩
    rw [← hG]
    have hMl : K.length ≤ M.length := by rw [hR]; simp
    have hG0l : G0.length = M.length + 1 := by rw [hG]; simp
    have hGt : G0[M.length]? = some (.mk true 2 [d, a]) := by rw [hG]; exact get_last
    have hGK : G0 = K ++ (R ++ [.mk true 2 [d, a]]) := by rw [hG, hR, List.append_assoc]
    have hGe : G0[H.length]? = some (.mk true 2 [v1, v2]) := by rw [hGK]; exact up_append _ _ hKe
    obtain ⟨T2, y1, y2, c3, n3⟩ := i_copied (H := G0) (by rw [hGK]; exact hdK.ext) (by rw [hGK]; exact haK.ext) (EntryOk.small g2)
    obtain ⟨G, hG'⟩ : ∃ G, G = G0 ++ T2 := ⟨_, rfl⟩
    rw [← hG'] at c3 n3
    obtain ⟨_, _, hcy, b3, b4⟩ := entry_at.1 n3.at
    cases hcy
    obtain ⟨Fe, e1, e2, e3⟩ := n3
    have hGl : G0.length ≤ G.length := by rw [hG']; simp
    have hGtt : G[M.length]? = some (.mk true 2 [d, a]) := by rw [hG']; exact up_append _ _ hGt
    have g2' : AtF G (.slice shEntry) [a] (.lst (t.entries.map PEntry.u)) F2 := by rw [hG', hG]; exact f2.ext.ext
    have g1' : AtF G (.slice shClass) [d] (.lst (t.schema.map PClass.u)) F1 := by rw [hG', hG]; exact f1.ext.ext
    have m2 := AtF.mem _ f2
    have m1 := AtF.mem _ f1
    obtain ⟨G', k1, k2, k3⟩ := i_addTM hGtt (AtF.at _ g1') g2' n2 (fun hm => by have := m2 _ hm; omega) e1 e2 (fun q hq => ⟨fun hm => by have := m2 q hm; have := (e3 q hq).1; omega, by have := (e3 q hq).1; omega⟩) g1 g2
    by_cases g0 : addTCode t e = 0
    · obtain ⟨w', F', p1, p2, p3, p4, p5, p6, p7⟩ := k3 g0
      have hno : ¬ Ext G0 G' := noext_at hGt (by
        rw [p1]
        intro eq
        cases eq
        exact p2 rfl)
      refine ⟨addTCode t e, G', i_addTFn hGe ⟨hod, hoa⟩ ⟨b3.one, b4.one⟩ c3 k1 (gcH_noext hno), addTOf_code.symm, fun q hq => ?_, by omega, fun _ => ?_⟩
      · rw [p6 q (by omega) (fun hm => by have := b2 q hm; omega) (by omega), hG', List.getElem?_append_left (by omega)]
      · have ed : addTOf t e = ⟨⟨t.schema, putE t.entries e⟩, [], 0⟩ := if_pos g0
        rw [ed]
        refine ⟨rfl, d, w', p1, tree_join (t := ⟨t.schema, putE t.entries e⟩) (F1 := F1) (F2 := F') (AtF.frame _ (fun q hq => p6 q (by have := m1 q hq; omega) (hdj q hq) (by have := m1 q hq; omega)) g1') p3 n1 p4 (fun q h1 h2 => ?_) (fun q hq => b1 q hq) (fun q hq => ?_)⟩
        · have := m1 q h1
          rcases p5 q h2 with hh | hh | hh
          · exact hdj q h1 hh
          · have := (e3 q hh).1; omega
          · omega
        · rcases p5 q hq with hh | hh | hh
          · exact b2 q hh
          · have := (e3 q hh).1; omega
          · omega
    · have := k2 g0
      subst this
      refine ⟨addTCode t e, G0, i_addTFn hGe ⟨hod, hoa⟩ ⟨b3.one, b4.one⟩ c3 k1 (by rw [hG']; exact gcH_int), addTOf_code.symm, fun _ _ => rfl, Nat.le_refl _, fun hh => absurd hh g0⟩)
  obtain ⟨w1, w2, w3, rfl, o1, o2, o3⟩ := hq.ones
  have hfin := TOut.base (by rw [← hK]; exact hq : TOut (H ++ [.mk true 2 [v1, v2]]) _ _ _)
  simp [code73, Tryz.f73, hos, hoe, hod, hoa, o1, o2, o3, strideOf, fillL, zerosL, buildV, structPlace, ← hK, lN, c1, c2, c6]
  exact hfin
end Go.Proofs.Try1
end

section
namespace Go.Proofs.Try1
open Go Go.Lite
set_option linter.unusedSimpArgs false
set_option linter.unusedVariables false

theorem cntP_rdn (x : PRdn) : cntP x.u ≤ 2 := by simp [PRdn.u, cntP, cntPs]
theorem cntP_attr {a : PAttr} (h : a.vals.length ≤ 4) : cntP a.u ≤ 5 := by
  have := cntPs_map (f := strU) (l := a.vals) (k := 1) fun x _ => by simp [strU, cntP]
  simp only [PAttr.u, cntP, cntPs]
  omega
theorem cntP_entry {e : PEntry} (h : EntryOk e) : cntP e.u ≤ 52 := by
  obtain ⟨_, hd, ha⟩ := h
  have h1 := cntPs_map (l := e.dn) fun x _ => cntP_rdn x
  have h2 : cntPs (e.attrs.map PAttr.u) ≤ e.attrs.length * 5 := cntPs_map fun a h => by
    obtain ⟨j, hj, rfl⟩ := List.getElem_of_mem h
    exact cntP_attr (ha.1 j _ (List.getElem?_eq_getElem hj)).2.2.2.2
  have := hd.2
  have := ha.2
  simp only [PEntry.u, cntP, cntPs]
  omega
theorem cntP_class {c : PClass} (h : ClassOk c) : cntP c.u ≤ 31 := by
  have h1 := cntPs_map (f := strU) (l := c.must) (k := 1) fun x _ => by simp [strU, cntP]
  have h2 := cntPs_map (f := strU) (l := c.may) (k := 1) fun x _ => by simp [strU, cntP]
  have h3 := cntPs_map (f := strU) (l := c.single) (k := 1) fun x _ => by simp [strU, cntP]
  have := h.l1
  have := h.l2
  have := h.l3
  simp only [PClass.u, cntP, cntPs]
  omega
theorem cnt_illT (c : Int) : cntV (illT c).u ≤ 1000000 := by simp [illT, PTreeOut.u, PTree.u, cntV, cntVs, cntPs]
theorem cnt_treeOut {s : List PClass} {es : List PEntry} (hs : SchemaOk s) (he : ∀ e ∈ es, EntryOk e) (hl : es.length ≤ 100) : cntV (PTreeOut.u ⟨⟨s, es⟩, [], 0⟩) ≤ 1000000 := by
  have h1 : cntPs (s.map PClass.u) ≤ s.length * 31 := cntPs_map fun c hc => by
    obtain ⟨j, hj, rfl⟩ := List.getElem_of_mem hc
    exact cntP_class (hs.1 j _ (List.getElem?_eq_getElem hj)).1
  have h2 : cntPs (es.map PEntry.u) ≤ es.length * 52 := cntPs_map fun e h => cntP_entry (he e h)
  have := hs.2
  simp only [PTreeOut.u, PTree.u, cntV, cntVs, List.map_nil, cntPs]
  omega

end Go.Proofs.Try1
end

section
namespace Go.Proofs.Try1
open Go Go.Lite
set_option linter.unusedSimpArgs false
set_option linter.unusedVariables false

theorem cnt_treeAdd {t : PTree} {e : PEntry} : cntV (treeAddOf t e).u ≤ 1000000 := by
  unfold treeAddOf
  split
  case isFalse => exact cnt_illT 1
  rename_i hok
  obtain ⟨gt, ge⟩ := dec_true.1 hok
  unfold addTOf
  split
  case isFalse => exact cnt_illT _
  refine cnt_treeOut gt.1 (fun x hx => ?_) ?_
  · unfold putE at hx
    rcases List.mem_append.1 hx with hx | hx
    · exact TreeOk.dns gt x (List.mem_filter.1 hx).1
    · rcases List.mem_cons.1 hx with rfl | hx
      · exact ge
      · exact TreeOk.dns gt x (List.mem_filter.1 hx).1
  · have h1 := List.length_filter_le (fun x : PEntry => dec (LtS (keyE x) (keyE e))) t.entries
    have h2 := List.length_filter_le (fun x : PEntry => !dec (LtS (keyE x) (keyE e))) t.entries
    have := gt.2.1.1
    unfold putE
    simp only [List.length_append, List.length_cons]
    omega

/-- The law: for all arguments the call says 'true'. -/
theorem lawTreeAdd {H : List Ob} {vs : List V} {xs : List D} (h : IsArgs H [shTree, shEntry] vs xs) : ∃ H', callW C 11 vs H = some (.bool true, H') := by
  rcases vs with _ | ⟨v1, _ | ⟨v2, _ | ⟨v3, vs⟩⟩⟩ <;> rcases xs with _ | ⟨d1, _ | ⟨d2, _ | ⟨d3, xs⟩⟩⟩ <;> first | (exfalso; simp [IsArgs] at h; done) | skip
  obtain ⟨⟨cs1, e1, l1, i1⟩, ⟨cs2, e2, l2, i2⟩, _⟩ := h
  subst e1; subst e2
  have h1 := Is.at _ i1
  obtain ⟨t, he⟩ := tree_typed h1
  rw [he] at h1
  have h2 := Is.at _ i2
  obtain ⟨e, hee⟩ := entry_typed h2
  rw [hee] at h2
  have key := ret_FnExactTreeAdd (uR := (treeAddOf t e).u) h1 h2
    (fun G x0 x1 a0 a1 => by
      obtain ⟨w1, w2, rfl, b1, b2⟩ := tree_at.1 a0
      obtain ⟨w3, w4, rfl, b3, b4⟩ := entry_at.1 a1
      obtain ⟨q, G', hc, T, y1, y2, y3, rfl, rfl, hn⟩ := s_TreeAdd b1 b2 b3 b4
      exact ⟨_, [y1, y2, y3, .int .i64 (treeAddOf t e).code], hc, .app, hn.at⟩)
    (fun G x0 x1 a0 a1 => by
      obtain ⟨w1, w2, rfl, b1, b2⟩ := tree_at.1 a0
      obtain ⟨w3, w4, rfl, b3, b4⟩ := entry_at.1 a1
      obtain ⟨q, G', hc, T, y1, y2, y3, rfl, rfl, hn⟩ := i_TreeAdd b1 b2 b3 b4
      exact ⟨_, [y1, y2, y3, .int .i64 (treeAddOf t e).code], hc, .app, hn⟩)
    (by have := cnt_treeAdd (t := t) (e := e); omega)
  obtain ⟨r, H', hc, rfl⟩ := key
  exact ⟨H', hc⟩
end Go.Proofs.Try1
end

section
namespace Go.Lite
open Go
set_option linter.unusedSimpArgs false
set_option linter.unusedVariables false

theorem VL.one {μ : Mu} {v : V} {us : Array Value} (h : VL μ [v] us.toList) : ∃ u, us = #[u] ∧ VR μ v u := by
  have hl := h.length
  match us, hl, h with
  | ⟨[u]⟩, _, h => exact ⟨u, rfl, h.get 0 v u rfl rfl⟩
theorem VL.two {μ : Mu} {v v' : V} {us : Array Value} (h : VL μ [v, v'] us.toList) : ∃ u u', us = #[u, u'] ∧ VR μ v u ∧ VR μ v' u' := by
  have hl := h.length
  match us, hl, h with
  | ⟨[u, u']⟩, _, h => exact ⟨u, u', rfl, h.get 0 v u rfl rfl, h.get 1 v' u' rfl rfl⟩

theorem cmpPrim_ok {P : Program} {g : FuncId} {fn : Func} (hf : P.funcs[g]? = some fn) (hname : (fn.name == "runtime.NumGoroutine") = false) (hb : fn.body.isNone = true) (hn : Extern.findNext fn = none) (he : Extern.find fn = some Extern.BytealgCompare.compare) : PrimOk P g cmpPrim := by
  intro args H r H' h μ w us hs hv
  unfold cmpPrim at h
  split at h
  · rename_i a b
    cases h
    obtain ⟨u, u', rfl, h1, h2⟩ := hv.two
    obtain ⟨x, rfl, rfl⟩ := h1.str_inv
    obtain ⟨y, rfl, rfl⟩ := h2.str_inv
    refine .inl ⟨.int .i64 (Lib.compareBytes x.data.toList y.data.toList), w, ?_, μ, .refl hs, .int _ _⟩
    rw [run_callFunc_extern hf hname hb hn he, Lib.run_compareString]
    rfl
  · cases h

theorem nonePrim_ok {P : Program} {g : FuncId} : PrimOk P g nonePrim := by
  intro args H r H' h
  cases h

theorem strsOf_get : ∀ {cs : List V} {l : List (List UInt8)}, strsOf cs = some l → cs = l.map V.str
  | [], l, h => by cases h; rfl
  | c :: cs, l, h => by
    unfold strsOf at h
    split at h
    · rename_i he; cases he
    · rename_i s vs he
      cases he
      split at h
      · rename_i l' hl
        cases h
        rw [List.map_cons, ← strsOf_get hl]
      · cases h
    · cases h

theorem cells_get' {cells l : List V} {o n : Nat} (h : (cells.drop o).take n = l) {j : Nat} (hj : j < n) : cells[o + j]? = l[j]? := by
  subst h
  rw [List.getElem?_take_of_lt hj, List.getElem?_drop]

theorem HGoes.garbage {H : List Ob} {μ : Mu} {w : World} (h : HSim H μ w) (n : Nat) (os : Array Obj) : HGoes H μ w H μ (Sort.grow (Sort.ahead w n) os) := by
  have hsame : ∀ b, b < w.heap.size → (Sort.grow (Sort.ahead w n) os).heap[b]? = w.heap[b]? := fun b hb => by
    show (w.heap ++ os)[b]? = _
    rw [Array.getElem?_append_left hb]
  have hsz : w.heap.size ≤ (Sort.grow (Sort.ahead w n) os).heap.size := by
    show _ ≤ (w.heap ++ os).size
    rw [Array.size_append]; omega
  exact ⟨h.world (fun id o m h1 h2 h3 => .of_heap (hsame _ (live_lt h id o m h1 h2 h3))) hsz, μ.le_refl, ⟨hsz, fun b hb _ => hsame b hb, fun b hb => .inl hb, rfl, rfl, rfl, fun _ => Nat.le_add_right _ _⟩, Lives.refl _ _ _⟩

theorem putRow_wrote {w : World} {blk off : Nat} {d d' : Array (List UInt8)} (h0 : Sort.Holds Go.Proofs.encStr w blk off d) (hs : d'.size = d.size) : Wrote w (Sort.putRow Go.Proofs.encStr w blk off d') blk off (d'.toList.map Go.Proofs.encStr) where
  size := by simp
  os := rfl
  tape := rfl
  drawn := rfl
  output := rfl
  other b' hb := by
    show (w.heap.modify blk _)[b']? = _
    rw [Array.getElem?_modify, if_neg (fun e => hb e.symm)]
  cell j := by
    rw [List.length_map, Array.length_toList]
    split
    · rename_i hj
      have := Sort.cell?_putRow Go.Proofs.encStr w blk off d d' h0 hs (j - off) (by omega)
      rw [show off + (j - off) = j by omega] at this
      rw [this, List.getElem?_map, Array.getElem?_toList, Array.getElem?_eq_getElem (by omega), getElem!_pos d' (j - off) (by omega)]
      rfl
    · rename_i hj
      exact Sort.cell?_putRow_other Go.Proofs.encStr w blk off d' ⟨blk, j, none⟩ (by simp only; omega)
  frozen j := by simp

theorem sortPrim_ok {P : Program} {g : FuncId} (hcall : ∀ us w, (callFunc g us).run P w = .ok (.enter g us) w)
    (hsort : ∀ (blk off cap : Nat) (zs : List (List UInt8)) (w : World), Sort.Holds Go.Proofs.encStr w blk off zs.toArray → blk < w.heap.size → zs.length < 4611686018427387904 → Calls P g #[.slice (some ⟨blk, off, none⟩) zs.length cap] w fun e w' =>
      e = .returned (.tuple #[]) ∧ ∃ n os, w' = Sort.grow (Sort.putRow Go.Proofs.encStr (Sort.ahead w n) blk off (zs.mergeSort fun x y => decide (x ≤ y)).toArray) os)
    (hnone : ∀ (p : Option Addr) (cap : Nat) (w : World), Calls P g #[.slice p 0 cap] w fun e w' => e = .returned (.tuple #[]) ∧ w' = w) : PrimOk P g sortPrim := by
  intro args H r H' h μ w us hs hv
  have htup : ∀ μ : Mu, VR μ (.tup []) (.tuple #[]) := fun μ => VR.tup [] #[] rfl (fun i v u h _ => by simp at h)
  unfold sortPrim at h
  split at h
  case h_2 => cases h
  rename_i p n
  obtain ⟨u, rfl, hu⟩ := hv.one
  refine .inr ⟨hcall _ _, ?_⟩
  split at h
  · rename_i hn
    subst hn
    cases h
    have : ∃ q c, u = .slice q 0 c := by
      cases p with
      | none => obtain ⟨rfl, _⟩ := hu.slcN_inv; exact ⟨_, _, rfl⟩
      | some p =>
        obtain ⟨id, off⟩ := p
        obtain ⟨m, _, ⟨c, _, _, _, rfl⟩ | ⟨_, _, a, rfl⟩⟩ := hu.slc_inv <;> exact ⟨_, _, rfl⟩
    obtain ⟨q, c, rfl⟩ := this
    refine (hnone q c w).mono ?_
    rintro e w' ⟨rfl, rfl⟩
    exact ⟨_, rfl, μ, .refl hs, htup μ⟩
  · rename_i hn
    split at h
    case h_2 => cases h
    rename_i id off
    split at h
    case h_2 => cases h
    rename_i es cells ho
    split at h
    case isFalse => cases h
    rename_i hc
    obtain ⟨rfl, hlen, hmax⟩ := hc
    split at h
    case h_2 => cases h
    rename_i ss hss
    cases h
    have hcs := strsOf_get hss
    have hssl : ss.length = n := by
      have := congrArg List.length hcs
      simp at this
      omega
    obtain ⟨m, hm, ⟨c, hc1, hc2, hc3, rfl⟩ | ⟨h0, _⟩⟩ := hu.slc_inv
    rotate_left
    · exact absurd h0 hn
    obtain ⟨g1, g2, g3, g4, g5, g6⟩ := hs.obj id _ m ho hm
    obtain ⟨g6, g7⟩ := g6 rfl
    have hget : ∀ j, j < ss.length → cells[off + j]? = some (.str ss[j]!) := fun j hj => by
      rw [cells_get' hcs (show j < n by omega), List.getElem?_map, List.getElem?_eq_getElem hj]
      simp [hj]
    have hH : Sort.Holds Go.Proofs.encStr w m.blk (m.base + off) ss.toArray := fun j hj => by
      simp only [List.size_toArray] at hj
      obtain ⟨u, hu1, hu2⟩ := g4 (off + j) _ (hget j hj)
      obtain ⟨b, rfl, hb⟩ := hu2.str_inv
      have hbe : Value.string b = Go.Proofs.encStr ss[j]! := by
        show _ = Value.string ⟨ss[j]!.toArray⟩
        rw [hb]
      refine ⟨?_, ?_⟩
      · rw [Nat.add_assoc, hu1, hbe]
        congr 2
        simp [hj]
      · exact (g7 (m.base + off + j) (by omega) (by omega)).2
    have hsort' := hsort m.blk (m.base + off) c ss w hH g5 (by omega)
    rw [hssl] at hsort'
    refine hsort'.mono ?_
    rintro e w' ⟨rfl, k, os, rfl⟩
    refine ⟨_, rfl, μ, ?_, htup μ⟩
    have hlen2 : (ss.mergeSort fun x y => decide (x ≤ y)).length = ss.length := List.length_mergeSort ss
    have hwr := putRow_wrote (d' := (ss.mergeSort fun x y => decide (x ≤ y)).toArray) hH (by simp [hlen2])
    have hvl : VL μ ((ss.mergeSort fun x y => decide (x ≤ y)).map V.str) (((ss.mergeSort fun x y => decide (x ≤ y)).toArray).toList.map Go.Proofs.encStr) := by
      refine VL.of_get (by simp) fun i v u h1 h2 => ?_
      simp only [List.getElem?_map] at h1 h2
      cases hx : (ss.mergeSort fun x y => decide (x ≤ y))[i]? with
      | none => rw [hx] at h1; cases h1
      | some s =>
        rw [hx] at h1 h2
        cases h1
        cases h2
        exact VR.str ⟨s.toArray⟩
    have hgo := HGoes.write hs ho hm hwr hvl (by rw [List.length_map, hlen2]; omega)
    rw [Sort.putRow_ahead]
    exact hgo.trans (HGoes.garbage hgo.sim k os)
end Go.Lite
end

section
namespace Go.Proofs.Try1
open Go Go.Lite

theorem calls_of_in {L : List Nat} {n : Nat} {P : Program} {f : FuncId} {args : Array Value} {w : World} {R : Ending → World → Prop} (h : ∀ D, CallsIn (Fence.list L (some D)) n P f args w R) : Calls P f args w R := fun cs =>
  let ⟨e, w', fr, r, s, x⟩ := (h (cs.length + 1 + n)).2 cs (fun d hd => by cases hd; omega)
  ⟨e, w', fr, r, s.comes, x⟩

theorem cmp_ok : PrimOk Tryz.prog 425 cmpPrim :=
  cmpPrim_ok Tryz.func425 (by kernel_rfl) (by kernel_rfl) rfl rfl

theorem enters {g : Nat} {fn : Func} (h1 : Tryz.prog.funcs[g]? = some fn) (h2 : (fn.name == "runtime.NumGoroutine") = false) (h3 : fn.body.isNone = false) (us : Array Value) (w : World) : (callFunc g us).run Tryz.prog w = .ok (.enter g us) w := by
  simp [callFunc, h1, (by simpa using h2 : ¬ fn.name = "runtime.NumGoroutine")]
  intro hb
  rw [hb] at h3
  cases h3
end Go.Proofs.Try1
end

section
namespace Go.Proofs.Try0
open Go Go.Lite
def locTab : List (Nat × List Nat) := [(126, [3, 5])]
def ordTab : List (Nat × List (Nat × Hint)) := [(126, [(4, ⟨[0, 1, 2, 3, 4, 5, 6, 7, 8, 9, 10], [], [], [(0, 3), (2, 5), (6, 5), (10, 3)], [], []⟩)])]
def fids : List Nat := [50, 97, 114, 151, 152, 219, 222, 232, 256, 316, 319, 345, 391]
noncomputable def primTab : Nat → Option (List V → List Ob → Option (V × List Ob)) := fun f => if f = 425 then some cmpPrim else none
noncomputable def tabs : Tabs := { locs := fun f => (locTab.lookup f).getD [], ord := fun f id => ((ordTab.lookup f).getD []).lookup id, prim := primTab, fids := fids }
theorem mixed : Tryz.prog.follows .mixedOrders = true := rfl
theorem ok : progB Tryz.prog tabs = true := by decide +kernel
end Go.Proofs.Try0
end
