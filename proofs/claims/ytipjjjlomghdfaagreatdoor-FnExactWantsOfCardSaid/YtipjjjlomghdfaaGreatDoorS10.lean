/- Part 10 of the proof of a law: the interpreter, its soundness, and what functions of the program compute over it. Conditions: none but those that each theorem names. -/
import Derived.Test.YtipjjjlomghdfaaGreatDoorS09
import Derived.Test.YtipjjjlomghdfaaGreatDoorS08
import Derived.Test.YtipjjjlomghdfaaGreatDoorS05
import Derived.Test.YtipjjjlomghdfaaGreatDoorS07
import Derived.Lib.Bytealg

set_option linter.all false
set_option maxRecDepth 20000
set_option maxHeartbeats 40000000
section
namespace Go.Proofs.Try1
open Go Go.Lite
theorem sO : kM 73 (.slice shRdn) := by
 intro H cs u F k h hn hk
 obtain ⟨v, l, rfl, rfl, hlen, hv⟩ := AtF_slice.1 h
 have hv := (AtF_slice.2 ⟨v, l, rfl, rfl, hlen, hv⟩).at
 obtain ⟨_, _, hx1, hx2, _, hv⟩ := At_slice.1 hv
 cases hx1; cases hx2
 apply Ret.mark
 rw [Rt]
 simp only [cntV] at hk
 have hl64 : l.length ≤ 9223372036854775807 := hlen
 simp [yT, Tryz.f73, valC, -setRange]
 refine WP_loop (fun m σ => ∃ (i : Nat) (r : Nat → R) (G : List Ob), i + m = l.length ∧ σ = ⟨r, 0, G⟩ ∧ r 0 = .val v ∧ r 1 = .val (.int .i64 ((k + cntPs (l.take i) : Nat) : Int)) ∧ r 5 = .val (.int .i64 i) ∧ G.length = H.length ∧ (∀ q, q ∉ F → G[q]? = H[q]?) ∧ AtF G (.slice shRdn) [v] (.lst (mkPs (l.take i) k ++ l.drop i)) F) ?_ l.length _ ⟨0, _, H, by simp, rfl, by simp, by simp [cntPs], by simp, rfl, fun _ _ => rfl, by simpa [mkPs] using h⟩
 rintro m σ ⟨i, r, G, him, rfl, r0, r1, r5, g1, g2, g3⟩
 cases m with
 | zero =>
  have hi : i = l.length := by omega
  subst hi
  simp at g3
  simp [r0, r1, r5, hv.len, bC g1, cntV, mkV]
  exact ⟨g1, g2, g3⟩
 | succ m =>
  have hi : i < l.length := by omega
  obtain ⟨x, hx⟩ : ∃ x, l[i]? = some x := ⟨l[i], by simp [hi]⟩
  have hx0 : (mkPs (l.take i) k ++ l.drop i)[i]? = some x := by rw [mk_get hi, hx]
  have hmk := mk_set (k := k) hx
  have hcnt := cntPs_take hx
  have hle := cntPs_take_le (l := l) (i := i + 1)
  have hL : (mkPs (l.take i) k ++ l.drop i).length = l.length := by simp [mkPs_len]; omega
  obtain ⟨L, hLd⟩ : ∃ L, L = mkPs (l.take i) k ++ l.drop i := ⟨_, rfl⟩
  rw [← hLd] at hx0 hmk hL g3
  clear hLd
  obtain ⟨id, off, cells, K, e0, e1, e2, e3, e4, e5, e6, e7, e8⟩ := AtF.elem g3 hn hx0
  clear e1 e2 e4 e5 e7 e8
  rw [hL] at e0
  subst e0
  generalize List.take (shRdn).size (List.drop (off + i * (shRdn).size) cells) = cc at e3
  replace e3 := AtF_st.1 e3
  obtain ⟨us, rfl, e3⟩ := e3
  replace e3 := AtsF_cons.1 e3
  obtain ⟨c0, d0, u0, rr0, F0, E0, rfl, rfl, rfl, h0, e3⟩ := e3
  replace e3 := AtsF_cons.1 e3
  obtain ⟨c1, d1, u1, rr1, F1, E1, rfl, rfl, rfl, h1, e3⟩ := e3
  replace e3 := AtsF_nil.1 e3
  obtain ⟨rfl, rfl, rfl⟩ := e3
  replace h0 := AtF_str.1 h0
  obtain ⟨⟨s0, rfl, rfl, w0⟩, rfl⟩ := h0
  replace h1 := AtF_str.1 h1
  obtain ⟨⟨s1, rfl, rfl, w1⟩, rfl⟩ := h1
  simp only [cntP, cntPs_cons, cntPs_nil, Nat.add_zero] at hcnt
  obtain ⟨kk, hkk⟩ : ∃ kk, kk = k + cntPs (l.take i) := ⟨_, rfl⟩
  rw [← hkk] at r1
  obtain ⟨id0, off0, cells0, w0, K0, ev0, eg0, ei0, ek0, ew0, ea0, en0, es0, er0, et0⟩ := AtF.field [] g3 hn (i := i) (us1 := []) (u := (.str s0)) (us2 := [(.str s1)]) hx0 rfl rfl
  simp only [V.slc.injEq, Option.some.injEq, Prod.mk.injEq] at ev0
  obtain ⟨⟨rfl, rfl⟩, _⟩ := ev0
  simp only [shRdn, Sh.size_st, Sh.sizes_cons, Sh.sizes_nil, Sh.size_str, Sh.size_slice, Sh.size_int, Sh.size_bool, List.cons_append, List.nil_append, Nat.reduceAdd, Nat.add_zero] at eg0 ew0 et0 er0
  obtain ⟨_, rfl⟩ := AtF_str.1 ea0
  have q0 := aB (H := G) (k := kk) (by omega)
  have st0 := store1 (v := (.str (markStr kk))) eg0 (List.getElem?_eq_some_iff.1 ew0).1 rfl rfl
  have A0 := et0 (.str (markStr kk)) (.str (markStr kk)) (AtF_str.2 ⟨⟨_, rfl, rfl, aX (by omega)⟩, rfl⟩)
  obtain ⟨G0, hG0⟩ : ∃ G', G' = G.set id (.mk true 2 (cells0.set (off + i * 2) (.str (markStr kk)))) := ⟨_, rfl⟩
  rw [← hG0] at st0 A0
  have ln0 : G0.length = H.length := by rw [hG0, List.length_set]; exact g1
  have fr0 : ∀ q, q ∉ F → G0[q]? = H[q]? := fun q hq => by rw [hG0, List.getElem?_set_ne (by rintro rfl; exact hq e6)]; exact g2 q hq
  clear hG0
  obtain ⟨kk0, hkk0⟩ : ∃ n, n = kk + 1 := ⟨_, rfl⟩
  have hw0 : IntKind.i64.wrap ((kk : Int) + 1) = (kk0 : Int) := by rw [wrap_i64 (by omega) (by omega)]; omega
  have hx0_ : (L.set i (.st [(.str (markStr kk)), (.str s1)]))[i]? = some (.st [(.str (markStr kk)), (.str s1)]) := List.getElem?_set_self (by omega)
  obtain ⟨id1, off1, cells1, w1, K1, ev1, eg1, ei1, ek1, ew1, ea1, en1, es1, er1, et1⟩ := AtF.field [.str] A0 hn (i := i) (us1 := [(.str (markStr kk))]) (u := (.str s1)) (us2 := []) hx0_ rfl rfl
  simp only [V.slc.injEq, Option.some.injEq, Prod.mk.injEq] at ev1
  obtain ⟨⟨rfl, rfl⟩, _⟩ := ev1
  simp only [shRdn, Sh.size_st, Sh.sizes_cons, Sh.sizes_nil, Sh.size_str, Sh.size_slice, Sh.size_int, Sh.size_bool, List.cons_append, List.nil_append, Nat.reduceAdd, Nat.add_zero] at eg1 ew1 et1 er1
  obtain ⟨_, rfl⟩ := AtF_str.1 ea1
  have q1 := aB (H := G0) (k := kk0) (by omega)
  have st1 := store1 (v := (.str (markStr kk0))) eg1 (List.getElem?_eq_some_iff.1 ew1).1 rfl rfl
  have A1 := et1 (.str (markStr kk0)) (.str (markStr kk0)) (AtF_str.2 ⟨⟨_, rfl, rfl, aX (by omega)⟩, rfl⟩)
  obtain ⟨G1, hG1⟩ : ∃ G', G' = G0.set id (.mk true 2 (cells1.set (off + i * 2 + 1) (.str (markStr kk0)))) := ⟨_, rfl⟩
  rw [← hG1] at st1 A1
  have ln1 : G1.length = H.length := by rw [hG1, List.length_set]; exact ln0
  have fr1 : ∀ q, q ∉ F → G1[q]? = H[q]? := fun q hq => by rw [hG1, List.getElem?_set_ne (by rintro rfl; exact hq e6)]; exact fr0 q hq
  clear hG1
  obtain ⟨kk1, hkk1⟩ : ∃ n, n = kk0 + 1 := ⟨_, rfl⟩
  have hw1 : IntKind.i64.wrap ((kk0 : Int) + 1) = (kk1 : Int) := by rw [wrap_i64 (by omega) (by omega)]; omega
  rw [List.set_set] at A1
  have hx1_ : (L.set i (.st [(.str (markStr kk)), (.str (markStr kk0))]))[i]? = some (.st [(.str (markStr kk)), (.str (markStr kk0))]) := List.getElem?_set_self (by omega)
  have hks : k + cntPs (l.take (i + 1)) = kk1 := by omega
  rw [show L.set i (.st [(.str (markStr kk)), (.str (markStr kk0))]) = _ from (by simp only [hkk0, hkk1, hkk]; exact hmk)] at A1
  have hw : IntKind.i64.wrap ((i : Int) + 1) = ((i : Int) + 1) := wrap_i64 (by omega) (by omega)
  have hix : i + 1 ≤ l.length := hi
  simp [r0, r1, r5, hi, hw, q0, st0, hw0, q1, st1, hw1, -setRange]
  exact ⟨m, by omega, i + 1, by omega, _, _, ⟨rfl, rfl⟩, by simp [r0], by simp; omega, by simp, ln1, fr1, A1⟩
theorem yU : kM 159 (.slice shAttr) := by
 intro H cs u F k h hn hk
 obtain ⟨v, l, rfl, rfl, hlen, hv⟩ := AtF_slice.1 h
 have hv := (AtF_slice.2 ⟨v, l, rfl, rfl, hlen, hv⟩).at
 obtain ⟨_, _, hx1, hx2, _, hv⟩ := At_slice.1 hv
 cases hx1; cases hx2
 apply Ret.mark
 rw [IA]
 simp only [cntV] at hk
 have hl64 : l.length ≤ 9223372036854775807 := hlen
 simp [rG, Tryz.f159, valC, -setRange]
 refine WP_loop (fun m σ => ∃ (i : Nat) (r : Nat → R) (G : List Ob), i + m = l.length ∧ σ = ⟨r, 0, G⟩ ∧ r 0 = .val v ∧ r 1 = .val (.int .i64 ((k + cntPs (l.take i) : Nat) : Int)) ∧ r 5 = .val (.int .i64 i) ∧ G.length = H.length ∧ (∀ q, q ∉ F → G[q]? = H[q]?) ∧ AtF G (.slice shAttr) [v] (.lst (mkPs (l.take i) k ++ l.drop i)) F) ?_ l.length _ ⟨0, _, H, by simp, rfl, by simp, by simp [cntPs], by simp, rfl, fun _ _ => rfl, by simpa [mkPs] using h⟩
 rintro m σ ⟨i, r, G, him, rfl, r0, r1, r5, g1, g2, g3⟩
 cases m with
 | zero =>
  have hi : i = l.length := by omega
  subst hi
  simp at g3
  simp [r0, r1, r5, hv.len, bC g1, cntV, mkV]
  exact ⟨g1, g2, g3⟩
 | succ m =>
  have hi : i < l.length := by omega
  obtain ⟨x, hx⟩ : ∃ x, l[i]? = some x := ⟨l[i], by simp [hi]⟩
  have hx0 : (mkPs (l.take i) k ++ l.drop i)[i]? = some x := by rw [mk_get hi, hx]
  have hmk := mk_set (k := k) hx
  have hcnt := cntPs_take hx
  have hle := cntPs_take_le (l := l) (i := i + 1)
  have hL : (mkPs (l.take i) k ++ l.drop i).length = l.length := by simp [mkPs_len]; omega
  obtain ⟨L, hLd⟩ : ∃ L, L = mkPs (l.take i) k ++ l.drop i := ⟨_, rfl⟩
  rw [← hLd] at hx0 hmk hL g3
  clear hLd
  obtain ⟨id, off, cells, K, e0, e1, e2, e3, e4, e5, e6, e7, e8⟩ := AtF.elem g3 hn hx0
  clear e1 e2 e4 e5 e7 e8
  rw [hL] at e0
  subst e0
  generalize List.take (shAttr).size (List.drop (off + i * (shAttr).size) cells) = cc at e3
  replace e3 := AtF_st.1 e3
  obtain ⟨us, rfl, e3⟩ := e3
  replace e3 := AtsF_cons.1 e3
  obtain ⟨c0, d0, u0, rr0, F0, E0, rfl, rfl, rfl, h0, e3⟩ := e3
  replace e3 := AtsF_cons.1 e3
  obtain ⟨c1, d1, u1, rr1, F1, E1, rfl, rfl, rfl, h1, e3⟩ := e3
  replace e3 := AtsF_nil.1 e3
  obtain ⟨rfl, rfl, rfl⟩ := e3
  replace h0 := AtF_str.1 h0
  obtain ⟨⟨s0, rfl, rfl, w0⟩, rfl⟩ := h0
  have k1 := h1
  replace h1 := AtF_slice.1 h1
  obtain ⟨v1, l1, rfl, rfl, w1, hv1⟩ := h1
  have o1 := (At_slice.1 (AtF.at _ k1))
  obtain ⟨_, _, x1, x2, _, o1⟩ := o1
  cases x1
  cases x2
  have o1 := o1.one
  simp only [cntP, cntPs_cons, cntPs_nil, Nat.add_zero] at hcnt
  obtain ⟨kk, hkk⟩ : ∃ kk, kk = k + cntPs (l.take i) := ⟨_, rfl⟩
  rw [← hkk] at r1
  obtain ⟨id0, off0, cells0, w0, K0, ev0, eg0, ei0, ek0, ew0, ea0, en0, es0, er0, et0⟩ := AtF.field [] g3 hn (i := i) (us1 := []) (u := (.str s0)) (us2 := [(.lst l1)]) hx0 rfl rfl
  simp only [V.slc.injEq, Option.some.injEq, Prod.mk.injEq] at ev0
  obtain ⟨⟨rfl, rfl⟩, _⟩ := ev0
  simp only [shAttr, Sh.size_st, Sh.sizes_cons, Sh.sizes_nil, Sh.size_str, Sh.size_slice, Sh.size_int, Sh.size_bool, List.cons_append, List.nil_append, Nat.reduceAdd, Nat.add_zero] at eg0 ew0 et0 er0
  obtain ⟨_, rfl⟩ := AtF_str.1 ea0
  have q0 := aB (H := G) (k := kk) (by omega)
  have st0 := store1 (v := (.str (markStr kk))) eg0 (List.getElem?_eq_some_iff.1 ew0).1 rfl rfl
  have A0 := et0 (.str (markStr kk)) (.str (markStr kk)) (AtF_str.2 ⟨⟨_, rfl, rfl, aX (by omega)⟩, rfl⟩)
  obtain ⟨G0, hG0⟩ : ∃ G', G' = G.set id (.mk true 2 (cells0.set (off + i * 2) (.str (markStr kk)))) := ⟨_, rfl⟩
  rw [← hG0] at st0 A0
  have ln0 : G0.length = H.length := by rw [hG0, List.length_set]; exact g1
  have fr0 : ∀ q, q ∉ F → G0[q]? = H[q]? := fun q hq => by rw [hG0, List.getElem?_set_ne (by rintro rfl; exact hq e6)]; exact g2 q hq
  clear hG0
  obtain ⟨kk0, hkk0⟩ : ∃ n, n = kk + 1 := ⟨_, rfl⟩
  have hw0 : IntKind.i64.wrap ((kk : Int) + 1) = (kk0 : Int) := by rw [wrap_i64 (by omega) (by omega)]; omega
  have hx0_ : (L.set i (.st [(.str (markStr kk)), (.lst l1)]))[i]? = some (.st [(.str (markStr kk)), (.lst l1)]) := List.getElem?_set_self (by omega)
  obtain ⟨id1, off1, cells1, w1, K1, ev1, eg1, ei1, ek1, ew1, ea1, en1, es1, er1, et1⟩ := AtF.field [.str] A0 hn (i := i) (us1 := [(.str (markStr kk))]) (u := (.lst l1)) (us2 := []) hx0_ rfl rfl
  simp only [V.slc.injEq, Option.some.injEq, Prod.mk.injEq] at ev1
  obtain ⟨⟨rfl, rfl⟩, _⟩ := ev1
  simp only [shAttr, Sh.size_st, Sh.sizes_cons, Sh.sizes_nil, Sh.size_str, Sh.size_slice, Sh.size_int, Sh.size_bool, List.cons_append, List.nil_append, Nat.reduceAdd, Nat.add_zero] at eg1 ew1 et1 er1
  obtain ⟨G1, q1, ln1, fr1, ma1⟩ := eH G0 [w1] _ K1 kk0 ea1 en1 (by simp only [cntPV, cntP]; omega)
  simp only [valC, List.headD_cons] at q1
  have ld1 := load1 eg1 ew1
  have A1 := er1 G1 (.lst (mkPs l1 kk0)) (fun q _ hq => fr1 q hq) ma1
  have ln1 : G1.length = H.length := by rw [ln1]; first | exact g1 | exact ln0
  have fr1 : ∀ q, q ∉ F → G1[q]? = H[q]? := fun q hq => by rw [fr1 q fun h => hq (es1 q h)]; first | exact g2 q hq | exact fr0 q hq
  obtain ⟨kk1, hkk1⟩ : ∃ n, n = kk0 + cntP (.lst l1) := ⟨_, rfl⟩
  rw [cntPV, ← hkk1] at q1
  simp only [cntP] at hkk1
  rw [List.set_set] at A1
  have hx1_ : (L.set i (.st [(.str (markStr kk)), (.lst (mkPs l1 kk0))]))[i]? = some (.st [(.str (markStr kk)), (.lst (mkPs l1 kk0))]) := List.getElem?_set_self (by omega)
  have hks : k + cntPs (l.take (i + 1)) = kk1 := by omega
  rw [show L.set i (.st [(.str (markStr kk)), (.lst (mkPs l1 kk0))]) = _ from (by simp only [hkk0, hkk1, hkk]; exact hmk)] at A1
  have hw : IntKind.i64.wrap ((i : Int) + 1) = ((i : Int) + 1) := wrap_i64 (by omega) (by omega)
  have hix : i + 1 ≤ l.length := hi
  simp [r0, r1, r5, hi, hw, q0, st0, hw0, q1, ld1, -setRange]
  exact ⟨m, by omega, i + 1, by omega, _, _, ⟨rfl, rfl⟩, by simp [r0], by simp; omega, by simp, ln1, fr1, A1⟩
theorem wJ : kM 76 (.slice shClass) := by
 intro H cs u F k h hn hk
 obtain ⟨v, l, rfl, rfl, hlen, hv⟩ := AtF_slice.1 h
 have hv := (AtF_slice.2 ⟨v, l, rfl, rfl, hlen, hv⟩).at
 obtain ⟨_, _, hx1, hx2, _, hv⟩ := At_slice.1 hv
 cases hx1; cases hx2
 apply Ret.mark
 rw [Q5]
 simp only [cntV] at hk
 have hl64 : l.length ≤ 9223372036854775807 := hlen
 simp [x8, Tryz.f76, valC, -setRange]
 refine WP_loop (fun m σ => ∃ (i : Nat) (r : Nat → R) (G : List Ob), i + m = l.length ∧ σ = ⟨r, 0, G⟩ ∧ r 0 = .val v ∧ r 1 = .val (.int .i64 ((k + cntPs (l.take i) : Nat) : Int)) ∧ r 5 = .val (.int .i64 i) ∧ G.length = H.length ∧ (∀ q, q ∉ F → G[q]? = H[q]?) ∧ AtF G (.slice shClass) [v] (.lst (mkPs (l.take i) k ++ l.drop i)) F) ?_ l.length _ ⟨0, _, H, by simp, rfl, by simp, by simp [cntPs], by simp, rfl, fun _ _ => rfl, by simpa [mkPs] using h⟩
 rintro m σ ⟨i, r, G, him, rfl, r0, r1, r5, g1, g2, g3⟩
 cases m with
 | zero =>
  have hi : i = l.length := by omega
  subst hi
  simp at g3
  simp [r0, r1, r5, hv.len, bC g1, cntV, mkV]
  exact ⟨g1, g2, g3⟩
 | succ m =>
  have hi : i < l.length := by omega
  obtain ⟨x, hx⟩ : ∃ x, l[i]? = some x := ⟨l[i], by simp [hi]⟩
  have hx0 : (mkPs (l.take i) k ++ l.drop i)[i]? = some x := by rw [mk_get hi, hx]
  have hmk := mk_set (k := k) hx
  have hcnt := cntPs_take hx
  have hle := cntPs_take_le (l := l) (i := i + 1)
  have hL : (mkPs (l.take i) k ++ l.drop i).length = l.length := by simp [mkPs_len]; omega
  obtain ⟨L, hLd⟩ : ∃ L, L = mkPs (l.take i) k ++ l.drop i := ⟨_, rfl⟩
  rw [← hLd] at hx0 hmk hL g3
  clear hLd
  obtain ⟨id, off, cells, K, e0, e1, e2, e3, e4, e5, e6, e7, e8⟩ := AtF.elem g3 hn hx0
  clear e1 e2 e4 e5 e7 e8
  rw [hL] at e0
  subst e0
  generalize List.take (shClass).size (List.drop (off + i * (shClass).size) cells) = cc at e3
  replace e3 := AtF_st.1 e3
  obtain ⟨us, rfl, e3⟩ := e3
  replace e3 := AtsF_cons.1 e3
  obtain ⟨c0, d0, u0, rr0, F0, E0, rfl, rfl, rfl, h0, e3⟩ := e3
  replace e3 := AtsF_cons.1 e3
  obtain ⟨c1, d1, u1, rr1, F1, E1, rfl, rfl, rfl, h1, e3⟩ := e3
  replace e3 := AtsF_cons.1 e3
  obtain ⟨c2, d2, u2, rr2, F2, E2, rfl, rfl, rfl, h2, e3⟩ := e3
  replace e3 := AtsF_cons.1 e3
  obtain ⟨c3, d3, u3, rr3, F3, E3, rfl, rfl, rfl, h3, e3⟩ := e3
  replace e3 := AtsF_nil.1 e3
  obtain ⟨rfl, rfl, rfl⟩ := e3
  replace h0 := AtF_str.1 h0
  obtain ⟨⟨s0, rfl, rfl, w0⟩, rfl⟩ := h0
  have k1 := h1
  replace h1 := AtF_slice.1 h1
  obtain ⟨v1, l1, rfl, rfl, w1, hv1⟩ := h1
  have o1 := (At_slice.1 (AtF.at _ k1))
  obtain ⟨_, _, x1, x2, _, o1⟩ := o1
  cases x1
  cases x2
  have o1 := o1.one
  have k2 := h2
  replace h2 := AtF_slice.1 h2
  obtain ⟨v2, l2, rfl, rfl, w2, hv2⟩ := h2
  have o2 := (At_slice.1 (AtF.at _ k2))
  obtain ⟨_, _, x1, x2, _, o2⟩ := o2
  cases x1
  cases x2
  have o2 := o2.one
  have k3 := h3
  replace h3 := AtF_slice.1 h3
  obtain ⟨v3, l3, rfl, rfl, w3, hv3⟩ := h3
  have o3 := (At_slice.1 (AtF.at _ k3))
  obtain ⟨_, _, x1, x2, _, o3⟩ := o3
  cases x1
  cases x2
  have o3 := o3.one
  simp only [cntP, cntPs_cons, cntPs_nil, Nat.add_zero] at hcnt
  obtain ⟨kk, hkk⟩ : ∃ kk, kk = k + cntPs (l.take i) := ⟨_, rfl⟩
  rw [← hkk] at r1
  obtain ⟨id0, off0, cells0, w0, K0, ev0, eg0, ei0, ek0, ew0, ea0, en0, es0, er0, et0⟩ := AtF.field [] g3 hn (i := i) (us1 := []) (u := (.str s0)) (us2 := [(.lst l1), (.lst l2), (.lst l3)]) hx0 rfl rfl
  simp only [V.slc.injEq, Option.some.injEq, Prod.mk.injEq] at ev0
  obtain ⟨⟨rfl, rfl⟩, _⟩ := ev0
  simp only [shClass, Sh.size_st, Sh.sizes_cons, Sh.sizes_nil, Sh.size_str, Sh.size_slice, Sh.size_int, Sh.size_bool, List.cons_append, List.nil_append, Nat.reduceAdd, Nat.add_zero] at eg0 ew0 et0 er0
  obtain ⟨_, rfl⟩ := AtF_str.1 ea0
  have q0 := aB (H := G) (k := kk) (by omega)
  have st0 := store1 (v := (.str (markStr kk))) eg0 (List.getElem?_eq_some_iff.1 ew0).1 rfl rfl
  have A0 := et0 (.str (markStr kk)) (.str (markStr kk)) (AtF_str.2 ⟨⟨_, rfl, rfl, aX (by omega)⟩, rfl⟩)
  obtain ⟨G0, hG0⟩ : ∃ G', G' = G.set id (.mk true 4 (cells0.set (off + i * 4) (.str (markStr kk)))) := ⟨_, rfl⟩
  rw [← hG0] at st0 A0
  have ln0 : G0.length = H.length := by rw [hG0, List.length_set]; exact g1
  have fr0 : ∀ q, q ∉ F → G0[q]? = H[q]? := fun q hq => by rw [hG0, List.getElem?_set_ne (by rintro rfl; exact hq e6)]; exact g2 q hq
  clear hG0
  obtain ⟨kk0, hkk0⟩ : ∃ n, n = kk + 1 := ⟨_, rfl⟩
  have hw0 : IntKind.i64.wrap ((kk : Int) + 1) = (kk0 : Int) := by rw [wrap_i64 (by omega) (by omega)]; omega
  have hx0_ : (L.set i (.st [(.str (markStr kk)), (.lst l1), (.lst l2), (.lst l3)]))[i]? = some (.st [(.str (markStr kk)), (.lst l1), (.lst l2), (.lst l3)]) := List.getElem?_set_self (by omega)
  obtain ⟨id1, off1, cells1, w1, K1, ev1, eg1, ei1, ek1, ew1, ea1, en1, es1, er1, et1⟩ := AtF.field [.str] A0 hn (i := i) (us1 := [(.str (markStr kk))]) (u := (.lst l1)) (us2 := [(.lst l2), (.lst l3)]) hx0_ rfl rfl
  simp only [V.slc.injEq, Option.some.injEq, Prod.mk.injEq] at ev1
  obtain ⟨⟨rfl, rfl⟩, _⟩ := ev1
  simp only [shClass, Sh.size_st, Sh.sizes_cons, Sh.sizes_nil, Sh.size_str, Sh.size_slice, Sh.size_int, Sh.size_bool, List.cons_append, List.nil_append, Nat.reduceAdd, Nat.add_zero] at eg1 ew1 et1 er1
  obtain ⟨G1, q1, ln1, fr1, ma1⟩ := eH G0 [w1] _ K1 kk0 ea1 en1 (by simp only [cntPV, cntP]; omega)
  simp only [valC, List.headD_cons] at q1
  have ld1 := load1 eg1 ew1
  have A1 := er1 G1 (.lst (mkPs l1 kk0)) (fun q _ hq => fr1 q hq) ma1
  have ln1 : G1.length = H.length := by rw [ln1]; first | exact g1 | exact ln0
  have fr1 : ∀ q, q ∉ F → G1[q]? = H[q]? := fun q hq => by rw [fr1 q fun h => hq (es1 q h)]; first | exact g2 q hq | exact fr0 q hq
  obtain ⟨kk1, hkk1⟩ : ∃ n, n = kk0 + cntP (.lst l1) := ⟨_, rfl⟩
  rw [cntPV, ← hkk1] at q1
  simp only [cntP] at hkk1
  rw [List.set_set] at A1
  have hx1_ : (L.set i (.st [(.str (markStr kk)), (.lst (mkPs l1 kk0)), (.lst l2), (.lst l3)]))[i]? = some (.st [(.str (markStr kk)), (.lst (mkPs l1 kk0)), (.lst l2), (.lst l3)]) := List.getElem?_set_self (by omega)
  obtain ⟨id2, off2, cells2, w2, K2, ev2, eg2, ei2, ek2, ew2, ea2, en2, es2, er2, et2⟩ := AtF.field [.str, (.slice .str)] A1 hn (i := i) (us1 := [(.str (markStr kk)), (.lst (mkPs l1 kk0))]) (u := (.lst l2)) (us2 := [(.lst l3)]) hx1_ rfl rfl
  simp only [V.slc.injEq, Option.some.injEq, Prod.mk.injEq] at ev2
  obtain ⟨⟨rfl, rfl⟩, _⟩ := ev2
  simp only [shClass, Sh.size_st, Sh.sizes_cons, Sh.sizes_nil, Sh.size_str, Sh.size_slice, Sh.size_int, Sh.size_bool, List.cons_append, List.nil_append, Nat.reduceAdd, Nat.add_zero] at eg2 ew2 et2 er2
  obtain ⟨G2, q2, ln2, fr2, ma2⟩ := eH G1 [w2] _ K2 kk1 ea2 en2 (by simp only [cntPV, cntP]; omega)
  simp only [valC, List.headD_cons] at q2
  have ld2 := load1 eg2 ew2
  have A2 := er2 G2 (.lst (mkPs l2 kk1)) (fun q _ hq => fr2 q hq) ma2
  have ln2 : G2.length = H.length := by rw [ln2]; first | exact g1 | exact ln1
  have fr2 : ∀ q, q ∉ F → G2[q]? = H[q]? := fun q hq => by rw [fr2 q fun h => hq (es2 q h)]; first | exact g2 q hq | exact fr1 q hq
  obtain ⟨kk2, hkk2⟩ : ∃ n, n = kk1 + cntP (.lst l2) := ⟨_, rfl⟩
  rw [cntPV, ← hkk2] at q2
  simp only [cntP] at hkk2
  rw [List.set_set] at A2
  have hx2_ : (L.set i (.st [(.str (markStr kk)), (.lst (mkPs l1 kk0)), (.lst (mkPs l2 kk1)), (.lst l3)]))[i]? = some (.st [(.str (markStr kk)), (.lst (mkPs l1 kk0)), (.lst (mkPs l2 kk1)), (.lst l3)]) := List.getElem?_set_self (by omega)
  obtain ⟨id3, off3, cells3, w3, K3, ev3, eg3, ei3, ek3, ew3, ea3, en3, es3, er3, et3⟩ := AtF.field [.str, (.slice .str), (.slice .str)] A2 hn (i := i) (us1 := [(.str (markStr kk)), (.lst (mkPs l1 kk0)), (.lst (mkPs l2 kk1))]) (u := (.lst l3)) (us2 := []) hx2_ rfl rfl
  simp only [V.slc.injEq, Option.some.injEq, Prod.mk.injEq] at ev3
  obtain ⟨⟨rfl, rfl⟩, _⟩ := ev3
  simp only [shClass, Sh.size_st, Sh.sizes_cons, Sh.sizes_nil, Sh.size_str, Sh.size_slice, Sh.size_int, Sh.size_bool, List.cons_append, List.nil_append, Nat.reduceAdd, Nat.add_zero] at eg3 ew3 et3 er3
  obtain ⟨G3, q3, ln3, fr3, ma3⟩ := eH G2 [w3] _ K3 kk2 ea3 en3 (by simp only [cntPV, cntP]; omega)
  simp only [valC, List.headD_cons] at q3
  have ld3 := load1 eg3 ew3
  have A3 := er3 G3 (.lst (mkPs l3 kk2)) (fun q _ hq => fr3 q hq) ma3
  have ln3 : G3.length = H.length := by rw [ln3]; first | exact g1 | exact ln2
  have fr3 : ∀ q, q ∉ F → G3[q]? = H[q]? := fun q hq => by rw [fr3 q fun h => hq (es3 q h)]; first | exact g2 q hq | exact fr2 q hq
  obtain ⟨kk3, hkk3⟩ : ∃ n, n = kk2 + cntP (.lst l3) := ⟨_, rfl⟩
  rw [cntPV, ← hkk3] at q3
  simp only [cntP] at hkk3
  rw [List.set_set] at A3
  have hx3_ : (L.set i (.st [(.str (markStr kk)), (.lst (mkPs l1 kk0)), (.lst (mkPs l2 kk1)), (.lst (mkPs l3 kk2))]))[i]? = some (.st [(.str (markStr kk)), (.lst (mkPs l1 kk0)), (.lst (mkPs l2 kk1)), (.lst (mkPs l3 kk2))]) := List.getElem?_set_self (by omega)
  have hks : k + cntPs (l.take (i + 1)) = kk3 := by omega
  rw [show L.set i (.st [(.str (markStr kk)), (.lst (mkPs l1 kk0)), (.lst (mkPs l2 kk1)), (.lst (mkPs l3 kk2))]) = _ from (by simp only [hkk0, hkk1, hkk2, hkk3, hkk]; exact hmk)] at A3
  have hw : IntKind.i64.wrap ((i : Int) + 1) = ((i : Int) + 1) := wrap_i64 (by omega) (by omega)
  have hix : i + 1 ≤ l.length := hi
  simp [r0, r1, r5, hi, hw, q0, st0, hw0, q1, ld1, q2, ld2, q3, ld3, -setRange]
  exact ⟨m, by omega, i + 1, by omega, _, _, ⟨rfl, rfl⟩, by simp [r0], by simp; omega, by simp, ln3, fr3, A3⟩
theorem xy : kM 74 (.slice shNode) := by
 intro H cs u F k h hn hk
 obtain ⟨v, l, rfl, rfl, hlen, hv⟩ := AtF_slice.1 h
 have hv := (AtF_slice.2 ⟨v, l, rfl, rfl, hlen, hv⟩).at
 obtain ⟨_, _, hx1, hx2, _, hv⟩ := At_slice.1 hv
 cases hx1; cases hx2
 apply Ret.mark
 rw [Q3]
 simp only [cntV] at hk
 have hl64 : l.length ≤ 9223372036854775807 := hlen
 simp [zH, Tryz.f74, valC, -setRange]
 refine WP_loop (fun m σ => ∃ (i : Nat) (r : Nat → R) (G : List Ob), i + m = l.length ∧ σ = ⟨r, 0, G⟩ ∧ r 0 = .val v ∧ r 1 = .val (.int .i64 ((k + cntPs (l.take i) : Nat) : Int)) ∧ r 5 = .val (.int .i64 i) ∧ G.length = H.length ∧ (∀ q, q ∉ F → G[q]? = H[q]?) ∧ AtF G (.slice shNode) [v] (.lst (mkPs (l.take i) k ++ l.drop i)) F) ?_ l.length _ ⟨0, _, H, by simp, rfl, by simp, by simp [cntPs], by simp, rfl, fun _ _ => rfl, by simpa [mkPs] using h⟩
 rintro m σ ⟨i, r, G, him, rfl, r0, r1, r5, g1, g2, g3⟩
 cases m with
 | zero =>
  have hi : i = l.length := by omega
  subst hi
  simp at g3
  simp [r0, r1, r5, hv.len, bC g1, cntV, mkV]
  exact ⟨g1, g2, g3⟩
 | succ m =>
  have hi : i < l.length := by omega
  obtain ⟨x, hx⟩ : ∃ x, l[i]? = some x := ⟨l[i], by simp [hi]⟩
  have hx0 : (mkPs (l.take i) k ++ l.drop i)[i]? = some x := by rw [mk_get hi, hx]
  have hmk := mk_set (k := k) hx
  have hcnt := cntPs_take hx
  have hle := cntPs_take_le (l := l) (i := i + 1)
  have hL : (mkPs (l.take i) k ++ l.drop i).length = l.length := by simp [mkPs_len]; omega
  obtain ⟨L, hLd⟩ : ∃ L, L = mkPs (l.take i) k ++ l.drop i := ⟨_, rfl⟩
  rw [← hLd] at hx0 hmk hL g3
  clear hLd
  obtain ⟨id, off, cells, K, e0, e1, e2, e3, e4, e5, e6, e7, e8⟩ := AtF.elem g3 hn hx0
  clear e1 e2 e4 e5 e7 e8
  rw [hL] at e0
  subst e0
  generalize List.take (shNode).size (List.drop (off + i * (shNode).size) cells) = cc at e3
  replace e3 := AtF_st.1 e3
  obtain ⟨us, rfl, e3⟩ := e3
  replace e3 := AtsF_cons.1 e3
  obtain ⟨c0, d0, u0, rr0, F0, E0, rfl, rfl, rfl, h0, e3⟩ := e3
  replace e3 := AtsF_cons.1 e3
  obtain ⟨c1, d1, u1, rr1, F1, E1, rfl, rfl, rfl, h1, e3⟩ := e3
  replace e3 := AtsF_cons.1 e3
  obtain ⟨c2, d2, u2, rr2, F2, E2, rfl, rfl, rfl, h2, e3⟩ := e3
  replace e3 := AtsF_cons.1 e3
  obtain ⟨c3, d3, u3, rr3, F3, E3, rfl, rfl, rfl, h3, e3⟩ := e3
  replace e3 := AtsF_nil.1 e3
  obtain ⟨rfl, rfl, rfl⟩ := e3
  replace h0 := AtF_int.1 h0
  obtain ⟨⟨n0, rfl, rfl, w0⟩, rfl⟩ := h0
  replace h1 := AtF_str.1 h1
  obtain ⟨⟨s1, rfl, rfl, w1⟩, rfl⟩ := h1
  replace h2 := AtF_str.1 h2
  obtain ⟨⟨s2, rfl, rfl, w2⟩, rfl⟩ := h2
  replace h3 := AtF_int.1 h3
  obtain ⟨⟨n3, rfl, rfl, w3⟩, rfl⟩ := h3
  simp only [cntP, cntPs_cons, cntPs_nil, Nat.add_zero] at hcnt
  obtain ⟨kk, hkk⟩ : ∃ kk, kk = k + cntPs (l.take i) := ⟨_, rfl⟩
  rw [← hkk] at r1
  obtain ⟨id0, off0, cells0, w0, K0, ev0, eg0, ei0, ek0, ew0, ea0, en0, es0, er0, et0⟩ := AtF.field [] g3 hn (i := i) (us1 := []) (u := (.int n0)) (us2 := [(.str s1), (.str s2), (.int n3)]) hx0 rfl rfl
  simp only [V.slc.injEq, Option.some.injEq, Prod.mk.injEq] at ev0
  obtain ⟨⟨rfl, rfl⟩, _⟩ := ev0
  simp only [shNode, Sh.size_st, Sh.sizes_cons, Sh.sizes_nil, Sh.size_str, Sh.size_slice, Sh.size_int, Sh.size_bool, List.cons_append, List.nil_append, Nat.reduceAdd, Nat.add_zero] at eg0 ew0 et0 er0
  obtain ⟨_, rfl⟩ := AtF_int.1 ea0
  have st0 := store1 (v := (.int .i64 kk)) eg0 (List.getElem?_eq_some_iff.1 ew0).1 rfl rfl
  have A0 := et0 (.int .i64 kk) (.int kk) (AtF_int.2 ⟨⟨_, rfl, rfl, wf_nat (by omega)⟩, rfl⟩)
  obtain ⟨G0, hG0⟩ : ∃ G', G' = G.set id (.mk true 4 (cells0.set (off + i * 4) (.int .i64 kk))) := ⟨_, rfl⟩
  rw [← hG0] at st0 A0
  have ln0 : G0.length = H.length := by rw [hG0, List.length_set]; exact g1
  have fr0 : ∀ q, q ∉ F → G0[q]? = H[q]? := fun q hq => by rw [hG0, List.getElem?_set_ne (by rintro rfl; exact hq e6)]; exact g2 q hq
  clear hG0
  obtain ⟨kk0, hkk0⟩ : ∃ n, n = kk + 1 := ⟨_, rfl⟩
  have hw0 : IntKind.i64.wrap ((kk : Int) + 1) = (kk0 : Int) := by rw [wrap_i64 (by omega) (by omega)]; omega
  have hx0_ : (L.set i (.st [(.int kk), (.str s1), (.str s2), (.int n3)]))[i]? = some (.st [(.int kk), (.str s1), (.str s2), (.int n3)]) := List.getElem?_set_self (by omega)
  obtain ⟨id1, off1, cells1, w1, K1, ev1, eg1, ei1, ek1, ew1, ea1, en1, es1, er1, et1⟩ := AtF.field [(.int .i64)] A0 hn (i := i) (us1 := [(.int kk)]) (u := (.str s1)) (us2 := [(.str s2), (.int n3)]) hx0_ rfl rfl
  simp only [V.slc.injEq, Option.some.injEq, Prod.mk.injEq] at ev1
  obtain ⟨⟨rfl, rfl⟩, _⟩ := ev1
  simp only [shNode, Sh.size_st, Sh.sizes_cons, Sh.sizes_nil, Sh.size_str, Sh.size_slice, Sh.size_int, Sh.size_bool, List.cons_append, List.nil_append, Nat.reduceAdd, Nat.add_zero] at eg1 ew1 et1 er1
  obtain ⟨_, rfl⟩ := AtF_str.1 ea1
  have q1 := aB (H := G0) (k := kk0) (by omega)
  have st1 := store1 (v := (.str (markStr kk0))) eg1 (List.getElem?_eq_some_iff.1 ew1).1 rfl rfl
  have A1 := et1 (.str (markStr kk0)) (.str (markStr kk0)) (AtF_str.2 ⟨⟨_, rfl, rfl, aX (by omega)⟩, rfl⟩)
  obtain ⟨G1, hG1⟩ : ∃ G', G' = G0.set id (.mk true 4 (cells1.set (off + i * 4 + 1) (.str (markStr kk0)))) := ⟨_, rfl⟩
  rw [← hG1] at st1 A1
  have ln1 : G1.length = H.length := by rw [hG1, List.length_set]; exact ln0
  have fr1 : ∀ q, q ∉ F → G1[q]? = H[q]? := fun q hq => by rw [hG1, List.getElem?_set_ne (by rintro rfl; exact hq e6)]; exact fr0 q hq
  clear hG1
  obtain ⟨kk1, hkk1⟩ : ∃ n, n = kk0 + 1 := ⟨_, rfl⟩
  have hw1 : IntKind.i64.wrap ((kk0 : Int) + 1) = (kk1 : Int) := by rw [wrap_i64 (by omega) (by omega)]; omega
  rw [List.set_set] at A1
  have hx1_ : (L.set i (.st [(.int kk), (.str (markStr kk0)), (.str s2), (.int n3)]))[i]? = some (.st [(.int kk), (.str (markStr kk0)), (.str s2), (.int n3)]) := List.getElem?_set_self (by omega)
  obtain ⟨id2, off2, cells2, w2, K2, ev2, eg2, ei2, ek2, ew2, ea2, en2, es2, er2, et2⟩ := AtF.field [(.int .i64), .str] A1 hn (i := i) (us1 := [(.int kk), (.str (markStr kk0))]) (u := (.str s2)) (us2 := [(.int n3)]) hx1_ rfl rfl
  simp only [V.slc.injEq, Option.some.injEq, Prod.mk.injEq] at ev2
  obtain ⟨⟨rfl, rfl⟩, _⟩ := ev2
  simp only [shNode, Sh.size_st, Sh.sizes_cons, Sh.sizes_nil, Sh.size_str, Sh.size_slice, Sh.size_int, Sh.size_bool, List.cons_append, List.nil_append, Nat.reduceAdd, Nat.add_zero] at eg2 ew2 et2 er2
  obtain ⟨_, rfl⟩ := AtF_str.1 ea2
  have q2 := aB (H := G1) (k := kk1) (by omega)
  have st2 := store1 (v := (.str (markStr kk1))) eg2 (List.getElem?_eq_some_iff.1 ew2).1 rfl rfl
  have A2 := et2 (.str (markStr kk1)) (.str (markStr kk1)) (AtF_str.2 ⟨⟨_, rfl, rfl, aX (by omega)⟩, rfl⟩)
  obtain ⟨G2, hG2⟩ : ∃ G', G' = G1.set id (.mk true 4 (cells2.set (off + i * 4 + 2) (.str (markStr kk1)))) := ⟨_, rfl⟩
  rw [← hG2] at st2 A2
  have ln2 : G2.length = H.length := by rw [hG2, List.length_set]; exact ln1
  have fr2 : ∀ q, q ∉ F → G2[q]? = H[q]? := fun q hq => by rw [hG2, List.getElem?_set_ne (by rintro rfl; exact hq e6)]; exact fr1 q hq
  clear hG2
  obtain ⟨kk2, hkk2⟩ : ∃ n, n = kk1 + 1 := ⟨_, rfl⟩
  have hw2 : IntKind.i64.wrap ((kk1 : Int) + 1) = (kk2 : Int) := by rw [wrap_i64 (by omega) (by omega)]; omega
  rw [List.set_set] at A2
  have hx2_ : (L.set i (.st [(.int kk), (.str (markStr kk0)), (.str (markStr kk1)), (.int n3)]))[i]? = some (.st [(.int kk), (.str (markStr kk0)), (.str (markStr kk1)), (.int n3)]) := List.getElem?_set_self (by omega)
  obtain ⟨id3, off3, cells3, w3, K3, ev3, eg3, ei3, ek3, ew3, ea3, en3, es3, er3, et3⟩ := AtF.field [(.int .i64), .str, .str] A2 hn (i := i) (us1 := [(.int kk), (.str (markStr kk0)), (.str (markStr kk1))]) (u := (.int n3)) (us2 := []) hx2_ rfl rfl
  simp only [V.slc.injEq, Option.some.injEq, Prod.mk.injEq] at ev3
  obtain ⟨⟨rfl, rfl⟩, _⟩ := ev3
  simp only [shNode, Sh.size_st, Sh.sizes_cons, Sh.sizes_nil, Sh.size_str, Sh.size_slice, Sh.size_int, Sh.size_bool, List.cons_append, List.nil_append, Nat.reduceAdd, Nat.add_zero] at eg3 ew3 et3 er3
  obtain ⟨_, rfl⟩ := AtF_int.1 ea3
  have st3 := store1 (v := (.int .i64 kk2)) eg3 (List.getElem?_eq_some_iff.1 ew3).1 rfl rfl
  have A3 := et3 (.int .i64 kk2) (.int kk2) (AtF_int.2 ⟨⟨_, rfl, rfl, wf_nat (by omega)⟩, rfl⟩)
  obtain ⟨G3, hG3⟩ : ∃ G', G' = G2.set id (.mk true 4 (cells3.set (off + i * 4 + 3) (.int .i64 kk2))) := ⟨_, rfl⟩
  rw [← hG3] at st3 A3
  have ln3 : G3.length = H.length := by rw [hG3, List.length_set]; exact ln2
  have fr3 : ∀ q, q ∉ F → G3[q]? = H[q]? := fun q hq => by rw [hG3, List.getElem?_set_ne (by rintro rfl; exact hq e6)]; exact fr2 q hq
  clear hG3
  obtain ⟨kk3, hkk3⟩ : ∃ n, n = kk2 + 1 := ⟨_, rfl⟩
  have hw3 : IntKind.i64.wrap ((kk2 : Int) + 1) = (kk3 : Int) := by rw [wrap_i64 (by omega) (by omega)]; omega
  rw [List.set_set] at A3
  have hx3_ : (L.set i (.st [(.int kk), (.str (markStr kk0)), (.str (markStr kk1)), (.int kk2)]))[i]? = some (.st [(.int kk), (.str (markStr kk0)), (.str (markStr kk1)), (.int kk2)]) := List.getElem?_set_self (by omega)
  have hks : k + cntPs (l.take (i + 1)) = kk3 := by omega
  rw [show L.set i (.st [(.int kk), (.str (markStr kk0)), (.str (markStr kk1)), (.int kk2)]) = _ from (by simp only [hkk0, hkk1, hkk2, hkk3, hkk]; exact hmk)] at A3
  have hw : IntKind.i64.wrap ((i : Int) + 1) = ((i : Int) + 1) := wrap_i64 (by omega) (by omega)
  have hix : i + 1 ≤ l.length := hi
  simp [r0, r1, r5, hi, hw, st0, hw0, q1, st1, hw1, q2, st2, hw2, st3, hw3, -setRange]
  exact ⟨m, by omega, i + 1, by omega, _, _, ⟨rfl, rfl⟩, by simp [r0], by simp; omega, by simp, ln3, fr3, A3⟩
theorem lh : kM 75 (.slice shPart) := by
 intro H cs u F k h hn hk
 obtain ⟨v, l, rfl, rfl, hlen, hv⟩ := AtF_slice.1 h
 have hv := (AtF_slice.2 ⟨v, l, rfl, rfl, hlen, hv⟩).at
 obtain ⟨_, _, hx1, hx2, _, hv⟩ := At_slice.1 hv
 cases hx1; cases hx2
 apply Ret.mark
 rw [Q9]
 simp only [cntV] at hk
 have hl64 : l.length ≤ 9223372036854775807 := hlen
 simp [zT, Tryz.f75, valC, -setRange]
 refine WP_loop (fun m σ => ∃ (i : Nat) (r : Nat → R) (G : List Ob), i + m = l.length ∧ σ = ⟨r, 0, G⟩ ∧ r 0 = .val v ∧ r 1 = .val (.int .i64 ((k + cntPs (l.take i) : Nat) : Int)) ∧ r 5 = .val (.int .i64 i) ∧ G.length = H.length ∧ (∀ q, q ∉ F → G[q]? = H[q]?) ∧ AtF G (.slice shPart) [v] (.lst (mkPs (l.take i) k ++ l.drop i)) F) ?_ l.length _ ⟨0, _, H, by simp, rfl, by simp, by simp [cntPs], by simp, rfl, fun _ _ => rfl, by simpa [mkPs] using h⟩
 rintro m σ ⟨i, r, G, him, rfl, r0, r1, r5, g1, g2, g3⟩
 cases m with
 | zero =>
  have hi : i = l.length := by omega
  subst hi
  simp at g3
  simp [r0, r1, r5, hv.len, bC g1, cntV, mkV]
  exact ⟨g1, g2, g3⟩
 | succ m =>
  have hi : i < l.length := by omega
  obtain ⟨x, hx⟩ : ∃ x, l[i]? = some x := ⟨l[i], by simp [hi]⟩
  have hx0 : (mkPs (l.take i) k ++ l.drop i)[i]? = some x := by rw [mk_get hi, hx]
  have hmk := mk_set (k := k) hx
  have hcnt := cntPs_take hx
  have hle := cntPs_take_le (l := l) (i := i + 1)
  have hL : (mkPs (l.take i) k ++ l.drop i).length = l.length := by simp [mkPs_len]; omega
  obtain ⟨L, hLd⟩ : ∃ L, L = mkPs (l.take i) k ++ l.drop i := ⟨_, rfl⟩
  rw [← hLd] at hx0 hmk hL g3
  clear hLd
  obtain ⟨id, off, cells, K, e0, e1, e2, e3, e4, e5, e6, e7, e8⟩ := AtF.elem g3 hn hx0
  clear e1 e2 e4 e5 e7 e8
  rw [hL] at e0
  subst e0
  generalize List.take (shPart).size (List.drop (off + i * (shPart).size) cells) = cc at e3
  replace e3 := AtF_st.1 e3
  obtain ⟨us, rfl, e3⟩ := e3
  replace e3 := AtsF_cons.1 e3
  obtain ⟨c0, d0, u0, rr0, F0, E0, rfl, rfl, rfl, h0, e3⟩ := e3
  replace e3 := AtsF_cons.1 e3
  obtain ⟨c1, d1, u1, rr1, F1, E1, rfl, rfl, rfl, h1, e3⟩ := e3
  replace e3 := AtsF_cons.1 e3
  obtain ⟨c2, d2, u2, rr2, F2, E2, rfl, rfl, rfl, h2, e3⟩ := e3
  replace e3 := AtsF_nil.1 e3
  obtain ⟨rfl, rfl, rfl⟩ := e3
  replace h0 := AtF_int.1 h0
  obtain ⟨⟨n0, rfl, rfl, w0⟩, rfl⟩ := h0
  replace h1 := AtF_str.1 h1
  obtain ⟨⟨s1, rfl, rfl, w1⟩, rfl⟩ := h1
  replace h2 := AtF_int.1 h2
  obtain ⟨⟨n2, rfl, rfl, w2⟩, rfl⟩ := h2
  simp only [cntP, cntPs_cons, cntPs_nil, Nat.add_zero] at hcnt
  obtain ⟨kk, hkk⟩ : ∃ kk, kk = k + cntPs (l.take i) := ⟨_, rfl⟩
  rw [← hkk] at r1
  obtain ⟨id0, off0, cells0, w0, K0, ev0, eg0, ei0, ek0, ew0, ea0, en0, es0, er0, et0⟩ := AtF.field [] g3 hn (i := i) (us1 := []) (u := (.int n0)) (us2 := [(.str s1), (.int n2)]) hx0 rfl rfl
  simp only [V.slc.injEq, Option.some.injEq, Prod.mk.injEq] at ev0
  obtain ⟨⟨rfl, rfl⟩, _⟩ := ev0
  simp only [shPart, Sh.size_st, Sh.sizes_cons, Sh.sizes_nil, Sh.size_str, Sh.size_slice, Sh.size_int, Sh.size_bool, List.cons_append, List.nil_append, Nat.reduceAdd, Nat.add_zero] at eg0 ew0 et0 er0
  obtain ⟨_, rfl⟩ := AtF_int.1 ea0
  have st0 := store1 (v := (.int .i64 kk)) eg0 (List.getElem?_eq_some_iff.1 ew0).1 rfl rfl
  have A0 := et0 (.int .i64 kk) (.int kk) (AtF_int.2 ⟨⟨_, rfl, rfl, wf_nat (by omega)⟩, rfl⟩)
  obtain ⟨G0, hG0⟩ : ∃ G', G' = G.set id (.mk true 3 (cells0.set (off + i * 3) (.int .i64 kk))) := ⟨_, rfl⟩
  rw [← hG0] at st0 A0
  have ln0 : G0.length = H.length := by rw [hG0, List.length_set]; exact g1
  have fr0 : ∀ q, q ∉ F → G0[q]? = H[q]? := fun q hq => by rw [hG0, List.getElem?_set_ne (by rintro rfl; exact hq e6)]; exact g2 q hq
  clear hG0
  obtain ⟨kk0, hkk0⟩ : ∃ n, n = kk + 1 := ⟨_, rfl⟩
  have hw0 : IntKind.i64.wrap ((kk : Int) + 1) = (kk0 : Int) := by rw [wrap_i64 (by omega) (by omega)]; omega
  have hx0_ : (L.set i (.st [(.int kk), (.str s1), (.int n2)]))[i]? = some (.st [(.int kk), (.str s1), (.int n2)]) := List.getElem?_set_self (by omega)
  obtain ⟨id1, off1, cells1, w1, K1, ev1, eg1, ei1, ek1, ew1, ea1, en1, es1, er1, et1⟩ := AtF.field [(.int .i64)] A0 hn (i := i) (us1 := [(.int kk)]) (u := (.str s1)) (us2 := [(.int n2)]) hx0_ rfl rfl
  simp only [V.slc.injEq, Option.some.injEq, Prod.mk.injEq] at ev1
  obtain ⟨⟨rfl, rfl⟩, _⟩ := ev1
  simp only [shPart, Sh.size_st, Sh.sizes_cons, Sh.sizes_nil, Sh.size_str, Sh.size_slice, Sh.size_int, Sh.size_bool, List.cons_append, List.nil_append, Nat.reduceAdd, Nat.add_zero] at eg1 ew1 et1 er1
  obtain ⟨_, rfl⟩ := AtF_str.1 ea1
  have q1 := aB (H := G0) (k := kk0) (by omega)
  have st1 := store1 (v := (.str (markStr kk0))) eg1 (List.getElem?_eq_some_iff.1 ew1).1 rfl rfl
  have A1 := et1 (.str (markStr kk0)) (.str (markStr kk0)) (AtF_str.2 ⟨⟨_, rfl, rfl, aX (by omega)⟩, rfl⟩)
  obtain ⟨G1, hG1⟩ : ∃ G', G' = G0.set id (.mk true 3 (cells1.set (off + i * 3 + 1) (.str (markStr kk0)))) := ⟨_, rfl⟩
  rw [← hG1] at st1 A1
  have ln1 : G1.length = H.length := by rw [hG1, List.length_set]; exact ln0
  have fr1 : ∀ q, q ∉ F → G1[q]? = H[q]? := fun q hq => by rw [hG1, List.getElem?_set_ne (by rintro rfl; exact hq e6)]; exact fr0 q hq
  clear hG1
  obtain ⟨kk1, hkk1⟩ : ∃ n, n = kk0 + 1 := ⟨_, rfl⟩
  have hw1 : IntKind.i64.wrap ((kk0 : Int) + 1) = (kk1 : Int) := by rw [wrap_i64 (by omega) (by omega)]; omega
  rw [List.set_set] at A1
  have hx1_ : (L.set i (.st [(.int kk), (.str (markStr kk0)), (.int n2)]))[i]? = some (.st [(.int kk), (.str (markStr kk0)), (.int n2)]) := List.getElem?_set_self (by omega)
  obtain ⟨id2, off2, cells2, w2, K2, ev2, eg2, ei2, ek2, ew2, ea2, en2, es2, er2, et2⟩ := AtF.field [(.int .i64), .str] A1 hn (i := i) (us1 := [(.int kk), (.str (markStr kk0))]) (u := (.int n2)) (us2 := []) hx1_ rfl rfl
  simp only [V.slc.injEq, Option.some.injEq, Prod.mk.injEq] at ev2
  obtain ⟨⟨rfl, rfl⟩, _⟩ := ev2
  simp only [shPart, Sh.size_st, Sh.sizes_cons, Sh.sizes_nil, Sh.size_str, Sh.size_slice, Sh.size_int, Sh.size_bool, List.cons_append, List.nil_append, Nat.reduceAdd, Nat.add_zero] at eg2 ew2 et2 er2
  obtain ⟨_, rfl⟩ := AtF_int.1 ea2
  have st2 := store1 (v := (.int .i64 kk1)) eg2 (List.getElem?_eq_some_iff.1 ew2).1 rfl rfl
  have A2 := et2 (.int .i64 kk1) (.int kk1) (AtF_int.2 ⟨⟨_, rfl, rfl, wf_nat (by omega)⟩, rfl⟩)
  obtain ⟨G2, hG2⟩ : ∃ G', G' = G1.set id (.mk true 3 (cells2.set (off + i * 3 + 2) (.int .i64 kk1))) := ⟨_, rfl⟩
  rw [← hG2] at st2 A2
  have ln2 : G2.length = H.length := by rw [hG2, List.length_set]; exact ln1
  have fr2 : ∀ q, q ∉ F → G2[q]? = H[q]? := fun q hq => by rw [hG2, List.getElem?_set_ne (by rintro rfl; exact hq e6)]; exact fr1 q hq
  clear hG2
  obtain ⟨kk2, hkk2⟩ : ∃ n, n = kk1 + 1 := ⟨_, rfl⟩
  have hw2 : IntKind.i64.wrap ((kk1 : Int) + 1) = (kk2 : Int) := by rw [wrap_i64 (by omega) (by omega)]; omega
  rw [List.set_set] at A2
  have hx2_ : (L.set i (.st [(.int kk), (.str (markStr kk0)), (.int kk1)]))[i]? = some (.st [(.int kk), (.str (markStr kk0)), (.int kk1)]) := List.getElem?_set_self (by omega)
  have hks : k + cntPs (l.take (i + 1)) = kk2 := by omega
  rw [show L.set i (.st [(.int kk), (.str (markStr kk0)), (.int kk1)]) = _ from (by simp only [hkk0, hkk1, hkk2, hkk]; exact hmk)] at A2
  have hw : IntKind.i64.wrap ((i : Int) + 1) = ((i : Int) + 1) := wrap_i64 (by omega) (by omega)
  have hix : i + 1 ≤ l.length := hi
  simp [r0, r1, r5, hi, hw, st0, hw0, q1, st1, hw1, st2, hw2, -setRange]
  exact ⟨m, by omega, i + 1, by omega, _, _, ⟨rfl, rfl⟩, by simp [r0], by simp; omega, by simp, ln2, fr2, A2⟩
theorem zY : kM 24 (.slice shWant) := by
 intro H cs u F k h hn hk
 obtain ⟨v, l, rfl, rfl, hlen, hv⟩ := AtF_slice.1 h
 have hv := (AtF_slice.2 ⟨v, l, rfl, rfl, hlen, hv⟩).at
 obtain ⟨_, _, hx1, hx2, _, hv⟩ := At_slice.1 hv
 cases hx1; cases hx2
 apply Ret.mark
 rw [Rx]
 simp only [cntV] at hk
 have hl64 : l.length ≤ 9223372036854775807 := hlen
 simp [zQ, Tryz.f24, valC, -setRange]
 refine WP_loop (fun m σ => ∃ (i : Nat) (r : Nat → R) (G : List Ob), i + m = l.length ∧ σ = ⟨r, 0, G⟩ ∧ r 0 = .val v ∧ r 1 = .val (.int .i64 ((k + cntPs (l.take i) : Nat) : Int)) ∧ r 5 = .val (.int .i64 i) ∧ G.length = H.length ∧ (∀ q, q ∉ F → G[q]? = H[q]?) ∧ AtF G (.slice shWant) [v] (.lst (mkPs (l.take i) k ++ l.drop i)) F) ?_ l.length _ ⟨0, _, H, by simp, rfl, by simp, by simp [cntPs], by simp, rfl, fun _ _ => rfl, by simpa [mkPs] using h⟩
 rintro m σ ⟨i, r, G, him, rfl, r0, r1, r5, g1, g2, g3⟩
 cases m with
 | zero =>
  have hi : i = l.length := by omega
  subst hi
  simp at g3
  simp [r0, r1, r5, hv.len, bC g1, cntV, mkV]
  exact ⟨g1, g2, g3⟩
 | succ m =>
  have hi : i < l.length := by omega
  obtain ⟨x, hx⟩ : ∃ x, l[i]? = some x := ⟨l[i], by simp [hi]⟩
  have hx0 : (mkPs (l.take i) k ++ l.drop i)[i]? = some x := by rw [mk_get hi, hx]
  have hmk := mk_set (k := k) hx
  have hcnt := cntPs_take hx
  have hle := cntPs_take_le (l := l) (i := i + 1)
  have hL : (mkPs (l.take i) k ++ l.drop i).length = l.length := by simp [mkPs_len]; omega
  obtain ⟨L, hLd⟩ : ∃ L, L = mkPs (l.take i) k ++ l.drop i := ⟨_, rfl⟩
  rw [← hLd] at hx0 hmk hL g3
  clear hLd
  obtain ⟨id, off, cells, K, e0, e1, e2, e3, e4, e5, e6, e7, e8⟩ := AtF.elem g3 hn hx0
  clear e1 e2 e4 e5 e7 e8
  rw [hL] at e0
  subst e0
  generalize List.take (shWant).size (List.drop (off + i * (shWant).size) cells) = cc at e3
  replace e3 := AtF_st.1 e3
  obtain ⟨us, rfl, e3⟩ := e3
  replace e3 := AtsF_cons.1 e3
  obtain ⟨c0, d0, u0, rr0, F0, E0, rfl, rfl, rfl, h0, e3⟩ := e3
  replace e3 := AtsF_cons.1 e3
  obtain ⟨c1, d1, u1, rr1, F1, E1, rfl, rfl, rfl, h1, e3⟩ := e3
  replace e3 := AtsF_cons.1 e3
  obtain ⟨c2, d2, u2, rr2, F2, E2, rfl, rfl, rfl, h2, e3⟩ := e3
  replace e3 := AtsF_cons.1 e3
  obtain ⟨c3, d3, u3, rr3, F3, E3, rfl, rfl, rfl, h3, e3⟩ := e3
  replace e3 := AtsF_cons.1 e3
  obtain ⟨c4, d4, u4, rr4, F4, E4, rfl, rfl, rfl, h4, e3⟩ := e3
  replace e3 := AtsF_nil.1 e3
  obtain ⟨rfl, rfl, rfl⟩ := e3
  replace h0 := AtF_str.1 h0
  obtain ⟨⟨s0, rfl, rfl, w0⟩, rfl⟩ := h0
  replace h1 := AtF_str.1 h1
  obtain ⟨⟨s1, rfl, rfl, w1⟩, rfl⟩ := h1
  replace h2 := AtF_str.1 h2
  obtain ⟨⟨s2, rfl, rfl, w2⟩, rfl⟩ := h2
  replace h3 := AtF_str.1 h3
  obtain ⟨⟨s3, rfl, rfl, w3⟩, rfl⟩ := h3
  replace h4 := AtF_int.1 h4
  obtain ⟨⟨n4, rfl, rfl, w4⟩, rfl⟩ := h4
  simp only [cntP, cntPs_cons, cntPs_nil, Nat.add_zero] at hcnt
  obtain ⟨kk, hkk⟩ : ∃ kk, kk = k + cntPs (l.take i) := ⟨_, rfl⟩
  rw [← hkk] at r1
  obtain ⟨id0, off0, cells0, w0, K0, ev0, eg0, ei0, ek0, ew0, ea0, en0, es0, er0, et0⟩ := AtF.field [] g3 hn (i := i) (us1 := []) (u := (.str s0)) (us2 := [(.str s1), (.str s2), (.str s3), (.int n4)]) hx0 rfl rfl
  simp only [V.slc.injEq, Option.some.injEq, Prod.mk.injEq] at ev0
  obtain ⟨⟨rfl, rfl⟩, _⟩ := ev0
  simp only [shWant, Sh.size_st, Sh.sizes_cons, Sh.sizes_nil, Sh.size_str, Sh.size_slice, Sh.size_int, Sh.size_bool, List.cons_append, List.nil_append, Nat.reduceAdd, Nat.add_zero] at eg0 ew0 et0 er0
  obtain ⟨_, rfl⟩ := AtF_str.1 ea0
  have q0 := aB (H := G) (k := kk) (by omega)
  have st0 := store1 (v := (.str (markStr kk))) eg0 (List.getElem?_eq_some_iff.1 ew0).1 rfl rfl
  have A0 := et0 (.str (markStr kk)) (.str (markStr kk)) (AtF_str.2 ⟨⟨_, rfl, rfl, aX (by omega)⟩, rfl⟩)
  obtain ⟨G0, hG0⟩ : ∃ G', G' = G.set id (.mk true 5 (cells0.set (off + i * 5) (.str (markStr kk)))) := ⟨_, rfl⟩
  rw [← hG0] at st0 A0
  have ln0 : G0.length = H.length := by rw [hG0, List.length_set]; exact g1
  have fr0 : ∀ q, q ∉ F → G0[q]? = H[q]? := fun q hq => by rw [hG0, List.getElem?_set_ne (by rintro rfl; exact hq e6)]; exact g2 q hq
  clear hG0
  obtain ⟨kk0, hkk0⟩ : ∃ n, n = kk + 1 := ⟨_, rfl⟩
  have hw0 : IntKind.i64.wrap ((kk : Int) + 1) = (kk0 : Int) := by rw [wrap_i64 (by omega) (by omega)]; omega
  have hx0_ : (L.set i (.st [(.str (markStr kk)), (.str s1), (.str s2), (.str s3), (.int n4)]))[i]? = some (.st [(.str (markStr kk)), (.str s1), (.str s2), (.str s3), (.int n4)]) := List.getElem?_set_self (by omega)
  obtain ⟨id1, off1, cells1, w1, K1, ev1, eg1, ei1, ek1, ew1, ea1, en1, es1, er1, et1⟩ := AtF.field [.str] A0 hn (i := i) (us1 := [(.str (markStr kk))]) (u := (.str s1)) (us2 := [(.str s2), (.str s3), (.int n4)]) hx0_ rfl rfl
  simp only [V.slc.injEq, Option.some.injEq, Prod.mk.injEq] at ev1
  obtain ⟨⟨rfl, rfl⟩, _⟩ := ev1
  simp only [shWant, Sh.size_st, Sh.sizes_cons, Sh.sizes_nil, Sh.size_str, Sh.size_slice, Sh.size_int, Sh.size_bool, List.cons_append, List.nil_append, Nat.reduceAdd, Nat.add_zero] at eg1 ew1 et1 er1
  obtain ⟨_, rfl⟩ := AtF_str.1 ea1
  have q1 := aB (H := G0) (k := kk0) (by omega)
  have st1 := store1 (v := (.str (markStr kk0))) eg1 (List.getElem?_eq_some_iff.1 ew1).1 rfl rfl
  have A1 := et1 (.str (markStr kk0)) (.str (markStr kk0)) (AtF_str.2 ⟨⟨_, rfl, rfl, aX (by omega)⟩, rfl⟩)
  obtain ⟨G1, hG1⟩ : ∃ G', G' = G0.set id (.mk true 5 (cells1.set (off + i * 5 + 1) (.str (markStr kk0)))) := ⟨_, rfl⟩
  rw [← hG1] at st1 A1
  have ln1 : G1.length = H.length := by rw [hG1, List.length_set]; exact ln0
  have fr1 : ∀ q, q ∉ F → G1[q]? = H[q]? := fun q hq => by rw [hG1, List.getElem?_set_ne (by rintro rfl; exact hq e6)]; exact fr0 q hq
  clear hG1
  obtain ⟨kk1, hkk1⟩ : ∃ n, n = kk0 + 1 := ⟨_, rfl⟩
  have hw1 : IntKind.i64.wrap ((kk0 : Int) + 1) = (kk1 : Int) := by rw [wrap_i64 (by omega) (by omega)]; omega
  rw [List.set_set] at A1
  have hx1_ : (L.set i (.st [(.str (markStr kk)), (.str (markStr kk0)), (.str s2), (.str s3), (.int n4)]))[i]? = some (.st [(.str (markStr kk)), (.str (markStr kk0)), (.str s2), (.str s3), (.int n4)]) := List.getElem?_set_self (by omega)
  obtain ⟨id2, off2, cells2, w2, K2, ev2, eg2, ei2, ek2, ew2, ea2, en2, es2, er2, et2⟩ := AtF.field [.str, .str] A1 hn (i := i) (us1 := [(.str (markStr kk)), (.str (markStr kk0))]) (u := (.str s2)) (us2 := [(.str s3), (.int n4)]) hx1_ rfl rfl
  simp only [V.slc.injEq, Option.some.injEq, Prod.mk.injEq] at ev2
  obtain ⟨⟨rfl, rfl⟩, _⟩ := ev2
  simp only [shWant, Sh.size_st, Sh.sizes_cons, Sh.sizes_nil, Sh.size_str, Sh.size_slice, Sh.size_int, Sh.size_bool, List.cons_append, List.nil_append, Nat.reduceAdd, Nat.add_zero] at eg2 ew2 et2 er2
  obtain ⟨_, rfl⟩ := AtF_str.1 ea2
  have q2 := aB (H := G1) (k := kk1) (by omega)
  have st2 := store1 (v := (.str (markStr kk1))) eg2 (List.getElem?_eq_some_iff.1 ew2).1 rfl rfl
  have A2 := et2 (.str (markStr kk1)) (.str (markStr kk1)) (AtF_str.2 ⟨⟨_, rfl, rfl, aX (by omega)⟩, rfl⟩)
  obtain ⟨G2, hG2⟩ : ∃ G', G' = G1.set id (.mk true 5 (cells2.set (off + i * 5 + 2) (.str (markStr kk1)))) := ⟨_, rfl⟩
  rw [← hG2] at st2 A2
  have ln2 : G2.length = H.length := by rw [hG2, List.length_set]; exact ln1
  have fr2 : ∀ q, q ∉ F → G2[q]? = H[q]? := fun q hq => by rw [hG2, List.getElem?_set_ne (by rintro rfl; exact hq e6)]; exact fr1 q hq
  clear hG2
  obtain ⟨kk2, hkk2⟩ : ∃ n, n = kk1 + 1 := ⟨_, rfl⟩
  have hw2 : IntKind.i64.wrap ((kk1 : Int) + 1) = (kk2 : Int) := by rw [wrap_i64 (by omega) (by omega)]; omega
  rw [List.set_set] at A2
  have hx2_ : (L.set i (.st [(.str (markStr kk)), (.str (markStr kk0)), (.str (markStr kk1)), (.str s3), (.int n4)]))[i]? = some (.st [(.str (markStr kk)), (.str (markStr kk0)), (.str (markStr kk1)), (.str s3), (.int n4)]) := List.getElem?_set_self (by omega)
  obtain ⟨id3, off3, cells3, w3, K3, ev3, eg3, ei3, ek3, ew3, ea3, en3, es3, er3, et3⟩ := AtF.field [.str, .str, .str] A2 hn (i := i) (us1 := [(.str (markStr kk)), (.str (markStr kk0)), (.str (markStr kk1))]) (u := (.str s3)) (us2 := [(.int n4)]) hx2_ rfl rfl
  simp only [V.slc.injEq, Option.some.injEq, Prod.mk.injEq] at ev3
  obtain ⟨⟨rfl, rfl⟩, _⟩ := ev3
  simp only [shWant, Sh.size_st, Sh.sizes_cons, Sh.sizes_nil, Sh.size_str, Sh.size_slice, Sh.size_int, Sh.size_bool, List.cons_append, List.nil_append, Nat.reduceAdd, Nat.add_zero] at eg3 ew3 et3 er3
  obtain ⟨_, rfl⟩ := AtF_str.1 ea3
  have q3 := aB (H := G2) (k := kk2) (by omega)
  have st3 := store1 (v := (.str (markStr kk2))) eg3 (List.getElem?_eq_some_iff.1 ew3).1 rfl rfl
  have A3 := et3 (.str (markStr kk2)) (.str (markStr kk2)) (AtF_str.2 ⟨⟨_, rfl, rfl, aX (by omega)⟩, rfl⟩)
  obtain ⟨G3, hG3⟩ : ∃ G', G' = G2.set id (.mk true 5 (cells3.set (off + i * 5 + 3) (.str (markStr kk2)))) := ⟨_, rfl⟩
  rw [← hG3] at st3 A3
  have ln3 : G3.length = H.length := by rw [hG3, List.length_set]; exact ln2
  have fr3 : ∀ q, q ∉ F → G3[q]? = H[q]? := fun q hq => by rw [hG3, List.getElem?_set_ne (by rintro rfl; exact hq e6)]; exact fr2 q hq
  clear hG3
  obtain ⟨kk3, hkk3⟩ : ∃ n, n = kk2 + 1 := ⟨_, rfl⟩
  have hw3 : IntKind.i64.wrap ((kk2 : Int) + 1) = (kk3 : Int) := by rw [wrap_i64 (by omega) (by omega)]; omega
  rw [List.set_set] at A3
  have hx3_ : (L.set i (.st [(.str (markStr kk)), (.str (markStr kk0)), (.str (markStr kk1)), (.str (markStr kk2)), (.int n4)]))[i]? = some (.st [(.str (markStr kk)), (.str (markStr kk0)), (.str (markStr kk1)), (.str (markStr kk2)), (.int n4)]) := List.getElem?_set_self (by omega)
  obtain ⟨id4, off4, cells4, w4, K4, ev4, eg4, ei4, ek4, ew4, ea4, en4, es4, er4, et4⟩ := AtF.field [.str, .str, .str, .str] A3 hn (i := i) (us1 := [(.str (markStr kk)), (.str (markStr kk0)), (.str (markStr kk1)), (.str (markStr kk2))]) (u := (.int n4)) (us2 := []) hx3_ rfl rfl
  simp only [V.slc.injEq, Option.some.injEq, Prod.mk.injEq] at ev4
  obtain ⟨⟨rfl, rfl⟩, _⟩ := ev4
  simp only [shWant, Sh.size_st, Sh.sizes_cons, Sh.sizes_nil, Sh.size_str, Sh.size_slice, Sh.size_int, Sh.size_bool, List.cons_append, List.nil_append, Nat.reduceAdd, Nat.add_zero] at eg4 ew4 et4 er4
  obtain ⟨_, rfl⟩ := AtF_int.1 ea4
  have st4 := store1 (v := (.int .i64 kk3)) eg4 (List.getElem?_eq_some_iff.1 ew4).1 rfl rfl
  have A4 := et4 (.int .i64 kk3) (.int kk3) (AtF_int.2 ⟨⟨_, rfl, rfl, wf_nat (by omega)⟩, rfl⟩)
  obtain ⟨G4, hG4⟩ : ∃ G', G' = G3.set id (.mk true 5 (cells4.set (off + i * 5 + 4) (.int .i64 kk3))) := ⟨_, rfl⟩
  rw [← hG4] at st4 A4
  have ln4 : G4.length = H.length := by rw [hG4, List.length_set]; exact ln3
  have fr4 : ∀ q, q ∉ F → G4[q]? = H[q]? := fun q hq => by rw [hG4, List.getElem?_set_ne (by rintro rfl; exact hq e6)]; exact fr3 q hq
  clear hG4
  obtain ⟨kk4, hkk4⟩ : ∃ n, n = kk3 + 1 := ⟨_, rfl⟩
  have hw4 : IntKind.i64.wrap ((kk3 : Int) + 1) = (kk4 : Int) := by rw [wrap_i64 (by omega) (by omega)]; omega
  rw [List.set_set] at A4
  have hx4_ : (L.set i (.st [(.str (markStr kk)), (.str (markStr kk0)), (.str (markStr kk1)), (.str (markStr kk2)), (.int kk3)]))[i]? = some (.st [(.str (markStr kk)), (.str (markStr kk0)), (.str (markStr kk1)), (.str (markStr kk2)), (.int kk3)]) := List.getElem?_set_self (by omega)
  have hks : k + cntPs (l.take (i + 1)) = kk4 := by omega
  rw [show L.set i (.st [(.str (markStr kk)), (.str (markStr kk0)), (.str (markStr kk1)), (.str (markStr kk2)), (.int kk3)]) = _ from (by simp only [hkk0, hkk1, hkk2, hkk3, hkk4, hkk]; exact hmk)] at A4
  have hw : IntKind.i64.wrap ((i : Int) + 1) = ((i : Int) + 1) := wrap_i64 (by omega) (by omega)
  have hix : i + 1 ≤ l.length := hi
  simp [r0, r1, r5, hi, hw, q0, st0, hw0, q1, st1, hw1, q2, st2, hw2, q3, st3, hw3, st4, hw4, -setRange]
  exact ⟨m, by omega, i + 1, by omega, _, _, ⟨rfl, rfl⟩, by simp [r0], by simp; omega, by simp, ln4, fr4, A4⟩
theorem lC : Em 25 (.slice shWant) := by
 intro H cs u k h hk
 obtain ⟨v, l', rfl, hu, hlen, hv⟩ := At_slice.1 h
 obtain ⟨l, rfl, rfl⟩ := mkV_lst hu
 apply Ret.eq
 rw [P9]
 simp only [cntV] at hk ⊢
 have hl64 : (mkPs l k).length ≤ 9223372036854775807 := hlen
 rw [mkPs_len] at hl64
 have hvl := fun {e s b : Nat} {z : List V} => hv.len (e := e) (s := s) (b := b) (z := z)
 simp only [mkPs_len] at hvl
 simp [xA, Tryz.f25, valC]
 refine WP_loop (fun m σ => ∃ (i kk : Nat) (r : Nat → R), i + m = l.length ∧ kk = k + cntPs (l.take i) ∧ σ = ⟨r, 0, H⟩ ∧ r 0 = .val v ∧ r 1 = .val (.int .i64 kk) ∧ r 5 = .val (.int .i64 i)) ?_ l.length _ ⟨0, k, _, by simp, by simp [cntPs], rfl, by simp, by simp, by simp⟩
 rintro m σ ⟨i, kk, r, him, hkk, rfl, r0, r1, r5⟩
 cases m with
 | zero =>
  have hi : i = l.length := by omega
  subst hi
  rw [List.take_length] at hkk
  simp [r0, r1, r5, hvl, hkk]
 | succ m =>
  have hi : i < l.length := by omega
  obtain ⟨x, hx⟩ : ∃ x, l[i]? = some x := ⟨l[i], by simp [hi]⟩
  obtain ⟨eid, o, own, cells, e1, e2, e3, e0⟩ := hv.idx (mkPs_get hx) (by decide)
  rw [← hkk] at e0
  have hcnt := cntPs_take hx
  have hle := cntPs_take_le (l := l) (i := i + 1)
  have hid : eid < H.length := (List.getElem?_eq_some_iff.1 e2).1
  have hw : IntKind.i64.wrap ((i : Int) + 1) = ((i : Int) + 1) := wrap_i64 (by omega) (by omega)
  obtain ⟨us0, hu0, E0⟩ := At_st.1 e0
  obtain ⟨us0, rfl, rfl⟩ := mkP_st hu0
  obtain ⟨c0, d0, u0, rr0, hc0, hu, h0, E1⟩ := Ats_cons.1 E0
  obtain ⟨u0, us0, rfl, rfl, rfl⟩ := mkPs_cons hu
  obtain ⟨s0, rfl, hs, _⟩ := At_str.1 h0
  obtain ⟨⟨t0, rfl⟩, rfl⟩ := mkP_str hs
  obtain ⟨kk1, hkk1⟩ : ∃ n, n = kk + cntP (.str t0) := ⟨_, rfl⟩
  rw [← hkk1] at E1
  obtain ⟨c1, d1, u1, rr1, rfl, hu, h1, E2⟩ := Ats_cons.1 E1
  obtain ⟨u1, us0, rfl, rfl, rfl⟩ := mkPs_cons hu
  obtain ⟨s1, rfl, hs, _⟩ := At_str.1 h1
  obtain ⟨⟨t1, rfl⟩, rfl⟩ := mkP_str hs
  obtain ⟨kk2, hkk2⟩ : ∃ n, n = kk1 + cntP (.str t1) := ⟨_, rfl⟩
  rw [← hkk2] at E2
  obtain ⟨c2, d2, u2, rr2, rfl, hu, h2, E3⟩ := Ats_cons.1 E2
  obtain ⟨u2, us0, rfl, rfl, rfl⟩ := mkPs_cons hu
  obtain ⟨s2, rfl, hs, _⟩ := At_str.1 h2
  obtain ⟨⟨t2, rfl⟩, rfl⟩ := mkP_str hs
  obtain ⟨kk3, hkk3⟩ : ∃ n, n = kk2 + cntP (.str t2) := ⟨_, rfl⟩
  rw [← hkk3] at E3
  obtain ⟨c3, d3, u3, rr3, rfl, hu, h3, E4⟩ := Ats_cons.1 E3
  obtain ⟨u3, us0, rfl, rfl, rfl⟩ := mkPs_cons hu
  obtain ⟨s3, rfl, hs, _⟩ := At_str.1 h3
  obtain ⟨⟨t3, rfl⟩, rfl⟩ := mkP_str hs
  obtain ⟨kk4, hkk4⟩ : ∃ n, n = kk3 + cntP (.str t3) := ⟨_, rfl⟩
  rw [← hkk4] at E4
  obtain ⟨c4, d4, u4, rr4, rfl, hu, h4, E5⟩ := Ats_cons.1 E4
  obtain ⟨u4, us0, rfl, rfl, rfl⟩ := mkPs_cons hu
  obtain ⟨s4, rfl, hs, _⟩ := At_int.1 h4
  obtain ⟨⟨t4, rfl⟩, rfl⟩ := mkP_int hs
  obtain ⟨kk5, hkk5⟩ : ∃ n, n = kk4 + cntP (.int t4) := ⟨_, rfl⟩
  rw [← hkk5] at E5
  obtain ⟨rfl, hun⟩ := Ats_nil.1 E5
  obtain rfl := mkPs_nil hun
  simp only [List.cons_append, List.nil_append, List.append_nil] at hc0
  simp only [cntP_st, cntPs_cons, cntPs_nil, cntP_str, cntP_int, cntP_bool, Nat.add_zero] at hcnt hkk1 hkk2 hkk3 hkk4 hkk5
  have ld0 := load1 e2 (by simpa using cells_get hc0 (j := 0) rfl)
  have hm0 := aB (H := H) (k := kk) (by omega)
  have hw0 : IntKind.i64.wrap ((kk : Int) + 1) = (kk1 : Int) := by rw [wrap_i64 (by omega) (by omega)]; omega
  have ld1 := load1 e2 (by simpa using cells_get hc0 (j := 1) rfl)
  have hm1 := aB (H := H) (k := kk1) (by omega)
  have hw1 : IntKind.i64.wrap ((kk1 : Int) + 1) = (kk2 : Int) := by rw [wrap_i64 (by omega) (by omega)]; omega
  have ld2 := load1 e2 (by simpa using cells_get hc0 (j := 2) rfl)
  have hm2 := aB (H := H) (k := kk2) (by omega)
  have hw2 : IntKind.i64.wrap ((kk2 : Int) + 1) = (kk3 : Int) := by rw [wrap_i64 (by omega) (by omega)]; omega
  have ld3 := load1 e2 (by simpa using cells_get hc0 (j := 3) rfl)
  have hm3 := aB (H := H) (k := kk3) (by omega)
  have hw3 : IntKind.i64.wrap ((kk3 : Int) + 1) = (kk4 : Int) := by rw [wrap_i64 (by omega) (by omega)]; omega
  have ld4 := load1 e2 (by simpa using cells_get hc0 (j := 4) rfl)
  have hw4 : IntKind.i64.wrap ((kk4 : Int) + 1) = (kk5 : Int) := by rw [wrap_i64 (by omega) (by omega)]; omega
  rw [show (shWant).size = 5 from rfl] at e1
  simp [r0, r1, r5, hi, hvl, e1, hid, hw, ld0, hm0, hw0, ld1, hm1, hw1, ld2, hm2, hw2, ld3, hm3, hw3, ld4, hw4]
  exact ⟨m, by omega, i + 1, by omega, by omega, by omega⟩
theorem BB : kM 22 shFlow := by
 intro H cs u F k h hn hk
 replace h := AtF_st.1 h
 obtain ⟨us, rfl, h⟩ := h
 replace h := AtsF_cons.1 h
 obtain ⟨c0, d0, u0, rr0, F0, E0, rfl, rfl, rfl, h0, h⟩ := h
 replace h := AtsF_cons.1 h
 obtain ⟨c1, d1, u1, rr1, F1, E1, rfl, rfl, rfl, h1, h⟩ := h
 replace h := AtsF_cons.1 h
 obtain ⟨c2, d2, u2, rr2, F2, E2, rfl, rfl, rfl, h2, h⟩ := h
 replace h := AtsF_cons.1 h
 obtain ⟨c3, d3, u3, rr3, F3, E3, rfl, rfl, rfl, h3, h⟩ := h
 replace h := AtsF_cons.1 h
 obtain ⟨c4, d4, u4, rr4, F4, E4, rfl, rfl, rfl, h4, h⟩ := h
 replace h := AtsF_cons.1 h
 obtain ⟨c5, d5, u5, rr5, F5, E5, rfl, rfl, rfl, h5, h⟩ := h
 replace h := AtsF_nil.1 h
 obtain ⟨rfl, rfl, rfl⟩ := h
 have k0 := h0
 replace h0 := AtF_slice.1 h0
 obtain ⟨v0, l0, rfl, rfl, w0, hv0⟩ := h0
 have o0 := (At_slice.1 (AtF.at _ k0))
 obtain ⟨_, _, x1, x2, _, o0⟩ := o0
 cases x1
 cases x2
 have o0 := o0.one
 have k1 := h1
 replace h1 := AtF_slice.1 h1
 obtain ⟨v1, l1, rfl, rfl, w1, hv1⟩ := h1
 have o1 := (At_slice.1 (AtF.at _ k1))
 obtain ⟨_, _, x1, x2, _, o1⟩ := o1
 cases x1
 cases x2
 have o1 := o1.one
 have k2 := h2
 replace h2 := AtF_slice.1 h2
 obtain ⟨v2, l2, rfl, rfl, w2, hv2⟩ := h2
 have o2 := (At_slice.1 (AtF.at _ k2))
 obtain ⟨_, _, x1, x2, _, o2⟩ := o2
 cases x1
 cases x2
 have o2 := o2.one
 have k3 := h3
 replace h3 := AtF_slice.1 h3
 obtain ⟨v3, l3, rfl, rfl, w3, hv3⟩ := h3
 have o3 := (At_slice.1 (AtF.at _ k3))
 obtain ⟨_, _, x1, x2, _, o3⟩ := o3
 cases x1
 cases x2
 have o3 := o3.one
 have k4 := h4
 replace h4 := AtF_slice.1 h4
 obtain ⟨v4, l4, rfl, rfl, w4, hv4⟩ := h4
 have o4 := (At_slice.1 (AtF.at _ k4))
 obtain ⟨_, _, x1, x2, _, o4⟩ := o4
 cases x1
 cases x2
 have o4 := o4.one
 replace h5 := AtF_bool.1 h5
 obtain ⟨⟨b5, rfl, rfl⟩, rfl⟩ := h5
 simp only [cntV_st, cntVs_cons, cntVs_nil, cntV_str, cntV_int, cntV_bool, Nat.zero_add] at hk
 simp only [List.nil_append, List.append_nil] at hn
 have hn0 := hn
 obtain ⟨nd0, hn0, dj0⟩ := List.nodup_append.1 hn0
 obtain ⟨nd1, hn0, dj1⟩ := List.nodup_append.1 hn0
 obtain ⟨nd2, hn0, dj2⟩ := List.nodup_append.1 hn0
 obtain ⟨nd3, hn0, dj3⟩ := List.nodup_append.1 hn0
 have nd4 := hn0
 obtain ⟨H0, q0, len0, fr0, k0'⟩ := sO H _ _ _ (k) k0 nd0 (by first | omega | (simp only [cntV_st, cntVs_cons, cntVs_nil, cntV_str, cntV_int, cntV_bool] at *; omega))
 simp only [valC, List.headD_cons, List.append_nil, List.cons_append, List.nil_append, Int.natCast_add] at q0
 have k1 := AtF.frame _ (H' := H0) (fun q hq2 => fr0 q (fun hq1 => dj0 q hq1 q (List.mem_append_left _ hq2) rfl)) k1
 have k2 := AtF.frame _ (H' := H0) (fun q hq2 => fr0 q (fun hq1 => dj0 q hq1 q (List.mem_append_right _ (List.mem_append_left _ hq2)) rfl)) k2
 have k3 := AtF.frame _ (H' := H0) (fun q hq2 => fr0 q (fun hq1 => dj0 q hq1 q (List.mem_append_right _ (List.mem_append_right _ (List.mem_append_left _ hq2))) rfl)) k3
 have k4 := AtF.frame _ (H' := H0) (fun q hq2 => fr0 q (fun hq1 => dj0 q hq1 q (List.mem_append_right _ (List.mem_append_right _ (List.mem_append_right _ hq2))) rfl)) k4
 obtain ⟨H1, q1, len1, fr1, k1'⟩ := xy H0 _ _ _ (k + cntV (.lst l0)) k1 nd1 (by first | omega | (simp only [cntV_st, cntVs_cons, cntVs_nil, cntV_str, cntV_int, cntV_bool] at *; omega))
 simp only [valC, List.headD_cons, List.append_nil, List.cons_append, List.nil_append, Int.natCast_add] at q1
 have k0' := AtF.frame _ (H' := H1) (fun q hq2 => fr1 q (fun hq1 => dj0 q hq2 q (List.mem_append_left _ hq1) rfl)) k0'
 have k2 := AtF.frame _ (H' := H1) (fun q hq2 => fr1 q (fun hq1 => dj1 q hq1 q (List.mem_append_left _ hq2) rfl)) k2
 have k3 := AtF.frame _ (H' := H1) (fun q hq2 => fr1 q (fun hq1 => dj1 q hq1 q (List.mem_append_right _ (List.mem_append_left _ hq2)) rfl)) k3
 have k4 := AtF.frame _ (H' := H1) (fun q hq2 => fr1 q (fun hq1 => dj1 q hq1 q (List.mem_append_right _ (List.mem_append_right _ hq2)) rfl)) k4
 obtain ⟨H2, q2, len2, fr2, k2'⟩ := lh H1 _ _ _ (k + cntV (.lst l0) + cntV (.lst l1)) k2 nd2 (by first | omega | (simp only [cntV_st, cntVs_cons, cntVs_nil, cntV_str, cntV_int, cntV_bool] at *; omega))
 simp only [valC, List.headD_cons, List.append_nil, List.cons_append, List.nil_append, Int.natCast_add] at q2
 have k0' := AtF.frame _ (H' := H2) (fun q hq2 => fr2 q (fun hq1 => dj0 q hq2 q (List.mem_append_right _ (List.mem_append_left _ hq1)) rfl)) k0'
 have k1' := AtF.frame _ (H' := H2) (fun q hq2 => fr2 q (fun hq1 => dj1 q hq2 q (List.mem_append_left _ hq1) rfl)) k1'
 have k3 := AtF.frame _ (H' := H2) (fun q hq2 => fr2 q (fun hq1 => dj2 q hq1 q (List.mem_append_left _ hq2) rfl)) k3
 have k4 := AtF.frame _ (H' := H2) (fun q hq2 => fr2 q (fun hq1 => dj2 q hq1 q (List.mem_append_right _ hq2) rfl)) k4
 obtain ⟨H3, q3, len3, fr3, k3'⟩ := lh H2 _ _ _ (k + cntV (.lst l0) + cntV (.lst l1) + cntV (.lst l2)) k3 nd3 (by first | omega | (simp only [cntV_st, cntVs_cons, cntVs_nil, cntV_str, cntV_int, cntV_bool] at *; omega))
 simp only [valC, List.headD_cons, List.append_nil, List.cons_append, List.nil_append, Int.natCast_add] at q3
 have k0' := AtF.frame _ (H' := H3) (fun q hq2 => fr3 q (fun hq1 => dj0 q hq2 q (List.mem_append_right _ (List.mem_append_right _ (List.mem_append_left _ hq1))) rfl)) k0'
 have k1' := AtF.frame _ (H' := H3) (fun q hq2 => fr3 q (fun hq1 => dj1 q hq2 q (List.mem_append_right _ (List.mem_append_left _ hq1)) rfl)) k1'
 have k2' := AtF.frame _ (H' := H3) (fun q hq2 => fr3 q (fun hq1 => dj2 q hq2 q (List.mem_append_left _ hq1) rfl)) k2'
 have k4 := AtF.frame _ (H' := H3) (fun q hq2 => fr3 q (fun hq1 => dj3 q hq1 q hq2 rfl)) k4
 obtain ⟨H4, q4, len4, fr4, k4'⟩ := lh H3 _ _ _ (k + cntV (.lst l0) + cntV (.lst l1) + cntV (.lst l2) + cntV (.lst l3)) k4 nd4 (by first | omega | (simp only [cntV_st, cntVs_cons, cntVs_nil, cntV_str, cntV_int, cntV_bool] at *; omega))
 simp only [valC, List.headD_cons, List.append_nil, List.cons_append, List.nil_append, Int.natCast_add] at q4
 have k0' := AtF.frame _ (H' := H4) (fun q hq2 => fr4 q (fun hq1 => dj0 q hq2 q (List.mem_append_right _ (List.mem_append_right _ (List.mem_append_right _ hq1))) rfl)) k0'
 have k1' := AtF.frame _ (H' := H4) (fun q hq2 => fr4 q (fun hq1 => dj1 q hq2 q (List.mem_append_right _ (List.mem_append_right _ hq1)) rfl)) k1'
 have k2' := AtF.frame _ (H' := H4) (fun q hq2 => fr4 q (fun hq1 => dj2 q hq2 q (List.mem_append_right _ hq1) rfl)) k2'
 have k3' := AtF.frame _ (H' := H4) (fun q hq2 => fr4 q (fun hq1 => dj3 q hq2 q hq1 rfl)) k3'
 have hK : k + cntV (U.st [(.lst l0), (.lst l1), (.lst l2), (.lst l3), (.lst l4), (.bool b5)]) = k + cntV (.lst l0) + cntV (.lst l1) + cntV (.lst l2) + cntV (.lst l3) + cntV (.lst l4) := by simp only [cntV_st, cntVs_cons, cntVs_nil, cntV_str, cntV_int, cntV_bool, Nat.zero_add]; omega
 have hA : AtF H4 shFlow _ _ _ := AtF_st.2 ⟨_, rfl, AtsF_cons.2 ⟨[_], _, _, _, F0, _, rfl, rfl, rfl, k0', AtsF_cons.2 ⟨[_], _, _, _, F1, _, rfl, rfl, rfl, k1', AtsF_cons.2 ⟨[_], _, _, _, F2, _, rfl, rfl, rfl, k2', AtsF_cons.2 ⟨[_], _, _, _, F3, _, rfl, rfl, rfl, k3', AtsF_cons.2 ⟨[_], _, _, _, F4, _, rfl, rfl, rfl, k4', AtsF_cons.2 ⟨[_], _, _, _, [], _, rfl, rfl, rfl, AtF_bool.2 ⟨⟨b5, rfl, rfl⟩, rfl⟩, AtsF_nil.2 ⟨rfl, rfl, rfl⟩⟩⟩⟩⟩⟩⟩⟩
 simp only [List.append_nil, List.nil_append, List.cons_append] at hA
 have hl : H4.length = H.length := by rw [len4, len3, len2, len1, len0]
 have hfr : ∀ q, q ∉ F0 ++ (F1 ++ (F2 ++ (F3 ++ (F4)))) → H4[q]? = H[q]? := by
  intro q hq
  try simp only [List.mem_append, not_or] at hq
  rw [fr4 q hq.2.2.2.2, fr3 q hq.2.2.2.1, fr2 q hq.2.2.1, fr1 q hq.2.1, fr0 q hq.1]
 apply Ret.mark
 rw [Qs, hK]
 simp [yh, Tryz.f22, valC, bC hl, q0, q1, q2, q3, q4, o0, o1, o2, o3, o4]
 exact ⟨hl, by simpa using hfr, hA⟩
end Go.Proofs.Try1
end
section
namespace Go.Lite
open Go
def Le (G G' : List Ob) : Prop := ∃ S, G' = G ++ S
def Up (G G' : List Ob) : Prop := ∀ (q : Nat) o, G[q]? = some o → G'[q]? = some o
section
variable {A B D G G' : List Ob} {sh : Sh} {cs : List V} {u : U} {F : List Nat} {b e : Nat}
theorem Le.refl : Le A A := ⟨[], by simp⟩
theorem Le.app {T : List Ob} : Le A (A ++ T) := ⟨T, rfl⟩
theorem Le.trans (h : Le A B) (k : Le B D) : Le A D := by
 obtain ⟨S, rfl⟩ := h
 obtain ⟨T, rfl⟩ := k
 exact ⟨S ++ T, by rw [List.append_assoc]⟩
theorem Le.len (h : Le A B) : A.length ≤ B.length := by obtain ⟨S, rfl⟩ := h; simp
theorem Le.up (h : Le A B) : Up A B := by obtain ⟨S, rfl⟩ := h; exact up_append
theorem Up.refl : Up A A := fun _ _ h => h
theorem Up.trans (h : Up A B) (k : Up B D) : Up A D := fun q o hq => k q o (h q o hq)
theorem At.Up (h : At A sh cs u) (k : Up A B) : At B sh cs u := At.up k sh h
theorem At.Le (h : At A sh cs u) (k : Le A B) : At B sh cs u := At.up k.up sh h
theorem New.Le (h : New b e A sh cs u) (k : Le A B) : New b e B sh cs u := by obtain ⟨S, rfl⟩ := k; exact h.ext
theorem Up.frame (h : ∀ q, q < A.length → B[q]? = A[q]?) : Up A B := fun q o hq => by
 rw [h q (List.getElem?_eq_some_iff.1 hq).1]; exact hq
theorem isOne_cells {v : V} (h : isOne v = true) : cellsOf v = some [v] := by cases v <;> first | rfl | simp [isOne] at h
theorem ones_all (h : At A sh cs u) : ∀ x ∈ cs, isOne x = true ∧ cellsOf x = some [x] := fun x hx => by
 have := List.all_eq_true.1 (At.ones _ h) x hx
 exact ⟨this, isOne_cells this⟩
theorem list1 {α : Type} {l : List α} (h : l.length = 1) : ∃ a, l = [a] := by
 match l, h with
 | [a], _ => exact ⟨a, rfl⟩
theorem list2 {α : Type} {l : List α} (h : l.length = 2) : ∃ a b, l = [a, b] := by
 match l, h with
 | [a, b], _ => exact ⟨a, b, rfl⟩
theorem list6 {α : Type} {l : List α} (h : l.length = 6) : ∃ a b c d e f, l = [a, b, c, d, e, f] := by
 match l, h with
 | [a, b, c, d, e, f], _ => exact ⟨a, b, c, d, e, f, rfl⟩
end
mutual
def Sh.fan : Sh → Nat
 | .slice e => e.fan
 | .st fs => Sh.fans fs
 | _ => 1
def Sh.fans : List Sh → Nat
 | [] => 0
 | f :: fs => f.fan + Sh.fans fs
end
theorem cntPs_sum {f : Nat} {l : List U} (h : ∀ u ∈ l, cntP u ≤ f * (1 + wt u)) : cntPs l ≤ f * (l.length + wts l) := by
 induction l with
 | nil => simp [cntPs]
 | cons u us ih =>
  have h1 := h u List.mem_cons_self
  have h2 := ih fun w hw => h w (List.mem_cons_of_mem _ hw)
  have e : f * ((u :: us).length + wts (u :: us)) = f * (1 + wt u) + f * (us.length + wts us) := by
   rw [← Nat.mul_add]
   simp only [List.length_cons, wts]
   congr 1
   omega
  simp only [cntPs]
  omega
theorem Sl.each {H : List Ob} {n : Nat} {R : List V → U → Prop} {v : V} {l : List U} (h : Sl H n R v l) : ∀ u ∈ l, ∃ cs, R cs u := by
 intro u hu
 rcases h with ⟨_, rfl⟩ | ⟨id, off, own, cells, _, _, _, h4⟩
 ·cases hu
 ·obtain ⟨i, hi, rfl⟩ := List.getElem_of_mem hu
  exact ⟨_, h4 i _ (List.getElem?_eq_getElem hi)⟩
mutual
theorem cntP_bound {H : List Ob} : ∀ (sh : Sh) {cs : List V} {u : U}, At H sh cs u → cntP u ≤ sh.fan * (1 + wt u)
 | .int k, _, _, h => by obtain ⟨n, _, rfl, _⟩ := At_int.1 h; simp [cntP, Sh.fan, wt]
 | .bool, _, _, h => by obtain ⟨n, _, rfl⟩ := At_bool.1 h; simp [cntP, Sh.fan, wt]
 | .str, _, _, h => by obtain ⟨n, _, rfl, _⟩ := At_str.1 h; simp only [cntP, Sh.fan, wt]; omega
 | .slice e, _, _, h => by
  obtain ⟨v, l, _, rfl, _, h4⟩ := At_slice.1 h
  have := cntPs_sum (f := e.fan) (l := l) fun u hu => by
   obtain ⟨cs, hc⟩ := h4.each u hu
   exact cntP_bound e hc
  simp only [cntP, Sh.fan, wt]
  refine Nat.le_trans this (Nat.mul_le_mul_left _ (by omega))
 | .st fs, _, _, h => by
  obtain ⟨us, rfl, h2⟩ := At_st.1 h
  have := cntPs_bound fs h2
  simp only [cntP, Sh.fan, wt]
  exact this
theorem cntPs_bound {H : List Ob} : ∀ (fs : List Sh) {cs : List V} {us : List U}, Ats H fs cs us → cntPs us ≤ Sh.fans fs * (1 + wts us)
 | [], _, _, h => by obtain ⟨_, rfl⟩ := Ats_nil.1 h; simp [cntPs]
 | f :: fs, _, _, h => by
  obtain ⟨c1, c2, u, us', _, rfl, h3, h4⟩ := Ats_cons.1 h
  have h5 := cntP_bound f h3
  have h6 := cntPs_bound fs h4
  simp only [cntPs, Sh.fans, wts]
  have e1 : f.fan * (1 + wt u) ≤ f.fan * (1 + (wt u + wts us')) := Nat.mul_le_mul_left _ (by omega)
  have e2 : Sh.fans fs * (1 + wts us') ≤ Sh.fans fs * (1 + (wt u + wts us')) := Nat.mul_le_mul_left _ (by omega)
  rw [Nat.add_mul]
  omega
end
mutual
theorem cntV_le : ∀ (u : U), cntV u ≤ cntP u
 | .int _ => by simp [cntV]
 | .bool _ => by simp [cntV]
 | .str _ => by simp [cntV]
 | .lst l => by rw [cntPV]; exact Nat.le_refl _
 | .st us => by simp only [cntV, cntP]; exact cntVs_le us
theorem cntVs_le : ∀ (us : List U), cntVs us ≤ cntPs us
 | [] => by simp [cntVs]
 | u :: us => by simp only [cntVs, cntPs]; have h1 := cntV_le u; have h2 := cntVs_le us; omega
end
theorem cntV_bound {H : List Ob} {sh : Sh} {cs : List V} {u : U} (h : At H sh cs u) (n : Nat) (hn : sh.fan ≤ n) : cntV u ≤ n * (1 + wt u) :=
 Nat.le_trans (Nat.le_trans (cntV_le u) (cntP_bound sh h)) (Nat.mul_le_mul_right _ hn)
end Go.Lite
end
section
namespace Go.Proofs.Try1
open Go Go.Lite
section
variable {f k b e : Nat} {sh : Sh} {H : List Ob} {cs ds : List V} {u : U}
theorem toN (hf : fF f sh) (h : At H sh cs u) (hw : wt u ≤ 1048576) : ∃ G cs', callW C f [valC sh cs] H = some (valC sh cs', G) ∧ Le H G ∧ New H.length G.length G sh cs' u := by
 obtain ⟨S, cs', F, c1, a1, n1, g1⟩ := hf H cs u h hw
 exact ⟨_, cs', c1, ⟨S, rfl⟩, F, a1, n1, fun q hq => ⟨g1 q hq, AtF.mem _ a1 q hq⟩⟩
theorem eqN (hf : dL f sh) (h : At H sh cs u) (h' : At H sh ds u) : callW C f [valC sh cs, valC sh ds] H = some (.bool true, H) := by
 obtain ⟨t, ht, c⟩ := hf H cs ds u u h h'
 obtain rfl := ht.2 rfl
 exact c
theorem RG (hf : kM f sh) (h : New b e H sh cs u) (hk : k + cntV u ≤ 50000000) : ∃ G, callW C f [valC sh cs, .int .i64 k] H = some (.int .i64 ((k + cntV u : Nat) : Int), G) ∧ G.length = H.length ∧ (∀ q, q < b ∨ e ≤ q → G[q]? = H[q]?) ∧ New b e G sh cs (mkV u k) := by
 obtain ⟨F, h1, h2, h3⟩ := h
 obtain ⟨G, c, l, fr, a⟩ := hf H cs u F k h1 h2 hk
 exact ⟨G, c, l, fun q hq => fr q fun hm => by have := h3 q hm; omega, F, a, h2, h3⟩
end
theorem wI {α : Type} {f : α → U} {l : List α} {k : Nat} (h : ∀ x ∈ l, cntP (f x) ≤ k) : cntPs (l.map f) ≤ l.length * k := by
 induction l with
 | nil => simp [cntPs]
 | cons x l ih =>
  have h1 := h x List.mem_cons_self
  have h2 := ih fun y hy => h y (List.mem_cons_of_mem _ hy)
  simp only [List.map_cons, cntPs, List.length_cons, Nat.add_mul]
  omega
end Go.Proofs.Try1
end
section
namespace Go.Lite
open Go
def ThenW (Q : Ex → St → Prop) : Option St → Prop
 | some σ => Q .norm σ
 | none => False
theorem ThenW_some {Q : Ex → St → Prop} {σ : St} : ThenW Q (some σ) ↔ Q .norm σ := Iff.rfl
theorem ThenW_none {Q : Ex → St → Prop} : ThenW Q none ↔ False := Iff.rfl
theorem WP_regionF {C : Ctx} {f id : Nat} {ops : Array Oper} {draw : Bool} {σ : St} {Q : Ex → St → Prop} : WP C f (.region id ops draw) σ Q ↔ ThenW Q (regionL C (callW C) f id ops draw σ) := by
 rw [WP_region]
 cases regionL C (callW C) f id ops draw σ with
 | none => simp [ThenW]
 | some σ1 => exact ⟨fun ⟨_, h, hq⟩ => by cases h; exact hq, fun h => ⟨σ1, rfl, h⟩⟩
def CondW (C : Ctx) (f : Nat) (a b : Code) (σ : St) (Q : Ex → St → Prop) (o : Option V) : Prop := ∃ t, o = some (.bool t) ∧ if t = true then WP C f a σ Q else WP C f b σ Q
theorem WP_condF {C : Ctx} {f : Nat} {c : Operand} {a b : Code} {σ : St} {Q : Ex → St → Prop} : WP C f (.cond c a b) σ Q ↔ CondW C f a b σ Q (ev σ c) := WP_cond
theorem CondW_true {C : Ctx} {f : Nat} {a b : Code} {σ : St} {Q : Ex → St → Prop} : CondW C f a b σ Q (some (.bool true)) ↔ WP C f a σ Q := by simp [CondW]
theorem CondW_false {C : Ctx} {f : Nat} {a b : Code} {σ : St} {Q : Ex → St → Prop} : CondW C f a b σ Q (some (.bool false)) ↔ WP C f b σ Q := by simp [CondW]
theorem CondW_bool {C : Ctx} {f : Nat} {a b : Code} {σ : St} {Q : Ex → St → Prop} {t : Bool} : CondW C f a b σ Q (some (.bool t)) ↔ if t = true then WP C f a σ Q else WP C f b σ Q := by simp [CondW]
section
variable {σ : St} {C : Ctx}
end
end Go.Lite
end
section
namespace Go.Proofs.Try1
open Go Go.Lite
theorem wz : kM 77 (.slice shEntry) := by
 intro H cs u F k h hn hk
 obtain ⟨v, l, rfl, rfl, hlen, hv⟩ := AtF_slice.1 h
 have hv := (AtF_slice.2 ⟨v, l, rfl, rfl, hlen, hv⟩).at
 obtain ⟨_, _, hx1, hx2, _, hv⟩ := At_slice.1 hv
 cases hx1; cases hx2
 apply Ret.mark
 rw [RH]
 simp only [cntV] at hk
 have hl64 : l.length ≤ 9223372036854775807 := hlen
 simp [zB, Tryz.f77, valC, -setRange]
 refine WP_loop (fun m σ => ∃ (i : Nat) (r : Nat → R) (G : List Ob), i + m = l.length ∧ σ = ⟨r, 0, G⟩ ∧ r 0 = .val v ∧ r 1 = .val (.int .i64 ((k + cntPs (l.take i) : Nat) : Int)) ∧ r 5 = .val (.int .i64 i) ∧ G.length = H.length ∧ (∀ q, q ∉ F → G[q]? = H[q]?) ∧ AtF G (.slice shEntry) [v] (.lst (mkPs (l.take i) k ++ l.drop i)) F) ?_ l.length _ ⟨0, _, H, by simp, rfl, by simp, by simp [cntPs], by simp, rfl, fun _ _ => rfl, by simpa [mkPs] using h⟩
 rintro m σ ⟨i, r, G, him, rfl, r0, r1, r5, g1, g2, g3⟩
 cases m with
 | zero =>
  have hi : i = l.length := by omega
  subst hi
  simp at g3
  simp [r0, r1, r5, hv.len, bC g1, cntV, mkV]
  exact ⟨g1, g2, g3⟩
 | succ m =>
  have hi : i < l.length := by omega
  obtain ⟨x, hx⟩ : ∃ x, l[i]? = some x := ⟨l[i], by simp [hi]⟩
  have hx0 : (mkPs (l.take i) k ++ l.drop i)[i]? = some x := by rw [mk_get hi, hx]
  have hmk := mk_set (k := k) hx
  have hcnt := cntPs_take hx
  have hle := cntPs_take_le (l := l) (i := i + 1)
  have hL : (mkPs (l.take i) k ++ l.drop i).length = l.length := by simp [mkPs_len]; omega
  obtain ⟨L, hLd⟩ : ∃ L, L = mkPs (l.take i) k ++ l.drop i := ⟨_, rfl⟩
  rw [← hLd] at hx0 hmk hL g3
  clear hLd
  obtain ⟨id, off, cells, K, e0, e1, e2, e3, e4, e5, e6, e7, e8⟩ := AtF.elem g3 hn hx0
  clear e1 e2 e4 e5 e7 e8
  rw [hL] at e0
  subst e0
  generalize List.take (shEntry).size (List.drop (off + i * (shEntry).size) cells) = cc at e3
  replace e3 := AtF_st.1 e3
  obtain ⟨us, rfl, e3⟩ := e3
  replace e3 := AtsF_cons.1 e3
  obtain ⟨c0, d0, u0, rr0, F0, E0, rfl, rfl, rfl, h0, e3⟩ := e3
  replace e3 := AtsF_cons.1 e3
  obtain ⟨c1, d1, u1, rr1, F1, E1, rfl, rfl, rfl, h1, e3⟩ := e3
  replace e3 := AtsF_nil.1 e3
  obtain ⟨rfl, rfl, rfl⟩ := e3
  have k0 := h0
  replace h0 := AtF_slice.1 h0
  obtain ⟨v0, l0, rfl, rfl, w0, hv0⟩ := h0
  have o0 := (At_slice.1 (AtF.at _ k0))
  obtain ⟨_, _, x1, x2, _, o0⟩ := o0
  cases x1
  cases x2
  have o0 := o0.one
  have k1 := h1
  replace h1 := AtF_slice.1 h1
  obtain ⟨v1, l1, rfl, rfl, w1, hv1⟩ := h1
  have o1 := (At_slice.1 (AtF.at _ k1))
  obtain ⟨_, _, x1, x2, _, o1⟩ := o1
  cases x1
  cases x2
  have o1 := o1.one
  simp only [cntP, cntPs_cons, cntPs_nil, Nat.add_zero] at hcnt
  obtain ⟨kk, hkk⟩ : ∃ kk, kk = k + cntPs (l.take i) := ⟨_, rfl⟩
  rw [← hkk] at r1
  obtain ⟨id0, off0, cells0, w0, K0, ev0, eg0, ei0, ek0, ew0, ea0, en0, es0, er0, et0⟩ := AtF.field [] g3 hn (i := i) (us1 := []) (u := (.lst l0)) (us2 := [(.lst l1)]) hx0 rfl rfl
  simp only [V.slc.injEq, Option.some.injEq, Prod.mk.injEq] at ev0
  obtain ⟨⟨rfl, rfl⟩, _⟩ := ev0
  simp only [shEntry, Sh.size_st, Sh.sizes_cons, Sh.sizes_nil, Sh.size_str, Sh.size_slice, Sh.size_int, Sh.size_bool, List.cons_append, List.nil_append, Nat.reduceAdd, Nat.add_zero] at eg0 ew0 et0 er0
  obtain ⟨G0, q0, ln0, fr0, ma0⟩ := sO G [w0] _ K0 kk ea0 en0 (by simp only [cntPV, cntP]; omega)
  simp only [valC, List.headD_cons] at q0
  have ld0 := load1 eg0 ew0
  have A0 := er0 G0 (.lst (mkPs l0 kk)) (fun q _ hq => fr0 q hq) ma0
  have ln0 : G0.length = H.length := by rw [ln0]; first | exact g1 | exact ln-1
  have fr0 : ∀ q, q ∉ F → G0[q]? = H[q]? := fun q hq => by rw [fr0 q fun h => hq (es0 q h)]; first | exact g2 q hq | exact fr0 q hq
  obtain ⟨kk0, hkk0⟩ : ∃ n, n = kk + cntP (.lst l0) := ⟨_, rfl⟩
  rw [cntPV, ← hkk0] at q0
  simp only [cntP] at hkk0
  have hx0_ : (L.set i (.st [(.lst (mkPs l0 kk)), (.lst l1)]))[i]? = some (.st [(.lst (mkPs l0 kk)), (.lst l1)]) := List.getElem?_set_self (by omega)
  obtain ⟨id1, off1, cells1, w1, K1, ev1, eg1, ei1, ek1, ew1, ea1, en1, es1, er1, et1⟩ := AtF.field [(.slice shRdn)] A0 hn (i := i) (us1 := [(.lst (mkPs l0 kk))]) (u := (.lst l1)) (us2 := []) hx0_ rfl rfl
  simp only [V.slc.injEq, Option.some.injEq, Prod.mk.injEq] at ev1
  obtain ⟨⟨rfl, rfl⟩, _⟩ := ev1
  simp only [shEntry, Sh.size_st, Sh.sizes_cons, Sh.sizes_nil, Sh.size_str, Sh.size_slice, Sh.size_int, Sh.size_bool, List.cons_append, List.nil_append, Nat.reduceAdd, Nat.add_zero] at eg1 ew1 et1 er1
  obtain ⟨G1, q1, ln1, fr1, ma1⟩ := yU G0 [w1] _ K1 kk0 ea1 en1 (by simp only [cntPV, cntP]; omega)
  simp only [valC, List.headD_cons] at q1
  have ld1 := load1 eg1 ew1
  have A1 := er1 G1 (.lst (mkPs l1 kk0)) (fun q _ hq => fr1 q hq) ma1
  have ln1 : G1.length = H.length := by rw [ln1]; first | exact g1 | exact ln0
  have fr1 : ∀ q, q ∉ F → G1[q]? = H[q]? := fun q hq => by rw [fr1 q fun h => hq (es1 q h)]; first | exact g2 q hq | exact fr0 q hq
  obtain ⟨kk1, hkk1⟩ : ∃ n, n = kk0 + cntP (.lst l1) := ⟨_, rfl⟩
  rw [cntPV, ← hkk1] at q1
  simp only [cntP] at hkk1
  rw [List.set_set] at A1
  have hx1_ : (L.set i (.st [(.lst (mkPs l0 kk)), (.lst (mkPs l1 kk0))]))[i]? = some (.st [(.lst (mkPs l0 kk)), (.lst (mkPs l1 kk0))]) := List.getElem?_set_self (by omega)
  have hks : k + cntPs (l.take (i + 1)) = kk1 := by omega
  rw [show L.set i (.st [(.lst (mkPs l0 kk)), (.lst (mkPs l1 kk0))]) = _ from (by simp only [hkk0, hkk1, hkk]; exact hmk)] at A1
  have hw : IntKind.i64.wrap ((i : Int) + 1) = ((i : Int) + 1) := wrap_i64 (by omega) (by omega)
  have hix : i + 1 ≤ l.length := hi
  simp [r0, r1, r5, hi, hw, q0, ld0, q1, ld1, -setRange]
  exact ⟨m, by omega, i + 1, by omega, _, _, ⟨rfl, rfl⟩, by simp [r0], by simp; omega, by simp, ln1, fr1, A1⟩
theorem BU : kM 23 shTree := by
 intro H cs u F k h hn hk
 replace h := AtF_st.1 h
 obtain ⟨us, rfl, h⟩ := h
 replace h := AtsF_cons.1 h
 obtain ⟨c0, d0, u0, rr0, F0, E0, rfl, rfl, rfl, h0, h⟩ := h
 replace h := AtsF_cons.1 h
 obtain ⟨c1, d1, u1, rr1, F1, E1, rfl, rfl, rfl, h1, h⟩ := h
 replace h := AtsF_nil.1 h
 obtain ⟨rfl, rfl, rfl⟩ := h
 have k0 := h0
 replace h0 := AtF_slice.1 h0
 obtain ⟨v0, l0, rfl, rfl, w0, hv0⟩ := h0
 have o0 := (At_slice.1 (AtF.at _ k0))
 obtain ⟨_, _, x1, x2, _, o0⟩ := o0
 cases x1
 cases x2
 have o0 := o0.one
 have k1 := h1
 replace h1 := AtF_slice.1 h1
 obtain ⟨v1, l1, rfl, rfl, w1, hv1⟩ := h1
 have o1 := (At_slice.1 (AtF.at _ k1))
 obtain ⟨_, _, x1, x2, _, o1⟩ := o1
 cases x1
 cases x2
 have o1 := o1.one
 simp only [cntV_st, cntVs_cons, cntVs_nil, cntV_str, cntV_int, cntV_bool, Nat.zero_add] at hk
 simp only [List.nil_append, List.append_nil] at hn
 have hn0 := hn
 obtain ⟨nd0, hn0, dj0⟩ := List.nodup_append.1 hn0
 have nd1 := hn0
 obtain ⟨H0, q0, len0, fr0, k0'⟩ := wJ H _ _ _ (k) k0 nd0 (by first | omega | (simp only [cntV_st, cntVs_cons, cntVs_nil, cntV_str, cntV_int, cntV_bool] at *; omega))
 simp only [valC, List.headD_cons, List.append_nil, List.cons_append, List.nil_append, Int.natCast_add] at q0
 have k1 := AtF.frame _ (H' := H0) (fun q hq2 => fr0 q (fun hq1 => dj0 q hq1 q hq2 rfl)) k1
 obtain ⟨H1, q1, len1, fr1, k1'⟩ := wz H0 _ _ _ (k + cntV (.lst l0)) k1 nd1 (by first | omega | (simp only [cntV_st, cntVs_cons, cntVs_nil, cntV_str, cntV_int, cntV_bool] at *; omega))
 simp only [valC, List.headD_cons, List.append_nil, List.cons_append, List.nil_append, Int.natCast_add] at q1
 have k0' := AtF.frame _ (H' := H1) (fun q hq2 => fr1 q (fun hq1 => dj0 q hq2 q hq1 rfl)) k0'
 have hK : k + cntV (U.st [(.lst l0), (.lst l1)]) = k + cntV (.lst l0) + cntV (.lst l1) := by simp only [cntV_st, cntVs_cons, cntVs_nil, cntV_str, cntV_int, cntV_bool, Nat.zero_add]; omega
 have hA : AtF H1 shTree _ _ _ := AtF_st.2 ⟨_, rfl, AtsF_cons.2 ⟨[_], _, _, _, F0, _, rfl, rfl, rfl, k0', AtsF_cons.2 ⟨[_], _, _, _, F1, _, rfl, rfl, rfl, k1', AtsF_nil.2 ⟨rfl, rfl, rfl⟩⟩⟩⟩
 simp only [List.append_nil, List.nil_append, List.cons_append] at hA
 have hl : H1.length = H.length := by rw [len1, len0]
 have hfr : ∀ q, q ∉ F0 ++ (F1) → H1[q]? = H[q]? := by
  intro q hq
  try simp only [List.mem_append, not_or] at hq
  rw [fr1 q hq.2, fr0 q hq.1]
 apply Ret.mark
 rw [QB, hK]
 simp [xk, Tryz.f23, valC, bC hl, q0, q1, o0, o1]
 exact ⟨hl, by simpa using hfr, hA⟩
end Go.Proofs.Try1
end
section
namespace Go.Lite
open Go
def oddC (c : UInt8) : Bool := c == 44 || c == 43 || c == 34 || c == 92 || c == 60 || c == 62 || c == 59 || c == 61
def oddAt (t : Str) (i : Nat) (c : UInt8) : Bool := oddC c || (c == 35 && i == 0) || (c == 32 && (i == 0 || i + 1 == t.length))
def escB (t : Str) (i : Nat) : Str := match t[i]? with
 | some c => if oddAt t i c = true then [92, c] else [c]
 | none => []
def escN (t : Str) : Nat → Str
 | 0 => []
 | n + 1 => escN t n ++ escB t n
def esc (t : Str) : Str := escN t t.length
def txtB (dn : List PRdn) (i : Nat) : Str := match dn[i]? with
 | some r => (if 0 < i then [44] else []) ++ r.attr ++ [61] ++ esc r.value
 | none => []
def txtN (dn : List PRdn) : Nat → Str
 | 0 => []
 | n + 1 => txtN dn n ++ txtB dn n
def txt (dn : List PRdn) : Str := txtN dn dn.length
theorem escB_len (t : Str) (i : Nat) : (escB t i).length ≤ 2 := by
 unfold escB
 split
 ·split <;> simp
 ·simp
theorem escN_len (t : Str) : ∀ n, (escN t n).length ≤ 2 * n
 | 0 => by simp [escN]
 | n + 1 => by
  have := escN_len t n
  have := escB_len t n
  simp only [escN, List.length_append]
  omega
theorem esc_len (t : Str) : (esc t).length ≤ 2 * t.length := escN_len t _
theorem txtB_len {dn : List PRdn} (hd : DnOk dn) (i : Nat) : (txtB dn i).length ≤ 102 := by
 unfold txtB
 split
 ·rename_i r hr
  have h1 := (hd.1 i r hr).1.2.1
  have h2 := (hd.1 i r hr).2.2.1
  have h3 := esc_len r.value
  simp only [List.length_append, List.length_cons, List.length_nil]
  split <;> simp <;> omega
 ·simp
theorem txtN_len {dn : List PRdn} (hd : DnOk dn) : ∀ n, (txtN dn n).length ≤ 102 * n
 | 0 => by simp [txtN]
 | n + 1 => by
  have := txtN_len hd n
  have := txtB_len hd n
  simp only [txtN, List.length_append]
  omega
theorem txt_len {dn : List PRdn} (hd : DnOk dn) : (txt dn).length ≤ 612 := by
 have := txtN_len hd dn.length
 have := hd.2
 unfold txt
 omega
theorem indexByte_nn : ∀ (l : List UInt8) (c : UInt8), 0 ≤ Lib.indexByte l c ↔ c ∈ l
 | [], c => by simp [Lib.indexByte]
 | b :: l, c => by
  unfold Lib.indexByte
  have ih := indexByte_nn l c
  have lo : -1 ≤ Lib.indexByte l c := by
   clear ih
   induction l with
   | nil => simp [Lib.indexByte]
   | cons x l ih => unfold Lib.indexByte; split <;> (try split) <;> omega
  by_cases h : b = c
  ·subst h; simp
  ·have hb : (b == c) = false := by simpa using h
   simp only [hb, Bool.false_eq_true, if_false, List.mem_cons]
   by_cases h1 : Lib.indexByte l c = -1
   ·simp only [h1, beq_self_eq_true, if_true]
    have : ¬ c ∈ l := fun hm => by have := ih.2 hm; omega
    simp [this, Ne.symm h]
   ·have h1' : (Lib.indexByte l c == -1) = false := by simpa using h1
    simp only [h1', Bool.false_eq_true, if_false]
    have : c ∈ l := ih.1 (by omega)
    simp [this]
    omega
inductive Esc : Str → Str → Prop
 | nil : Esc [] []
 | mark (c : UInt8) {w v : Str} : Esc w v → Esc (92 :: c :: w) (c :: v)
 | plain (c : UInt8) {w v : Str} : c ≠ 44 → c ≠ 92 → Esc w v → Esc (c :: w) (c :: v)
def bare : Str → Str
 | [] => []
 | [c] => [c]
 | c :: d :: t => if c = 92 then d :: bare t else c :: bare (d :: t)

section
variable {H : List Ob} {fs gs : List Sh} {cs : List V} {u : U} {us : List U}
end
structure PRule where
 who : Str
 base : List PRdn
 attrs : List Str
 right : Int
 allow : Bool
def PRule.u (r : PRule) : U := .st [.str r.who, .lst (r.base.map PRdn.u), .lst (r.attrs.map strU), .int r.right, .bool r.allow]
structure PChange where
 number : Int
 kind : Int
 dn : Str
 entry : PEntry
def PChange.u (x : PChange) : U := .st [.int x.number, .int x.kind, .str x.dn, x.entry.u]
structure PServer where
 tree : PTree
 acl : List PRule
 next : Int
 list : List PChange
 who : Str
def PServer.u (s : PServer) : U := .st [s.tree.u, .lst (s.acl.map PRule.u), .st [.int s.next, .lst (s.list.map PChange.u)], .str s.who]
structure PRow where
 id : Int
 login : Str
 mail : Str
 phone : Str
 on : Bool
 usn : Int
 gone : Bool
abbrev PRow.cs (r : PRow) : List V := [.int .i64 r.id, .str r.login, .str r.mail, .str r.phone, .bool r.on, .int .i64 r.usn, .bool r.gone]
def PRow.u (r : PRow) : U := .st [.int r.id, .str r.login, .str r.mail, .str r.phone, .bool r.on, .int r.usn, .bool r.gone]
structure PTable where
 next : Int
 usn : Int
 rows : List PRow
def PTable.u (t : PTable) : U := .st [.int t.next, .int t.usn, .lst (t.rows.map PRow.u)]
structure PWorld where
 server : PServer
 table : PTable
 flow : PFlow
 mark : Int
 usn : Int
def PWorld.u (w : PWorld) : U := .st [w.server.u, w.table.u, w.flow.u, .int w.mark, .int w.usn]
section
variable {H : List Ob} {cs : List V} {u : U} {v : V}
end
end Go.Lite
end
section
namespace Go.Proofs.Try1
open Go Go.Lite
theorem Cf : dL 67 shWant := by
 intro H cs ds u w h h'
 replace h := At_st.1 h
 obtain ⟨usa, rfl, h⟩ := h
 replace h := Ats_cons.1 h
 obtain ⟨ca0, da0, ua0, rra0, rfl, rfl, ha0, h⟩ := h
 replace h := Ats_cons.1 h
 obtain ⟨ca1, da1, ua1, rra1, rfl, rfl, ha1, h⟩ := h
 replace h := Ats_cons.1 h
 obtain ⟨ca2, da2, ua2, rra2, rfl, rfl, ha2, h⟩ := h
 replace h := Ats_cons.1 h
 obtain ⟨ca3, da3, ua3, rra3, rfl, rfl, ha3, h⟩ := h
 replace h := Ats_cons.1 h
 obtain ⟨ca4, da4, ua4, rra4, rfl, rfl, ha4, h⟩ := h
 replace h := Ats_nil.1 h
 obtain ⟨rfl, rfl⟩ := h
 replace ha0 := At_str.1 ha0
 obtain ⟨sa0, rfl, rfl, wa0⟩ := ha0
 replace ha1 := At_str.1 ha1
 obtain ⟨sa1, rfl, rfl, wa1⟩ := ha1
 replace ha2 := At_str.1 ha2
 obtain ⟨sa2, rfl, rfl, wa2⟩ := ha2
 replace ha3 := At_str.1 ha3
 obtain ⟨sa3, rfl, rfl, wa3⟩ := ha3
 replace ha4 := At_int.1 ha4
 obtain ⟨na4, rfl, rfl, wa4⟩ := ha4
 replace h' := At_st.1 h'
 obtain ⟨usb, rfl, h'⟩ := h'
 replace h' := Ats_cons.1 h'
 obtain ⟨cb0, db0, ub0, rrb0, rfl, rfl, hb0, h'⟩ := h'
 replace h' := Ats_cons.1 h'
 obtain ⟨cb1, db1, ub1, rrb1, rfl, rfl, hb1, h'⟩ := h'
 replace h' := Ats_cons.1 h'
 obtain ⟨cb2, db2, ub2, rrb2, rfl, rfl, hb2, h'⟩ := h'
 replace h' := Ats_cons.1 h'
 obtain ⟨cb3, db3, ub3, rrb3, rfl, rfl, hb3, h'⟩ := h'
 replace h' := Ats_cons.1 h'
 obtain ⟨cb4, db4, ub4, rrb4, rfl, rfl, hb4, h'⟩ := h'
 replace h' := Ats_nil.1 h'
 obtain ⟨rfl, rfl⟩ := h'
 replace hb0 := At_str.1 hb0
 obtain ⟨sb0, rfl, rfl, wb0⟩ := hb0
 replace hb1 := At_str.1 hb1
 obtain ⟨sb1, rfl, rfl, wb1⟩ := hb1
 replace hb2 := At_str.1 hb2
 obtain ⟨sb2, rfl, rfl, wb2⟩ := hb2
 replace hb3 := At_str.1 hb3
 obtain ⟨sb3, rfl, rfl, wb3⟩ := hb3
 replace hb4 := At_int.1 hb4
 obtain ⟨nb4, rfl, rfl, wb4⟩ := hb4
 by_cases e0 : sa0 = sb0
 rotate_left
 ·refine ⟨false, by simp [e0], ?_⟩
  apply Ret.eq
  rw [wC]
  simp [iq, Tryz.f67, valC, e0]
 subst e0
 by_cases e1 : sa1 = sb1
 rotate_left
 ·refine ⟨false, by simp [e1], ?_⟩
  apply Ret.eq
  rw [wC]
  simp [iq, Tryz.f67, valC, e1]
 subst e1
 by_cases e2 : sa2 = sb2
 rotate_left
 ·refine ⟨false, by simp [e2], ?_⟩
  apply Ret.eq
  rw [wC]
  simp [iq, Tryz.f67, valC, e2]
 subst e2
 by_cases e3 : sa3 = sb3
 rotate_left
 ·refine ⟨false, by simp [e3], ?_⟩
  apply Ret.eq
  rw [wC]
  simp [iq, Tryz.f67, valC, e3]
 subst e3
 by_cases e4 : na4 = nb4
 rotate_left
 ·refine ⟨false, by simp [e4], ?_⟩
  apply Ret.eq
  rw [wC]
  simp [iq, Tryz.f67, valC, e4]
 subst e4
 refine ⟨true, by simp only [], ?_⟩
 apply Ret.eq
 rw [wC]
 simp [iq, Tryz.f67, valC]
theorem lu : dL 19 (.slice shWant) :=
 kK (f := 19) (g := 67) (tS := 54) (tE := 119) (F := Tryz.f19) (op_ren (c := yl) (by kernel_rfl) Qd) rfl AU Q8 (by rw [xW]; rfl) (by rw [xW]; rfl) (by rw [xW]; decide) Cf


end Go.Proofs.Try1
end
