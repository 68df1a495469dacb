/- Part 10 of the proof of a law: the interpreter, its soundness, and what functions of the program compute over it. Conditions: none but those that each theorem names. -/
import Derived.Test.YtamgeahibepfnaaGreatDoorP09
import Derived.Test.YtamgeahibepfnaaGreatDoorP08
import Derived.Test.YtamgeahibepfnaaGreatDoorP05
import Derived.Test.YtamgeahibepfnaaGreatDoorP07
import Derived.Test.YtamgeahibepfnaaGreatDoorP06

set_option linter.all false
set_option maxRecDepth 20000
set_option maxHeartbeats 40000000
section
namespace Go.Proofs.Try1
open Go Go.Lite
theorem Nh : Gw 41 (.slice shRdn) := by
 intro H cs u F k h hn hk
 obtain ⟨v, l, rfl, rfl, hlen, hv⟩ := aF.1 h
 have hv := (aF.2 ⟨v, l, rfl, rfl, hlen, hv⟩).at
 obtain ⟨_, _, hx1, hx2, _, hv⟩ := aj.1 hv
 cases hx1; cases hx2
 apply Ret.mark
 rw [an2]
 simp only [dF] at hk
 have hl64 : l.length ≤ 9223372036854775807 := hlen
 simp [Lh, Tryz.f41, aG, -setRange]
 refine aA (fun m σ => ∃ (i : Nat) (r : Nat → R) (G : List Ob), i + m = l.length ∧ σ = ⟨r, 0, G⟩ ∧ r 0 = .val v ∧ r 1 = .val (.int .i64 ((k + aT (l.take i) : Nat) : Int)) ∧ r 5 = .val (.int .i64 i) ∧ G.length = H.length ∧ (∀ q, q ∉ F → G[q]? = H[q]?) ∧ AtF G (.slice shRdn) [v] (.lst (bM (l.take i) k ++ l.drop i)) F) ?_ l.length _ ⟨0, _, H, by simp, rfl, by simp, by simp [aT], by simp, rfl, fun _ _ => rfl, by simpa [bM] using h⟩
 rintro m σ ⟨i, r, G, him, rfl, r0, r1, r5, g1, g2, g3⟩
 cases m with
 | zero =>
  have hi : i = l.length := by omega
  subst hi
  simp at g3
  simp [r0, r1, r5, hv.len, nX g1, dF, mkV]
  exact ⟨g1, g2, g3⟩
 | succ m =>
  have hi : i < l.length := by omega
  obtain ⟨x, hx⟩ : ∃ x, l[i]? = some x := ⟨l[i], by simp [hi]⟩
  have hx0 : (bM (l.take i) k ++ l.drop i)[i]? = some x := by rw [xI hi, hx]
  have hmk := xJ (k := k) hx
  have hcnt := fM hx
  have hle := dI (l := l) (i := i + 1)
  have hL : (bM (l.take i) k ++ l.drop i).length = l.length := by simp [dO]; omega
  obtain ⟨L, hLd⟩ : ∃ L, L = bM (l.take i) k ++ l.drop i := ⟨_, rfl⟩
  rw [← hLd] at hx0 hmk hL g3
  clear hLd
  obtain ⟨id, off, cells, K, e0, e1, e2, e3, e4, e5, e6, e7, e8⟩ := AtF.elem g3 hn hx0
  clear e1 e2 e4 e5 e7 e8
  rw [hL] at e0
  subst e0
  generalize List.take (shRdn).size (List.drop (off + i * (shRdn).size) cells) = cc at e3
  replace e3 := eQ.1 e3
  obtain ⟨us, rfl, e3⟩ := e3
  replace e3 := aC.1 e3
  obtain ⟨c0, d0, u0, rr0, F0, E0, rfl, rfl, rfl, h0, e3⟩ := e3
  replace e3 := aC.1 e3
  obtain ⟨c1, d1, u1, rr1, F1, E1, rfl, rfl, rfl, h1, e3⟩ := e3
  replace e3 := dC.1 e3
  obtain ⟨rfl, rfl, rfl⟩ := e3
  replace h0 := dh.1 h0
  obtain ⟨⟨s0, rfl, rfl, w0⟩, rfl⟩ := h0
  replace h1 := dh.1 h1
  obtain ⟨⟨s1, rfl, rfl, w1⟩, rfl⟩ := h1
  simp only [dE, gY, je, Nat.add_zero] at hcnt
  obtain ⟨kk, hkk⟩ : ∃ kk, kk = k + aT (l.take i) := ⟨_, rfl⟩
  rw [← hkk] at r1
  obtain ⟨id0, off0, cells0, w0, K0, ev0, eg0, ei0, ek0, ew0, ea0, en0, es0, er0, et0⟩ := AtF.field [] g3 hn (i := i) (us1 := []) (u := (.str s0)) (us2 := [(.str s1)]) hx0 rfl rfl
  simp only [V.slc.injEq, Option.some.injEq, Prod.mk.injEq] at ev0
  obtain ⟨⟨rfl, rfl⟩, _⟩ := ev0
  simp only [shRdn, Sh.size_st, Sh.sizes_cons, Sh.sizes_nil, Sh.size_str, Sh.size_slice, Sh.size_int, Sh.size_bool, List.cons_append, List.nil_append, Nat.reduceAdd, Nat.add_zero] at eg0 ew0 et0 er0
  obtain ⟨_, rfl⟩ := dh.1 ea0
  have q0 := iO (H := G) (k := kk) (by omega)
  have st0 := store1 (v := (.str (aI kk))) eg0 (List.getElem?_eq_some_iff.1 ew0).1 rfl rfl
  have A0 := et0 (.str (aI kk)) (.str (aI kk)) (dh.2 ⟨⟨_, rfl, rfl, sO (by omega)⟩, rfl⟩)
  obtain ⟨G0, hG0⟩ : ∃ G', G' = G.set id (.mk true 2 (cells0.set (off + i * 2) (.str (aI kk)))) := ⟨_, rfl⟩
  rw [← hG0] at st0 A0
  have ln0 : G0.length = H.length := by rw [hG0, List.length_set]; exact g1
  have fr0 : ∀ q, q ∉ F → G0[q]? = H[q]? := fun q hq => by rw [hG0, List.getElem?_set_ne (by rintro rfl; exact hq e6)]; exact g2 q hq
  clear hG0
  obtain ⟨kk0, hkk0⟩ : ∃ n, n = kk + 1 := ⟨_, rfl⟩
  have hw0 : IntKind.i64.wrap ((kk : Int) + 1) = (kk0 : Int) := by rw [wrap_i64 (by omega) (by omega)]; omega
  have hx0_ : (L.set i (.st [(.str (aI kk)), (.str s1)]))[i]? = some (.st [(.str (aI kk)), (.str s1)]) := List.getElem?_set_self (by omega)
  obtain ⟨id1, off1, cells1, w1, K1, ev1, eg1, ei1, ek1, ew1, ea1, en1, es1, er1, et1⟩ := AtF.field [.str] A0 hn (i := i) (us1 := [(.str (aI kk))]) (u := (.str s1)) (us2 := []) hx0_ rfl rfl
  simp only [V.slc.injEq, Option.some.injEq, Prod.mk.injEq] at ev1
  obtain ⟨⟨rfl, rfl⟩, _⟩ := ev1
  simp only [shRdn, Sh.size_st, Sh.sizes_cons, Sh.sizes_nil, Sh.size_str, Sh.size_slice, Sh.size_int, Sh.size_bool, List.cons_append, List.nil_append, Nat.reduceAdd, Nat.add_zero] at eg1 ew1 et1 er1
  obtain ⟨_, rfl⟩ := dh.1 ea1
  have q1 := iO (H := G0) (k := kk0) (by omega)
  have st1 := store1 (v := (.str (aI kk0))) eg1 (List.getElem?_eq_some_iff.1 ew1).1 rfl rfl
  have A1 := et1 (.str (aI kk0)) (.str (aI kk0)) (dh.2 ⟨⟨_, rfl, rfl, sO (by omega)⟩, rfl⟩)
  obtain ⟨G1, hG1⟩ : ∃ G', G' = G0.set id (.mk true 2 (cells1.set (off + i * 2 + 1) (.str (aI kk0)))) := ⟨_, rfl⟩
  rw [← hG1] at st1 A1
  have ln1 : G1.length = H.length := by rw [hG1, List.length_set]; exact ln0
  have fr1 : ∀ q, q ∉ F → G1[q]? = H[q]? := fun q hq => by rw [hG1, List.getElem?_set_ne (by rintro rfl; exact hq e6)]; exact fr0 q hq
  clear hG1
  obtain ⟨kk1, hkk1⟩ : ∃ n, n = kk0 + 1 := ⟨_, rfl⟩
  have hw1 : IntKind.i64.wrap ((kk0 : Int) + 1) = (kk1 : Int) := by rw [wrap_i64 (by omega) (by omega)]; omega
  rw [List.set_set] at A1
  have hx1_ : (L.set i (.st [(.str (aI kk)), (.str (aI kk0))]))[i]? = some (.st [(.str (aI kk)), (.str (aI kk0))]) := List.getElem?_set_self (by omega)
  have hks : k + aT (l.take (i + 1)) = kk1 := by omega
  rw [show L.set i (.st [(.str (aI kk)), (.str (aI kk0))]) = _ from (by simp only [hkk0, hkk1, hkk]; exact hmk)] at A1
  have hw : IntKind.i64.wrap ((i : Int) + 1) = ((i : Int) + 1) := wrap_i64 (by omega) (by omega)
  have hix : i + 1 ≤ l.length := hi
  simp [r0, r1, r5, hi, hw, q0, st0, hw0, q1, st1, hw1, -setRange]
  exact ⟨m, by omega, i + 1, by omega, _, _, ⟨rfl, rfl⟩, by simp [r0], by simp; omega, by simp, ln1, fr1, A1⟩
theorem O8 : uI 199 (.slice shRdn) := by
 intro H cs u k h hk
 obtain ⟨v, l', rfl, hu, hlen, hv⟩ := aj.1 h
 obtain ⟨l, rfl, rfl⟩ := pU hu
 apply Ret.eq
 rw [adg]
 simp only [dF] at hk ⊢
 have hl64 : (bM l k).length ≤ 9223372036854775807 := hlen
 rw [dO] at hl64
 have hvl := fun {e s b : Nat} {z : List V} => hv.len (e := e) (s := s) (b := b) (z := z)
 simp only [dO] at hvl
 simp [Fz, Tryz.f199, aG]
 refine aA (fun m σ => ∃ (i kk : Nat) (r : Nat → R), i + m = l.length ∧ kk = k + aT (l.take i) ∧ σ = ⟨r, 0, H⟩ ∧ r 0 = .val v ∧ r 1 = .val (.int .i64 kk) ∧ r 5 = .val (.int .i64 i)) ?_ l.length _ ⟨0, k, _, by simp, by simp [aT], rfl, by simp, by simp, by simp⟩
 rintro m σ ⟨i, kk, r, him, hkk, rfl, r0, r1, r5⟩
 cases m with
 | zero =>
  have hi : i = l.length := by omega
  subst hi
  rw [List.take_length] at hkk
  simp [r0, r1, r5, hvl, hkk]
 | succ m =>
  have hi : i < l.length := by omega
  obtain ⟨x, hx⟩ : ∃ x, l[i]? = some x := ⟨l[i], by simp [hi]⟩
  obtain ⟨eid, o, own, cells, e1, e2, e3, e0⟩ := hv.idx (qW hx) (by decide)
  rw [← hkk] at e0
  have hcnt := fM hx
  have hle := dI (l := l) (i := i + 1)
  have hid : eid < H.length := (List.getElem?_eq_some_iff.1 e2).1
  have hw : IntKind.i64.wrap ((i : Int) + 1) = ((i : Int) + 1) := wrap_i64 (by omega) (by omega)
  obtain ⟨us0, hu0, E0⟩ := bV.1 e0
  obtain ⟨us0, rfl, rfl⟩ := Gu hu0
  obtain ⟨c0, d0, u0, rr0, hc0, hu, h0, E1⟩ := ag.1 E0
  obtain ⟨u0, us0, rfl, rfl, rfl⟩ := iH hu
  obtain ⟨s0, rfl, hs, _⟩ := bn.1 h0
  obtain ⟨⟨t0, rfl⟩, rfl⟩ := vT hs
  obtain ⟨kk1, hkk1⟩ : ∃ n, n = kk + dE (.str t0) := ⟨_, rfl⟩
  rw [← hkk1] at E1
  obtain ⟨c1, d1, u1, rr1, rfl, hu, h1, E2⟩ := ag.1 E1
  obtain ⟨u1, us0, rfl, rfl, rfl⟩ := iH hu
  obtain ⟨s1, rfl, hs, _⟩ := bn.1 h1
  obtain ⟨⟨t1, rfl⟩, rfl⟩ := vT hs
  obtain ⟨kk2, hkk2⟩ : ∃ n, n = kk1 + dE (.str t1) := ⟨_, rfl⟩
  rw [← hkk2] at E2
  obtain ⟨rfl, hun⟩ := aO.1 E2
  obtain rfl := wK hun
  simp only [List.cons_append, List.nil_append, List.append_nil] at hc0
  simp only [yV, gY, je, wP, vZ, sV, Nat.add_zero] at hcnt hkk1 hkk2
  have ld0 := aY e2 (by simpa using aX hc0 (j := 0) rfl)
  have hm0 := iO (H := H) (k := kk) (by omega)
  have hw0 : IntKind.i64.wrap ((kk : Int) + 1) = (kk1 : Int) := by rw [wrap_i64 (by omega) (by omega)]; omega
  have ld1 := aY e2 (by simpa using aX hc0 (j := 1) rfl)
  have hm1 := iO (H := H) (k := kk1) (by omega)
  have hw1 : IntKind.i64.wrap ((kk1 : Int) + 1) = (kk2 : Int) := by rw [wrap_i64 (by omega) (by omega)]; omega
  rw [show (shRdn).size = 2 from rfl] at e1
  simp [r0, r1, r5, hi, hvl, e1, hid, hw, ld0, hm0, hw0, ld1, hm1, hw1]
  exact ⟨m, by omega, i + 1, by omega, by omega, by omega⟩
theorem TK : Gw 197 (.slice shAttr) := by
 intro H cs u F k h hn hk
 obtain ⟨v, l, rfl, rfl, hlen, hv⟩ := aF.1 h
 have hv := (aF.2 ⟨v, l, rfl, rfl, hlen, hv⟩).at
 obtain ⟨_, _, hx1, hx2, _, hv⟩ := aj.1 hv
 cases hx1; cases hx2
 apply Ret.mark
 rw [Z8]
 simp only [dF] at hk
 have hl64 : l.length ≤ 9223372036854775807 := hlen
 simp [EK, Tryz.f197, aG, -setRange]
 refine aA (fun m σ => ∃ (i : Nat) (r : Nat → R) (G : List Ob), i + m = l.length ∧ σ = ⟨r, 0, G⟩ ∧ r 0 = .val v ∧ r 1 = .val (.int .i64 ((k + aT (l.take i) : Nat) : Int)) ∧ r 5 = .val (.int .i64 i) ∧ G.length = H.length ∧ (∀ q, q ∉ F → G[q]? = H[q]?) ∧ AtF G (.slice shAttr) [v] (.lst (bM (l.take i) k ++ l.drop i)) F) ?_ l.length _ ⟨0, _, H, by simp, rfl, by simp, by simp [aT], by simp, rfl, fun _ _ => rfl, by simpa [bM] using h⟩
 rintro m σ ⟨i, r, G, him, rfl, r0, r1, r5, g1, g2, g3⟩
 cases m with
 | zero =>
  have hi : i = l.length := by omega
  subst hi
  simp at g3
  simp [r0, r1, r5, hv.len, nX g1, dF, mkV]
  exact ⟨g1, g2, g3⟩
 | succ m =>
  have hi : i < l.length := by omega
  obtain ⟨x, hx⟩ : ∃ x, l[i]? = some x := ⟨l[i], by simp [hi]⟩
  have hx0 : (bM (l.take i) k ++ l.drop i)[i]? = some x := by rw [xI hi, hx]
  have hmk := xJ (k := k) hx
  have hcnt := fM hx
  have hle := dI (l := l) (i := i + 1)
  have hL : (bM (l.take i) k ++ l.drop i).length = l.length := by simp [dO]; omega
  obtain ⟨L, hLd⟩ : ∃ L, L = bM (l.take i) k ++ l.drop i := ⟨_, rfl⟩
  rw [← hLd] at hx0 hmk hL g3
  clear hLd
  obtain ⟨id, off, cells, K, e0, e1, e2, e3, e4, e5, e6, e7, e8⟩ := AtF.elem g3 hn hx0
  clear e1 e2 e4 e5 e7 e8
  rw [hL] at e0
  subst e0
  generalize List.take (shAttr).size (List.drop (off + i * (shAttr).size) cells) = cc at e3
  replace e3 := eQ.1 e3
  obtain ⟨us, rfl, e3⟩ := e3
  replace e3 := aC.1 e3
  obtain ⟨c0, d0, u0, rr0, F0, E0, rfl, rfl, rfl, h0, e3⟩ := e3
  replace e3 := aC.1 e3
  obtain ⟨c1, d1, u1, rr1, F1, E1, rfl, rfl, rfl, h1, e3⟩ := e3
  replace e3 := dC.1 e3
  obtain ⟨rfl, rfl, rfl⟩ := e3
  replace h0 := dh.1 h0
  obtain ⟨⟨s0, rfl, rfl, w0⟩, rfl⟩ := h0
  have k1 := h1
  replace h1 := aF.1 h1
  obtain ⟨v1, l1, rfl, rfl, w1, hv1⟩ := h1
  have o1 := (aj.1 (AtF.at _ k1))
  obtain ⟨_, _, x1, x2, _, o1⟩ := o1
  cases x1
  cases x2
  have o1 := o1.one
  simp only [dE, gY, je, Nat.add_zero] at hcnt
  obtain ⟨kk, hkk⟩ : ∃ kk, kk = k + aT (l.take i) := ⟨_, rfl⟩
  rw [← hkk] at r1
  obtain ⟨id0, off0, cells0, w0, K0, ev0, eg0, ei0, ek0, ew0, ea0, en0, es0, er0, et0⟩ := AtF.field [] g3 hn (i := i) (us1 := []) (u := (.str s0)) (us2 := [(.lst l1)]) hx0 rfl rfl
  simp only [V.slc.injEq, Option.some.injEq, Prod.mk.injEq] at ev0
  obtain ⟨⟨rfl, rfl⟩, _⟩ := ev0
  simp only [shAttr, Sh.size_st, Sh.sizes_cons, Sh.sizes_nil, Sh.size_str, Sh.size_slice, Sh.size_int, Sh.size_bool, List.cons_append, List.nil_append, Nat.reduceAdd, Nat.add_zero] at eg0 ew0 et0 er0
  obtain ⟨_, rfl⟩ := dh.1 ea0
  have q0 := iO (H := G) (k := kk) (by omega)
  have st0 := store1 (v := (.str (aI kk))) eg0 (List.getElem?_eq_some_iff.1 ew0).1 rfl rfl
  have A0 := et0 (.str (aI kk)) (.str (aI kk)) (dh.2 ⟨⟨_, rfl, rfl, sO (by omega)⟩, rfl⟩)
  obtain ⟨G0, hG0⟩ : ∃ G', G' = G.set id (.mk true 2 (cells0.set (off + i * 2) (.str (aI kk)))) := ⟨_, rfl⟩
  rw [← hG0] at st0 A0
  have ln0 : G0.length = H.length := by rw [hG0, List.length_set]; exact g1
  have fr0 : ∀ q, q ∉ F → G0[q]? = H[q]? := fun q hq => by rw [hG0, List.getElem?_set_ne (by rintro rfl; exact hq e6)]; exact g2 q hq
  clear hG0
  obtain ⟨kk0, hkk0⟩ : ∃ n, n = kk + 1 := ⟨_, rfl⟩
  have hw0 : IntKind.i64.wrap ((kk : Int) + 1) = (kk0 : Int) := by rw [wrap_i64 (by omega) (by omega)]; omega
  have hx0_ : (L.set i (.st [(.str (aI kk)), (.lst l1)]))[i]? = some (.st [(.str (aI kk)), (.lst l1)]) := List.getElem?_set_self (by omega)
  obtain ⟨id1, off1, cells1, w1, K1, ev1, eg1, ei1, ek1, ew1, ea1, en1, es1, er1, et1⟩ := AtF.field [.str] A0 hn (i := i) (us1 := [(.str (aI kk))]) (u := (.lst l1)) (us2 := []) hx0_ rfl rfl
  simp only [V.slc.injEq, Option.some.injEq, Prod.mk.injEq] at ev1
  obtain ⟨⟨rfl, rfl⟩, _⟩ := ev1
  simp only [shAttr, Sh.size_st, Sh.sizes_cons, Sh.sizes_nil, Sh.size_str, Sh.size_slice, Sh.size_int, Sh.size_bool, List.cons_append, List.nil_append, Nat.reduceAdd, Nat.add_zero] at eg1 ew1 et1 er1
  obtain ⟨G1, q1, ln1, fr1, ma1⟩ := nC G0 [w1] _ K1 kk0 ea1 en1 (by simp only [gu, dE]; omega)
  simp only [aG, List.headD_cons] at q1
  have ld1 := aY eg1 ew1
  have A1 := er1 G1 (.lst (bM l1 kk0)) (fun q _ hq => fr1 q hq) ma1
  have ln1 : G1.length = H.length := by rw [ln1]; first | exact g1 | exact ln0
  have fr1 : ∀ q, q ∉ F → G1[q]? = H[q]? := fun q hq => by rw [fr1 q fun h => hq (es1 q h)]; first | exact g2 q hq | exact fr0 q hq
  obtain ⟨kk1, hkk1⟩ : ∃ n, n = kk0 + dE (.lst l1) := ⟨_, rfl⟩
  rw [gu, ← hkk1] at q1
  simp only [dE] at hkk1
  rw [List.set_set] at A1
  have hx1_ : (L.set i (.st [(.str (aI kk)), (.lst (bM l1 kk0))]))[i]? = some (.st [(.str (aI kk)), (.lst (bM l1 kk0))]) := List.getElem?_set_self (by omega)
  have hks : k + aT (l.take (i + 1)) = kk1 := by omega
  rw [show L.set i (.st [(.str (aI kk)), (.lst (bM l1 kk0))]) = _ from (by simp only [hkk0, hkk1, hkk]; exact hmk)] at A1
  have hw : IntKind.i64.wrap ((i : Int) + 1) = ((i : Int) + 1) := wrap_i64 (by omega) (by omega)
  have hix : i + 1 ≤ l.length := hi
  simp [r0, r1, r5, hi, hw, q0, st0, hw0, q1, ld1, -setRange]
  exact ⟨m, by omega, i + 1, by omega, _, _, ⟨rfl, rfl⟩, by simp [r0], by simp; omega, by simp, ln1, fr1, A1⟩
theorem J4 : uI 200 (.slice shAttr) := by
 intro H cs u k h hk
 obtain ⟨v, l', rfl, hu, hlen, hv⟩ := aj.1 h
 obtain ⟨l, rfl, rfl⟩ := pU hu
 apply Ret.eq
 rw [ahF]
 simp only [dF] at hk ⊢
 have hl64 : (bM l k).length ≤ 9223372036854775807 := hlen
 rw [dO] at hl64
 have hvl := fun {e s b : Nat} {z : List V} => hv.len (e := e) (s := s) (b := b) (z := z)
 simp only [dO] at hvl
 simp [DX, Tryz.f200, aG]
 refine aA (fun m σ => ∃ (i kk : Nat) (r : Nat → R), i + m = l.length ∧ kk = k + aT (l.take i) ∧ σ = ⟨r, 0, H⟩ ∧ r 0 = .val v ∧ r 1 = .val (.int .i64 kk) ∧ r 5 = .val (.int .i64 i)) ?_ l.length _ ⟨0, k, _, by simp, by simp [aT], rfl, by simp, by simp, by simp⟩
 rintro m σ ⟨i, kk, r, him, hkk, rfl, r0, r1, r5⟩
 cases m with
 | zero =>
  have hi : i = l.length := by omega
  subst hi
  rw [List.take_length] at hkk
  simp [r0, r1, r5, hvl, hkk]
 | succ m =>
  have hi : i < l.length := by omega
  obtain ⟨x, hx⟩ : ∃ x, l[i]? = some x := ⟨l[i], by simp [hi]⟩
  obtain ⟨eid, o, own, cells, e1, e2, e3, e0⟩ := hv.idx (qW hx) (by decide)
  rw [← hkk] at e0
  have hcnt := fM hx
  have hle := dI (l := l) (i := i + 1)
  have hid : eid < H.length := (List.getElem?_eq_some_iff.1 e2).1
  have hw : IntKind.i64.wrap ((i : Int) + 1) = ((i : Int) + 1) := wrap_i64 (by omega) (by omega)
  obtain ⟨us0, hu0, E0⟩ := bV.1 e0
  obtain ⟨us0, rfl, rfl⟩ := Gu hu0
  obtain ⟨c0, d0, u0, rr0, hc0, hu, h0, E1⟩ := ag.1 E0
  obtain ⟨u0, us0, rfl, rfl, rfl⟩ := iH hu
  obtain ⟨s0, rfl, hs, _⟩ := bn.1 h0
  obtain ⟨⟨t0, rfl⟩, rfl⟩ := vT hs
  obtain ⟨kk1, hkk1⟩ : ∃ n, n = kk + dE (.str t0) := ⟨_, rfl⟩
  rw [← hkk1] at E1
  obtain ⟨c1, d1, u1, rr1, rfl, hu, h1, E2⟩ := ag.1 E1
  obtain ⟨u1, us0, rfl, rfl, rfl⟩ := iH hu
  have k1 := h1
  obtain ⟨v1, l1, rfl, hs, _, _⟩ := aj.1 h1
  obtain ⟨m1, rfl, rfl⟩ := sN hs
  obtain ⟨kk2, hkk2⟩ : ∃ n, n = kk1 + dE (.lst m1) := ⟨_, rfl⟩
  rw [← hkk2] at E2
  obtain ⟨rfl, hun⟩ := aO.1 E2
  obtain rfl := wK hun
  simp only [List.cons_append, List.nil_append, List.append_nil] at hc0
  simp only [yV, gY, je, wP, vZ, sV, Nat.add_zero] at hcnt hkk1 hkk2
  have ld0 := aY e2 (by simpa using aX hc0 (j := 0) rfl)
  have hm0 := iO (H := H) (k := kk) (by omega)
  have hw0 : IntKind.i64.wrap ((kk : Int) + 1) = (kk1 : Int) := by rw [wrap_i64 (by omega) (by omega)]; omega
  have ld1 := aY e2 (by simpa using aX hc0 (j := 1) rfl)
  have q1 := lX H [v1] (.lst m1) kk1 k1 (by rw [gu]; omega)
  rw [gu, ← hkk2] at q1
  simp only [aG, List.headD_cons] at q1
  have p1 : ¬ ((kk2 : Int) < 0) := by omega
  rw [show (shAttr).size = 2 from rfl] at e1
  simp [r0, r1, r5, hi, hvl, e1, hid, hw, ld0, hm0, hw0, ld1, q1, p1]
  exact ⟨m, by omega, i + 1, by omega, by omega, by omega⟩
theorem Pg : Gw 107 (.slice bz) := by
 intro H cs u F k h hn hk
 obtain ⟨v, l, rfl, rfl, hlen, hv⟩ := aF.1 h
 have hv := (aF.2 ⟨v, l, rfl, rfl, hlen, hv⟩).at
 obtain ⟨_, _, hx1, hx2, _, hv⟩ := aj.1 hv
 cases hx1; cases hx2
 apply Ret.mark
 rw [aeM]
 simp only [dF] at hk
 have hl64 : l.length ≤ 9223372036854775807 := hlen
 simp [GU, Tryz.f107, aG, -setRange]
 refine aA (fun m σ => ∃ (i : Nat) (r : Nat → R) (G : List Ob), i + m = l.length ∧ σ = ⟨r, 0, G⟩ ∧ r 0 = .val v ∧ r 1 = .val (.int .i64 ((k + aT (l.take i) : Nat) : Int)) ∧ r 5 = .val (.int .i64 i) ∧ G.length = H.length ∧ (∀ q, q ∉ F → G[q]? = H[q]?) ∧ AtF G (.slice bz) [v] (.lst (bM (l.take i) k ++ l.drop i)) F) ?_ l.length _ ⟨0, _, H, by simp, rfl, by simp, by simp [aT], by simp, rfl, fun _ _ => rfl, by simpa [bM] using h⟩
 rintro m σ ⟨i, r, G, him, rfl, r0, r1, r5, g1, g2, g3⟩
 cases m with
 | zero =>
  have hi : i = l.length := by omega
  subst hi
  simp at g3
  simp [r0, r1, r5, hv.len, nX g1, dF, mkV]
  exact ⟨g1, g2, g3⟩
 | succ m =>
  have hi : i < l.length := by omega
  obtain ⟨x, hx⟩ : ∃ x, l[i]? = some x := ⟨l[i], by simp [hi]⟩
  have hx0 : (bM (l.take i) k ++ l.drop i)[i]? = some x := by rw [xI hi, hx]
  have hmk := xJ (k := k) hx
  have hcnt := fM hx
  have hle := dI (l := l) (i := i + 1)
  have hL : (bM (l.take i) k ++ l.drop i).length = l.length := by simp [dO]; omega
  obtain ⟨L, hLd⟩ : ∃ L, L = bM (l.take i) k ++ l.drop i := ⟨_, rfl⟩
  rw [← hLd] at hx0 hmk hL g3
  clear hLd
  obtain ⟨id, off, cells, K, e0, e1, e2, e3, e4, e5, e6, e7, e8⟩ := AtF.elem g3 hn hx0
  clear e1 e2 e4 e5 e7 e8
  rw [hL] at e0
  subst e0
  generalize List.take (bz).size (List.drop (off + i * (bz).size) cells) = cc at e3
  replace e3 := eQ.1 e3
  obtain ⟨us, rfl, e3⟩ := e3
  replace e3 := aC.1 e3
  obtain ⟨c0, d0, u0, rr0, F0, E0, rfl, rfl, rfl, h0, e3⟩ := e3
  replace e3 := aC.1 e3
  obtain ⟨c1, d1, u1, rr1, F1, E1, rfl, rfl, rfl, h1, e3⟩ := e3
  replace e3 := aC.1 e3
  obtain ⟨c2, d2, u2, rr2, F2, E2, rfl, rfl, rfl, h2, e3⟩ := e3
  replace e3 := aC.1 e3
  obtain ⟨c3, d3, u3, rr3, F3, E3, rfl, rfl, rfl, h3, e3⟩ := e3
  replace e3 := dC.1 e3
  obtain ⟨rfl, rfl, rfl⟩ := e3
  replace h0 := dh.1 h0
  obtain ⟨⟨s0, rfl, rfl, w0⟩, rfl⟩ := h0
  have k1 := h1
  replace h1 := aF.1 h1
  obtain ⟨v1, l1, rfl, rfl, w1, hv1⟩ := h1
  have o1 := (aj.1 (AtF.at _ k1))
  obtain ⟨_, _, x1, x2, _, o1⟩ := o1
  cases x1
  cases x2
  have o1 := o1.one
  have k2 := h2
  replace h2 := aF.1 h2
  obtain ⟨v2, l2, rfl, rfl, w2, hv2⟩ := h2
  have o2 := (aj.1 (AtF.at _ k2))
  obtain ⟨_, _, x1, x2, _, o2⟩ := o2
  cases x1
  cases x2
  have o2 := o2.one
  have k3 := h3
  replace h3 := aF.1 h3
  obtain ⟨v3, l3, rfl, rfl, w3, hv3⟩ := h3
  have o3 := (aj.1 (AtF.at _ k3))
  obtain ⟨_, _, x1, x2, _, o3⟩ := o3
  cases x1
  cases x2
  have o3 := o3.one
  simp only [dE, gY, je, Nat.add_zero] at hcnt
  obtain ⟨kk, hkk⟩ : ∃ kk, kk = k + aT (l.take i) := ⟨_, rfl⟩
  rw [← hkk] at r1
  obtain ⟨id0, off0, cells0, w0, K0, ev0, eg0, ei0, ek0, ew0, ea0, en0, es0, er0, et0⟩ := AtF.field [] g3 hn (i := i) (us1 := []) (u := (.str s0)) (us2 := [(.lst l1), (.lst l2), (.lst l3)]) hx0 rfl rfl
  simp only [V.slc.injEq, Option.some.injEq, Prod.mk.injEq] at ev0
  obtain ⟨⟨rfl, rfl⟩, _⟩ := ev0
  simp only [bz, Sh.size_st, Sh.sizes_cons, Sh.sizes_nil, Sh.size_str, Sh.size_slice, Sh.size_int, Sh.size_bool, List.cons_append, List.nil_append, Nat.reduceAdd, Nat.add_zero] at eg0 ew0 et0 er0
  obtain ⟨_, rfl⟩ := dh.1 ea0
  have q0 := iO (H := G) (k := kk) (by omega)
  have st0 := store1 (v := (.str (aI kk))) eg0 (List.getElem?_eq_some_iff.1 ew0).1 rfl rfl
  have A0 := et0 (.str (aI kk)) (.str (aI kk)) (dh.2 ⟨⟨_, rfl, rfl, sO (by omega)⟩, rfl⟩)
  obtain ⟨G0, hG0⟩ : ∃ G', G' = G.set id (.mk true 4 (cells0.set (off + i * 4) (.str (aI kk)))) := ⟨_, rfl⟩
  rw [← hG0] at st0 A0
  have ln0 : G0.length = H.length := by rw [hG0, List.length_set]; exact g1
  have fr0 : ∀ q, q ∉ F → G0[q]? = H[q]? := fun q hq => by rw [hG0, List.getElem?_set_ne (by rintro rfl; exact hq e6)]; exact g2 q hq
  clear hG0
  obtain ⟨kk0, hkk0⟩ : ∃ n, n = kk + 1 := ⟨_, rfl⟩
  have hw0 : IntKind.i64.wrap ((kk : Int) + 1) = (kk0 : Int) := by rw [wrap_i64 (by omega) (by omega)]; omega
  have hx0_ : (L.set i (.st [(.str (aI kk)), (.lst l1), (.lst l2), (.lst l3)]))[i]? = some (.st [(.str (aI kk)), (.lst l1), (.lst l2), (.lst l3)]) := List.getElem?_set_self (by omega)
  obtain ⟨id1, off1, cells1, w1, K1, ev1, eg1, ei1, ek1, ew1, ea1, en1, es1, er1, et1⟩ := AtF.field [.str] A0 hn (i := i) (us1 := [(.str (aI kk))]) (u := (.lst l1)) (us2 := [(.lst l2), (.lst l3)]) hx0_ rfl rfl
  simp only [V.slc.injEq, Option.some.injEq, Prod.mk.injEq] at ev1
  obtain ⟨⟨rfl, rfl⟩, _⟩ := ev1
  simp only [bz, Sh.size_st, Sh.sizes_cons, Sh.sizes_nil, Sh.size_str, Sh.size_slice, Sh.size_int, Sh.size_bool, List.cons_append, List.nil_append, Nat.reduceAdd, Nat.add_zero] at eg1 ew1 et1 er1
  obtain ⟨G1, q1, ln1, fr1, ma1⟩ := nC G0 [w1] _ K1 kk0 ea1 en1 (by simp only [gu, dE]; omega)
  simp only [aG, List.headD_cons] at q1
  have ld1 := aY eg1 ew1
  have A1 := er1 G1 (.lst (bM l1 kk0)) (fun q _ hq => fr1 q hq) ma1
  have ln1 : G1.length = H.length := by rw [ln1]; first | exact g1 | exact ln0
  have fr1 : ∀ q, q ∉ F → G1[q]? = H[q]? := fun q hq => by rw [fr1 q fun h => hq (es1 q h)]; first | exact g2 q hq | exact fr0 q hq
  obtain ⟨kk1, hkk1⟩ : ∃ n, n = kk0 + dE (.lst l1) := ⟨_, rfl⟩
  rw [gu, ← hkk1] at q1
  simp only [dE] at hkk1
  rw [List.set_set] at A1
  have hx1_ : (L.set i (.st [(.str (aI kk)), (.lst (bM l1 kk0)), (.lst l2), (.lst l3)]))[i]? = some (.st [(.str (aI kk)), (.lst (bM l1 kk0)), (.lst l2), (.lst l3)]) := List.getElem?_set_self (by omega)
  obtain ⟨id2, off2, cells2, w2, K2, ev2, eg2, ei2, ek2, ew2, ea2, en2, es2, er2, et2⟩ := AtF.field [.str, (.slice .str)] A1 hn (i := i) (us1 := [(.str (aI kk)), (.lst (bM l1 kk0))]) (u := (.lst l2)) (us2 := [(.lst l3)]) hx1_ rfl rfl
  simp only [V.slc.injEq, Option.some.injEq, Prod.mk.injEq] at ev2
  obtain ⟨⟨rfl, rfl⟩, _⟩ := ev2
  simp only [bz, Sh.size_st, Sh.sizes_cons, Sh.sizes_nil, Sh.size_str, Sh.size_slice, Sh.size_int, Sh.size_bool, List.cons_append, List.nil_append, Nat.reduceAdd, Nat.add_zero] at eg2 ew2 et2 er2
  obtain ⟨G2, q2, ln2, fr2, ma2⟩ := nC G1 [w2] _ K2 kk1 ea2 en2 (by simp only [gu, dE]; omega)
  simp only [aG, List.headD_cons] at q2
  have ld2 := aY eg2 ew2
  have A2 := er2 G2 (.lst (bM l2 kk1)) (fun q _ hq => fr2 q hq) ma2
  have ln2 : G2.length = H.length := by rw [ln2]; first | exact g1 | exact ln1
  have fr2 : ∀ q, q ∉ F → G2[q]? = H[q]? := fun q hq => by rw [fr2 q fun h => hq (es2 q h)]; first | exact g2 q hq | exact fr1 q hq
  obtain ⟨kk2, hkk2⟩ : ∃ n, n = kk1 + dE (.lst l2) := ⟨_, rfl⟩
  rw [gu, ← hkk2] at q2
  simp only [dE] at hkk2
  rw [List.set_set] at A2
  have hx2_ : (L.set i (.st [(.str (aI kk)), (.lst (bM l1 kk0)), (.lst (bM l2 kk1)), (.lst l3)]))[i]? = some (.st [(.str (aI kk)), (.lst (bM l1 kk0)), (.lst (bM l2 kk1)), (.lst l3)]) := List.getElem?_set_self (by omega)
  obtain ⟨id3, off3, cells3, w3, K3, ev3, eg3, ei3, ek3, ew3, ea3, en3, es3, er3, et3⟩ := AtF.field [.str, (.slice .str), (.slice .str)] A2 hn (i := i) (us1 := [(.str (aI kk)), (.lst (bM l1 kk0)), (.lst (bM l2 kk1))]) (u := (.lst l3)) (us2 := []) hx2_ rfl rfl
  simp only [V.slc.injEq, Option.some.injEq, Prod.mk.injEq] at ev3
  obtain ⟨⟨rfl, rfl⟩, _⟩ := ev3
  simp only [bz, Sh.size_st, Sh.sizes_cons, Sh.sizes_nil, Sh.size_str, Sh.size_slice, Sh.size_int, Sh.size_bool, List.cons_append, List.nil_append, Nat.reduceAdd, Nat.add_zero] at eg3 ew3 et3 er3
  obtain ⟨G3, q3, ln3, fr3, ma3⟩ := nC G2 [w3] _ K3 kk2 ea3 en3 (by simp only [gu, dE]; omega)
  simp only [aG, List.headD_cons] at q3
  have ld3 := aY eg3 ew3
  have A3 := er3 G3 (.lst (bM l3 kk2)) (fun q _ hq => fr3 q hq) ma3
  have ln3 : G3.length = H.length := by rw [ln3]; first | exact g1 | exact ln2
  have fr3 : ∀ q, q ∉ F → G3[q]? = H[q]? := fun q hq => by rw [fr3 q fun h => hq (es3 q h)]; first | exact g2 q hq | exact fr2 q hq
  obtain ⟨kk3, hkk3⟩ : ∃ n, n = kk2 + dE (.lst l3) := ⟨_, rfl⟩
  rw [gu, ← hkk3] at q3
  simp only [dE] at hkk3
  rw [List.set_set] at A3
  have hx3_ : (L.set i (.st [(.str (aI kk)), (.lst (bM l1 kk0)), (.lst (bM l2 kk1)), (.lst (bM l3 kk2))]))[i]? = some (.st [(.str (aI kk)), (.lst (bM l1 kk0)), (.lst (bM l2 kk1)), (.lst (bM l3 kk2))]) := List.getElem?_set_self (by omega)
  have hks : k + aT (l.take (i + 1)) = kk3 := by omega
  rw [show L.set i (.st [(.str (aI kk)), (.lst (bM l1 kk0)), (.lst (bM l2 kk1)), (.lst (bM l3 kk2))]) = _ from (by simp only [hkk0, hkk1, hkk2, hkk3, hkk]; exact hmk)] at A3
  have hw : IntKind.i64.wrap ((i : Int) + 1) = ((i : Int) + 1) := wrap_i64 (by omega) (by omega)
  have hix : i + 1 ≤ l.length := hi
  simp [r0, r1, r5, hi, hw, q0, st0, hw0, q1, ld1, q2, ld2, q3, ld3, -setRange]
  exact ⟨m, by omega, i + 1, by omega, _, _, ⟨rfl, rfl⟩, by simp [r0], by simp; omega, by simp, ln3, fr3, A3⟩
theorem Js : uI 198 (.slice bz) := by
 intro H cs u k h hk
 obtain ⟨v, l', rfl, hu, hlen, hv⟩ := aj.1 h
 obtain ⟨l, rfl, rfl⟩ := pU hu
 apply Ret.eq
 rw [ahv]
 simp only [dF] at hk ⊢
 have hl64 : (bM l k).length ≤ 9223372036854775807 := hlen
 rw [dO] at hl64
 have hvl := fun {e s b : Nat} {z : List V} => hv.len (e := e) (s := s) (b := b) (z := z)
 simp only [dO] at hvl
 simp [Gf, Tryz.f198, aG]
 refine aA (fun m σ => ∃ (i kk : Nat) (r : Nat → R), i + m = l.length ∧ kk = k + aT (l.take i) ∧ σ = ⟨r, 0, H⟩ ∧ r 0 = .val v ∧ r 1 = .val (.int .i64 kk) ∧ r 5 = .val (.int .i64 i)) ?_ l.length _ ⟨0, k, _, by simp, by simp [aT], rfl, by simp, by simp, by simp⟩
 rintro m σ ⟨i, kk, r, him, hkk, rfl, r0, r1, r5⟩
 cases m with
 | zero =>
  have hi : i = l.length := by omega
  subst hi
  rw [List.take_length] at hkk
  simp [r0, r1, r5, hvl, hkk]
 | succ m =>
  have hi : i < l.length := by omega
  obtain ⟨x, hx⟩ : ∃ x, l[i]? = some x := ⟨l[i], by simp [hi]⟩
  obtain ⟨eid, o, own, cells, e1, e2, e3, e0⟩ := hv.idx (qW hx) (by decide)
  rw [← hkk] at e0
  have hcnt := fM hx
  have hle := dI (l := l) (i := i + 1)
  have hid : eid < H.length := (List.getElem?_eq_some_iff.1 e2).1
  have hw : IntKind.i64.wrap ((i : Int) + 1) = ((i : Int) + 1) := wrap_i64 (by omega) (by omega)
  obtain ⟨us0, hu0, E0⟩ := bV.1 e0
  obtain ⟨us0, rfl, rfl⟩ := Gu hu0
  obtain ⟨c0, d0, u0, rr0, hc0, hu, h0, E1⟩ := ag.1 E0
  obtain ⟨u0, us0, rfl, rfl, rfl⟩ := iH hu
  obtain ⟨s0, rfl, hs, _⟩ := bn.1 h0
  obtain ⟨⟨t0, rfl⟩, rfl⟩ := vT hs
  obtain ⟨kk1, hkk1⟩ : ∃ n, n = kk + dE (.str t0) := ⟨_, rfl⟩
  rw [← hkk1] at E1
  obtain ⟨c1, d1, u1, rr1, rfl, hu, h1, E2⟩ := ag.1 E1
  obtain ⟨u1, us0, rfl, rfl, rfl⟩ := iH hu
  have k1 := h1
  obtain ⟨v1, l1, rfl, hs, _, _⟩ := aj.1 h1
  obtain ⟨m1, rfl, rfl⟩ := sN hs
  obtain ⟨kk2, hkk2⟩ : ∃ n, n = kk1 + dE (.lst m1) := ⟨_, rfl⟩
  rw [← hkk2] at E2
  obtain ⟨c2, d2, u2, rr2, rfl, hu, h2, E3⟩ := ag.1 E2
  obtain ⟨u2, us0, rfl, rfl, rfl⟩ := iH hu
  have k2 := h2
  obtain ⟨v2, l2, rfl, hs, _, _⟩ := aj.1 h2
  obtain ⟨m2, rfl, rfl⟩ := sN hs
  obtain ⟨kk3, hkk3⟩ : ∃ n, n = kk2 + dE (.lst m2) := ⟨_, rfl⟩
  rw [← hkk3] at E3
  obtain ⟨c3, d3, u3, rr3, rfl, hu, h3, E4⟩ := ag.1 E3
  obtain ⟨u3, us0, rfl, rfl, rfl⟩ := iH hu
  have k3 := h3
  obtain ⟨v3, l3, rfl, hs, _, _⟩ := aj.1 h3
  obtain ⟨m3, rfl, rfl⟩ := sN hs
  obtain ⟨kk4, hkk4⟩ : ∃ n, n = kk3 + dE (.lst m3) := ⟨_, rfl⟩
  rw [← hkk4] at E4
  obtain ⟨rfl, hun⟩ := aO.1 E4
  obtain rfl := wK hun
  simp only [List.cons_append, List.nil_append, List.append_nil] at hc0
  simp only [yV, gY, je, wP, vZ, sV, Nat.add_zero] at hcnt hkk1 hkk2 hkk3 hkk4
  have ld0 := aY e2 (by simpa using aX hc0 (j := 0) rfl)
  have hm0 := iO (H := H) (k := kk) (by omega)
  have hw0 : IntKind.i64.wrap ((kk : Int) + 1) = (kk1 : Int) := by rw [wrap_i64 (by omega) (by omega)]; omega
  have ld1 := aY e2 (by simpa using aX hc0 (j := 1) rfl)
  have q1 := lX H [v1] (.lst m1) kk1 k1 (by rw [gu]; omega)
  rw [gu, ← hkk2] at q1
  simp only [aG, List.headD_cons] at q1
  have p1 : ¬ ((kk2 : Int) < 0) := by omega
  have ld2 := aY e2 (by simpa using aX hc0 (j := 2) rfl)
  have q2 := lX H [v2] (.lst m2) kk2 k2 (by rw [gu]; omega)
  rw [gu, ← hkk3] at q2
  simp only [aG, List.headD_cons] at q2
  have p2 : ¬ ((kk3 : Int) < 0) := by omega
  have ld3 := aY e2 (by simpa using aX hc0 (j := 3) rfl)
  have q3 := lX H [v3] (.lst m3) kk3 k3 (by rw [gu]; omega)
  rw [gu, ← hkk4] at q3
  simp only [aG, List.headD_cons] at q3
  have p3 : ¬ ((kk4 : Int) < 0) := by omega
  rw [show (bz).size = 4 from rfl] at e1
  simp [r0, r1, r5, hi, hvl, e1, hid, hw, ld0, hm0, hw0, ld1, q1, p1, ld2, q2, p2, ld3, q3, p3]
  exact ⟨m, by omega, i + 1, by omega, by omega, by omega⟩
theorem U3 : Gw 54 (.slice iJ) := by
 intro H cs u F k h hn hk
 obtain ⟨v, l, rfl, rfl, hlen, hv⟩ := aF.1 h
 have hv := (aF.2 ⟨v, l, rfl, rfl, hlen, hv⟩).at
 obtain ⟨_, _, hx1, hx2, _, hv⟩ := aj.1 hv
 cases hx1; cases hx2
 apply Ret.mark
 rw [an3]
 simp only [dF] at hk
 have hl64 : l.length ≤ 9223372036854775807 := hlen
 simp [Kq, Tryz.f54, aG, -setRange]
 refine aA (fun m σ => ∃ (i : Nat) (r : Nat → R) (G : List Ob), i + m = l.length ∧ σ = ⟨r, 0, G⟩ ∧ r 0 = .val v ∧ r 1 = .val (.int .i64 ((k + aT (l.take i) : Nat) : Int)) ∧ r 5 = .val (.int .i64 i) ∧ G.length = H.length ∧ (∀ q, q ∉ F → G[q]? = H[q]?) ∧ AtF G (.slice iJ) [v] (.lst (bM (l.take i) k ++ l.drop i)) F) ?_ l.length _ ⟨0, _, H, by simp, rfl, by simp, by simp [aT], by simp, rfl, fun _ _ => rfl, by simpa [bM] using h⟩
 rintro m σ ⟨i, r, G, him, rfl, r0, r1, r5, g1, g2, g3⟩
 cases m with
 | zero =>
  have hi : i = l.length := by omega
  subst hi
  simp at g3
  simp [r0, r1, r5, hv.len, nX g1, dF, mkV]
  exact ⟨g1, g2, g3⟩
 | succ m =>
  have hi : i < l.length := by omega
  obtain ⟨x, hx⟩ : ∃ x, l[i]? = some x := ⟨l[i], by simp [hi]⟩
  have hx0 : (bM (l.take i) k ++ l.drop i)[i]? = some x := by rw [xI hi, hx]
  have hmk := xJ (k := k) hx
  have hcnt := fM hx
  have hle := dI (l := l) (i := i + 1)
  have hL : (bM (l.take i) k ++ l.drop i).length = l.length := by simp [dO]; omega
  obtain ⟨L, hLd⟩ : ∃ L, L = bM (l.take i) k ++ l.drop i := ⟨_, rfl⟩
  rw [← hLd] at hx0 hmk hL g3
  clear hLd
  obtain ⟨id, off, cells, K, e0, e1, e2, e3, e4, e5, e6, e7, e8⟩ := AtF.elem g3 hn hx0
  clear e1 e2 e4 e5 e7 e8
  rw [hL] at e0
  subst e0
  generalize List.take (iJ).size (List.drop (off + i * (iJ).size) cells) = cc at e3
  replace e3 := eQ.1 e3
  obtain ⟨us, rfl, e3⟩ := e3
  replace e3 := aC.1 e3
  obtain ⟨c0, d0, u0, rr0, F0, E0, rfl, rfl, rfl, h0, e3⟩ := e3
  replace e3 := aC.1 e3
  obtain ⟨c1, d1, u1, rr1, F1, E1, rfl, rfl, rfl, h1, e3⟩ := e3
  replace e3 := aC.1 e3
  obtain ⟨c2, d2, u2, rr2, F2, E2, rfl, rfl, rfl, h2, e3⟩ := e3
  replace e3 := dC.1 e3
  obtain ⟨rfl, rfl, rfl⟩ := e3
  replace h0 := lQ.1 h0
  obtain ⟨⟨n0, rfl, rfl, w0⟩, rfl⟩ := h0
  replace h1 := dh.1 h1
  obtain ⟨⟨s1, rfl, rfl, w1⟩, rfl⟩ := h1
  have k2 := h2
  replace h2 := aF.1 h2
  obtain ⟨v2, l2, rfl, rfl, w2, hv2⟩ := h2
  have o2 := (aj.1 (AtF.at _ k2))
  obtain ⟨_, _, x1, x2, _, o2⟩ := o2
  cases x1
  cases x2
  have o2 := o2.one
  simp only [dE, gY, je, Nat.add_zero] at hcnt
  obtain ⟨kk, hkk⟩ : ∃ kk, kk = k + aT (l.take i) := ⟨_, rfl⟩
  rw [← hkk] at r1
  obtain ⟨id0, off0, cells0, w0, K0, ev0, eg0, ei0, ek0, ew0, ea0, en0, es0, er0, et0⟩ := AtF.field [] g3 hn (i := i) (us1 := []) (u := (.int n0)) (us2 := [(.str s1), (.lst l2)]) hx0 rfl rfl
  simp only [V.slc.injEq, Option.some.injEq, Prod.mk.injEq] at ev0
  obtain ⟨⟨rfl, rfl⟩, _⟩ := ev0
  simp only [iJ, Sh.size_st, Sh.sizes_cons, Sh.sizes_nil, Sh.size_str, Sh.size_slice, Sh.size_int, Sh.size_bool, List.cons_append, List.nil_append, Nat.reduceAdd, Nat.add_zero] at eg0 ew0 et0 er0
  obtain ⟨_, rfl⟩ := lQ.1 ea0
  have st0 := store1 (v := (.int .i64 kk)) eg0 (List.getElem?_eq_some_iff.1 ew0).1 rfl rfl
  have A0 := et0 (.int .i64 kk) (.int kk) (lQ.2 ⟨⟨_, rfl, rfl, Wv (by omega)⟩, rfl⟩)
  obtain ⟨G0, hG0⟩ : ∃ G', G' = G.set id (.mk true 3 (cells0.set (off + i * 3) (.int .i64 kk))) := ⟨_, rfl⟩
  rw [← hG0] at st0 A0
  have ln0 : G0.length = H.length := by rw [hG0, List.length_set]; exact g1
  have fr0 : ∀ q, q ∉ F → G0[q]? = H[q]? := fun q hq => by rw [hG0, List.getElem?_set_ne (by rintro rfl; exact hq e6)]; exact g2 q hq
  clear hG0
  obtain ⟨kk0, hkk0⟩ : ∃ n, n = kk + 1 := ⟨_, rfl⟩
  have hw0 : IntKind.i64.wrap ((kk : Int) + 1) = (kk0 : Int) := by rw [wrap_i64 (by omega) (by omega)]; omega
  have hx0_ : (L.set i (.st [(.int kk), (.str s1), (.lst l2)]))[i]? = some (.st [(.int kk), (.str s1), (.lst l2)]) := List.getElem?_set_self (by omega)
  obtain ⟨id1, off1, cells1, w1, K1, ev1, eg1, ei1, ek1, ew1, ea1, en1, es1, er1, et1⟩ := AtF.field [(.int .i64)] A0 hn (i := i) (us1 := [(.int kk)]) (u := (.str s1)) (us2 := [(.lst l2)]) hx0_ rfl rfl
  simp only [V.slc.injEq, Option.some.injEq, Prod.mk.injEq] at ev1
  obtain ⟨⟨rfl, rfl⟩, _⟩ := ev1
  simp only [iJ, Sh.size_st, Sh.sizes_cons, Sh.sizes_nil, Sh.size_str, Sh.size_slice, Sh.size_int, Sh.size_bool, List.cons_append, List.nil_append, Nat.reduceAdd, Nat.add_zero] at eg1 ew1 et1 er1
  obtain ⟨_, rfl⟩ := dh.1 ea1
  have q1 := iO (H := G0) (k := kk0) (by omega)
  have st1 := store1 (v := (.str (aI kk0))) eg1 (List.getElem?_eq_some_iff.1 ew1).1 rfl rfl
  have A1 := et1 (.str (aI kk0)) (.str (aI kk0)) (dh.2 ⟨⟨_, rfl, rfl, sO (by omega)⟩, rfl⟩)
  obtain ⟨G1, hG1⟩ : ∃ G', G' = G0.set id (.mk true 3 (cells1.set (off + i * 3 + 1) (.str (aI kk0)))) := ⟨_, rfl⟩
  rw [← hG1] at st1 A1
  have ln1 : G1.length = H.length := by rw [hG1, List.length_set]; exact ln0
  have fr1 : ∀ q, q ∉ F → G1[q]? = H[q]? := fun q hq => by rw [hG1, List.getElem?_set_ne (by rintro rfl; exact hq e6)]; exact fr0 q hq
  clear hG1
  obtain ⟨kk1, hkk1⟩ : ∃ n, n = kk0 + 1 := ⟨_, rfl⟩
  have hw1 : IntKind.i64.wrap ((kk0 : Int) + 1) = (kk1 : Int) := by rw [wrap_i64 (by omega) (by omega)]; omega
  rw [List.set_set] at A1
  have hx1_ : (L.set i (.st [(.int kk), (.str (aI kk0)), (.lst l2)]))[i]? = some (.st [(.int kk), (.str (aI kk0)), (.lst l2)]) := List.getElem?_set_self (by omega)
  obtain ⟨id2, off2, cells2, w2, K2, ev2, eg2, ei2, ek2, ew2, ea2, en2, es2, er2, et2⟩ := AtF.field [(.int .i64), .str] A1 hn (i := i) (us1 := [(.int kk), (.str (aI kk0))]) (u := (.lst l2)) (us2 := []) hx1_ rfl rfl
  simp only [V.slc.injEq, Option.some.injEq, Prod.mk.injEq] at ev2
  obtain ⟨⟨rfl, rfl⟩, _⟩ := ev2
  simp only [iJ, Sh.size_st, Sh.sizes_cons, Sh.sizes_nil, Sh.size_str, Sh.size_slice, Sh.size_int, Sh.size_bool, List.cons_append, List.nil_append, Nat.reduceAdd, Nat.add_zero] at eg2 ew2 et2 er2
  obtain ⟨G2, q2, ln2, fr2, ma2⟩ := nC G1 [w2] _ K2 kk1 ea2 en2 (by simp only [gu, dE]; omega)
  simp only [aG, List.headD_cons] at q2
  have ld2 := aY eg2 ew2
  have A2 := er2 G2 (.lst (bM l2 kk1)) (fun q _ hq => fr2 q hq) ma2
  have ln2 : G2.length = H.length := by rw [ln2]; first | exact g1 | exact ln1
  have fr2 : ∀ q, q ∉ F → G2[q]? = H[q]? := fun q hq => by rw [fr2 q fun h => hq (es2 q h)]; first | exact g2 q hq | exact fr1 q hq
  obtain ⟨kk2, hkk2⟩ : ∃ n, n = kk1 + dE (.lst l2) := ⟨_, rfl⟩
  rw [gu, ← hkk2] at q2
  simp only [dE] at hkk2
  rw [List.set_set] at A2
  have hx2_ : (L.set i (.st [(.int kk), (.str (aI kk0)), (.lst (bM l2 kk1))]))[i]? = some (.st [(.int kk), (.str (aI kk0)), (.lst (bM l2 kk1))]) := List.getElem?_set_self (by omega)
  have hks : k + aT (l.take (i + 1)) = kk2 := by omega
  rw [show L.set i (.st [(.int kk), (.str (aI kk0)), (.lst (bM l2 kk1))]) = _ from (by simp only [hkk0, hkk1, hkk2, hkk]; exact hmk)] at A2
  have hw : IntKind.i64.wrap ((i : Int) + 1) = ((i : Int) + 1) := wrap_i64 (by omega) (by omega)
  have hix : i + 1 ≤ l.length := hi
  simp [r0, r1, r5, hi, hw, st0, hw0, q1, st1, hw1, q2, ld2, -setRange]
  exact ⟨m, by omega, i + 1, by omega, _, _, ⟨rfl, rfl⟩, by simp [r0], by simp; omega, by simp, ln2, fr2, A2⟩

end Go.Proofs.Try1
end
section
namespace Go.Lite
open Go
def Le (G G' : List Ob) : Prop := ∃ S, G' = G ++ S
def Up (G G' : List Ob) : Prop := ∀ (q : Nat) o, G[q]? = some o → G'[q]? = some o
section
variable {A B D G G' : List Ob} {sh : Sh} {cs : List V} {u : U} {F : List Nat} {b e : Nat}
theorem Le.refl : Le A A := ⟨[], by simp⟩
theorem Le.app {T : List Ob} : Le A (A ++ T) := ⟨T, rfl⟩
theorem Le.trans (h : Le A B) (k : Le B D) : Le A D := by
 obtain ⟨S, rfl⟩ := h
 obtain ⟨T, rfl⟩ := k
 exact ⟨S ++ T, by rw [List.append_assoc]⟩
theorem Le.len (h : Le A B) : A.length ≤ B.length := by obtain ⟨S, rfl⟩ := h; simp
theorem Le.up (h : Le A B) : Up A B := by obtain ⟨S, rfl⟩ := h; exact aS
theorem Up.refl : Up A A := fun _ _ h => h
theorem Up.trans (h : Up A B) (k : Up B D) : Up A D := fun q o hq => k q o (h q o hq)
theorem At.Up (h : At A sh cs u) (k : Up A B) : At B sh cs u := At.up k sh h
theorem At.Le (h : At A sh cs u) (k : Le A B) : At B sh cs u := At.up k.up sh h
theorem New.Le (h : New b e A sh cs u) (k : Le A B) : New b e B sh cs u := by obtain ⟨S, rfl⟩ := k; exact h.ext
theorem Up.frame (h : ∀ q, q < A.length → B[q]? = A[q]?) : Up A B := fun q o hq => by
 rw [h q (List.getElem?_eq_some_iff.1 hq).1]; exact hq
theorem jV {v : V} (h : aP v = true) : cellsOf v = some [v] := by cases v <;> first | rfl | simp [aP] at h
theorem dQ (h : At A sh cs u) : ∀ x ∈ cs, aP x = true ∧ cellsOf x = some [x] := fun x hx => by
 have := List.all_eq_true.1 (At.ones _ h) x hx
 exact ⟨this, jV this⟩
theorem mV {α : Type} {l : List α} (h : l.length = 1) : ∃ a, l = [a] := by
 match l, h with
 | [a], _ => exact ⟨a, rfl⟩
theorem H9 {α : Type} {l : List α} (h : l.length = 2) : ∃ a b, l = [a, b] := by
 match l, h with
 | [a, b], _ => exact ⟨a, b, rfl⟩
theorem list4 {α : Type} {l : List α} (h : l.length = 4) : ∃ a b c d, l = [a, b, c, d] := by
 match l, h with
 | [a, b, c, d], _ => exact ⟨a, b, c, d, rfl⟩
end
mutual
def Sh.fan : Sh → Nat
 | .slice e => e.fan
 | .st fs => Sh.fans fs
 | _ => 1
def Sh.fans : List Sh → Nat
 | [] => 0
 | f :: fs => f.fan + Sh.fans fs
end
theorem Oi {f : Nat} {l : List U} (h : ∀ u ∈ l, dE u ≤ f * (1 + wt u)) : aT l ≤ f * (l.length + kU l) := by
 induction l with
 | nil => simp [aT]
 | cons u us ih =>
  have h1 := h u List.mem_cons_self
  have h2 := ih fun w hw => h w (List.mem_cons_of_mem _ hw)
  have e : f * ((u :: us).length + kU (u :: us)) = f * (1 + wt u) + f * (us.length + kU us) := by
   rw [← Nat.mul_add]
   simp only [List.length_cons, kU]
   congr 1
   omega
  simp only [aT]
  omega
theorem Sl.each {H : List Ob} {n : Nat} {R : List V → U → Prop} {v : V} {l : List U} (h : Sl H n R v l) : ∀ u ∈ l, ∃ cs, R cs u := by
 intro u hu
 rcases h with ⟨_, rfl⟩ | ⟨id, off, own, cells, _, _, _, h4⟩
 ·cases hu
 ·obtain ⟨i, hi, rfl⟩ := List.getElem_of_mem hu
  exact ⟨_, h4 i _ (List.getElem?_eq_getElem hi)⟩
mutual
theorem uy {H : List Ob} : ∀ (sh : Sh) {cs : List V} {u : U}, At H sh cs u → dE u ≤ sh.fan * (1 + wt u)
 | .int k, _, _, h => by obtain ⟨n, _, rfl, _⟩ := jK.1 h; simp [dE, Sh.fan, wt]
 | .bool, _, _, h => by obtain ⟨n, _, rfl⟩ := D8.1 h; simp [dE, Sh.fan, wt]
 | .str, _, _, h => by obtain ⟨n, _, rfl, _⟩ := bn.1 h; simp only [dE, Sh.fan, wt]; omega
 | .slice e, _, _, h => by
  obtain ⟨v, l, _, rfl, _, h4⟩ := aj.1 h
  have := Oi (f := e.fan) (l := l) fun u hu => by
   obtain ⟨cs, hc⟩ := h4.each u hu
   exact uy e hc
  simp only [dE, Sh.fan, wt]
  refine Nat.le_trans this (Nat.mul_le_mul_left _ (by omega))
 | .st fs, _, _, h => by
  obtain ⟨us, rfl, h2⟩ := bV.1 h
  have := yB fs h2
  simp only [dE, Sh.fan, wt]
  exact this
theorem yB {H : List Ob} : ∀ (fs : List Sh) {cs : List V} {us : List U}, Ats H fs cs us → aT us ≤ Sh.fans fs * (1 + kU us)
 | [], _, _, h => by obtain ⟨_, rfl⟩ := aO.1 h; simp [aT]
 | f :: fs, _, _, h => by
  obtain ⟨c1, c2, u, us', _, rfl, h3, h4⟩ := ag.1 h
  have h5 := uy f h3
  have h6 := yB fs h4
  simp only [aT, Sh.fans, kU]
  have e1 : f.fan * (1 + wt u) ≤ f.fan * (1 + (wt u + kU us')) := Nat.mul_le_mul_left _ (by omega)
  have e2 : Sh.fans fs * (1 + kU us') ≤ Sh.fans fs * (1 + (wt u + kU us')) := Nat.mul_le_mul_left _ (by omega)
  rw [Nat.add_mul]
  omega
end
mutual
theorem Nl : ∀ (u : U), dF u ≤ dE u
 | .int _ => by simp [dF]
 | .bool _ => by simp [dF]
 | .str _ => by simp [dF]
 | .lst l => by rw [gu]; exact Nat.le_refl _
 | .st us => by simp only [dF, dE]; exact HY us
theorem HY : ∀ (us : List U), rG us ≤ aT us
 | [] => by simp [rG]
 | u :: us => by simp only [rG, aT]; have h1 := Nl u; have h2 := HY us; omega
end
theorem um {H : List Ob} {sh : Sh} {cs : List V} {u : U} (h : At H sh cs u) (n : Nat) (hn : sh.fan ≤ n) : dF u ≤ n * (1 + wt u) :=
 Nat.le_trans (Nat.le_trans (Nl u) (uy sh h)) (Nat.mul_le_mul_right _ hn)
end Go.Lite
end
section
namespace Go.Proofs.Try1
open Go Go.Lite
section
variable {f k b e : Nat} {sh : Sh} {H : List Ob} {cs ds : List V} {u : U}
theorem toN (hf : uK f sh) (h : At H sh cs u) (hw : wt u ≤ 1048576) : ∃ G cs', callW C f [aG sh cs] H = some (aG sh cs', G) ∧ Le H G ∧ New H.length G.length G sh cs' u := by
 obtain ⟨S, cs', F, c1, a1, n1, g1⟩ := hf H cs u h hw
 exact ⟨_, cs', c1, ⟨S, rfl⟩, F, a1, n1, fun q hq => ⟨g1 q hq, AtF.mem _ a1 q hq⟩⟩
theorem eqN (hf : tC f sh) (h : At H sh cs u) (h' : At H sh ds u) : callW C f [aG sh cs, aG sh ds] H = some (.bool true, H) := by
 obtain ⟨t, ht, c⟩ := hf H cs ds u u h h'
 obtain rfl := ht.2 rfl
 exact c
theorem mkN (hf : Gw f sh) (h : New b e H sh cs u) (hk : k + dF u ≤ 50000000) : ∃ G, callW C f [aG sh cs, .int .i64 k] H = some (.int .i64 ((k + dF u : Nat) : Int), G) ∧ G.length = H.length ∧ (∀ q, q < b ∨ e ≤ q → G[q]? = H[q]?) ∧ New b e G sh cs (mkV u k) := by
 obtain ⟨F, h1, h2, h3⟩ := h
 obtain ⟨G, c, l, fr, a⟩ := hf H cs u F k h1 h2 hk
 exact ⟨G, c, l, fun q hq => fr q fun hm => by have := h3 q hm; omega, F, a, h2, h3⟩
end
theorem jU {α : Type} {f : α → U} {l : List α} {k : Nat} (h : ∀ x ∈ l, dE (f x) ≤ k) : aT (l.map f) ≤ l.length * k := by
 induction l with
 | nil => simp [aT]
 | cons x l ih =>
  have h1 := h x List.mem_cons_self
  have h2 := ih fun y hy => h y (List.mem_cons_of_mem _ hy)
  simp only [List.map_cons, aT, List.length_cons, Nat.add_mul]
  omega
end Go.Proofs.Try1
end
section
namespace Go.Lite
open Go
def Ns (Q : Ex → St → Prop) : Option St → Prop
 | some σ => Q .norm σ
 | none => False
theorem jF {Q : Ex → St → Prop} {σ : St} : Ns Q (some σ) ↔ Q .norm σ := Iff.rfl
theorem jI {Q : Ex → St → Prop} : Ns Q none ↔ False := Iff.rfl
theorem jM {C : Ctx} {f id : Nat} {ops : Array Oper} {draw : Bool} {σ : St} {Q : Ex → St → Prop} : WP C f (.region id ops draw) σ Q ↔ Ns Q (dN C (callW C) f id ops draw σ) := by
 rw [jd]
 cases dN C (callW C) f id ops draw σ with
 | none => simp [Ns]
 | some σ1 => exact ⟨fun ⟨_, h, hq⟩ => by cases h; exact hq, fun h => ⟨σ1, rfl, h⟩⟩
def A8 (C : Ctx) (f : Nat) (a b : Code) (σ : St) (Q : Ex → St → Prop) (o : Option V) : Prop := ∃ t, o = some (.bool t) ∧ if t = true then WP C f a σ Q else WP C f b σ Q
theorem mY {C : Ctx} {f : Nat} {c : Operand} {a b : Code} {σ : St} {Q : Ex → St → Prop} : WP C f (.cond c a b) σ Q ↔ A8 C f a b σ Q (ev σ c) := mg
theorem jD {C : Ctx} {f : Nat} {a b : Code} {σ : St} {Q : Ex → St → Prop} : A8 C f a b σ Q (some (.bool true)) ↔ WP C f a σ Q := by simp [A8]
theorem iU {C : Ctx} {f : Nat} {a b : Code} {σ : St} {Q : Ex → St → Prop} : A8 C f a b σ Q (some (.bool false)) ↔ WP C f b σ Q := by simp [A8]
theorem jE {C : Ctx} {f : Nat} {a b : Code} {σ : St} {Q : Ex → St → Prop} {t : Bool} : A8 C f a b σ Q (some (.bool t)) ↔ if t = true then WP C f a σ Q else WP C f b σ Q := by simp [A8]
section
variable {σ : St} {C : Ctx}
end
end Go.Lite
end
section
namespace Go.Proofs.Try1
open Go Go.Lite
theorem Dk : Gw 108 (.slice shEntry) := by
 intro H cs u F k h hn hk
 obtain ⟨v, l, rfl, rfl, hlen, hv⟩ := aF.1 h
 have hv := (aF.2 ⟨v, l, rfl, rfl, hlen, hv⟩).at
 obtain ⟨_, _, hx1, hx2, _, hv⟩ := aj.1 hv
 cases hx1; cases hx2
 apply Ret.mark
 rw [aav]
 simp only [dF] at hk
 have hl64 : l.length ≤ 9223372036854775807 := hlen
 simp [E5, Tryz.f108, aG, -setRange]
 refine aA (fun m σ => ∃ (i : Nat) (r : Nat → R) (G : List Ob), i + m = l.length ∧ σ = ⟨r, 0, G⟩ ∧ r 0 = .val v ∧ r 1 = .val (.int .i64 ((k + aT (l.take i) : Nat) : Int)) ∧ r 5 = .val (.int .i64 i) ∧ G.length = H.length ∧ (∀ q, q ∉ F → G[q]? = H[q]?) ∧ AtF G (.slice shEntry) [v] (.lst (bM (l.take i) k ++ l.drop i)) F) ?_ l.length _ ⟨0, _, H, by simp, rfl, by simp, by simp [aT], by simp, rfl, fun _ _ => rfl, by simpa [bM] using h⟩
 rintro m σ ⟨i, r, G, him, rfl, r0, r1, r5, g1, g2, g3⟩
 cases m with
 | zero =>
  have hi : i = l.length := by omega
  subst hi
  simp at g3
  simp [r0, r1, r5, hv.len, nX g1, dF, mkV]
  exact ⟨g1, g2, g3⟩
 | succ m =>
  have hi : i < l.length := by omega
  obtain ⟨x, hx⟩ : ∃ x, l[i]? = some x := ⟨l[i], by simp [hi]⟩
  have hx0 : (bM (l.take i) k ++ l.drop i)[i]? = some x := by rw [xI hi, hx]
  have hmk := xJ (k := k) hx
  have hcnt := fM hx
  have hle := dI (l := l) (i := i + 1)
  have hL : (bM (l.take i) k ++ l.drop i).length = l.length := by simp [dO]; omega
  obtain ⟨L, hLd⟩ : ∃ L, L = bM (l.take i) k ++ l.drop i := ⟨_, rfl⟩
  rw [← hLd] at hx0 hmk hL g3
  clear hLd
  obtain ⟨id, off, cells, K, e0, e1, e2, e3, e4, e5, e6, e7, e8⟩ := AtF.elem g3 hn hx0
  clear e1 e2 e4 e5 e7 e8
  rw [hL] at e0
  subst e0
  generalize List.take (shEntry).size (List.drop (off + i * (shEntry).size) cells) = cc at e3
  replace e3 := eQ.1 e3
  obtain ⟨us, rfl, e3⟩ := e3
  replace e3 := aC.1 e3
  obtain ⟨c0, d0, u0, rr0, F0, E0, rfl, rfl, rfl, h0, e3⟩ := e3
  replace e3 := aC.1 e3
  obtain ⟨c1, d1, u1, rr1, F1, E1, rfl, rfl, rfl, h1, e3⟩ := e3
  replace e3 := dC.1 e3
  obtain ⟨rfl, rfl, rfl⟩ := e3
  have k0 := h0
  replace h0 := aF.1 h0
  obtain ⟨v0, l0, rfl, rfl, w0, hv0⟩ := h0
  have o0 := (aj.1 (AtF.at _ k0))
  obtain ⟨_, _, x1, x2, _, o0⟩ := o0
  cases x1
  cases x2
  have o0 := o0.one
  have k1 := h1
  replace h1 := aF.1 h1
  obtain ⟨v1, l1, rfl, rfl, w1, hv1⟩ := h1
  have o1 := (aj.1 (AtF.at _ k1))
  obtain ⟨_, _, x1, x2, _, o1⟩ := o1
  cases x1
  cases x2
  have o1 := o1.one
  simp only [dE, gY, je, Nat.add_zero] at hcnt
  obtain ⟨kk, hkk⟩ : ∃ kk, kk = k + aT (l.take i) := ⟨_, rfl⟩
  rw [← hkk] at r1
  obtain ⟨id0, off0, cells0, w0, K0, ev0, eg0, ei0, ek0, ew0, ea0, en0, es0, er0, et0⟩ := AtF.field [] g3 hn (i := i) (us1 := []) (u := (.lst l0)) (us2 := [(.lst l1)]) hx0 rfl rfl
  simp only [V.slc.injEq, Option.some.injEq, Prod.mk.injEq] at ev0
  obtain ⟨⟨rfl, rfl⟩, _⟩ := ev0
  simp only [shEntry, Sh.size_st, Sh.sizes_cons, Sh.sizes_nil, Sh.size_str, Sh.size_slice, Sh.size_int, Sh.size_bool, List.cons_append, List.nil_append, Nat.reduceAdd, Nat.add_zero] at eg0 ew0 et0 er0
  obtain ⟨G0, q0, ln0, fr0, ma0⟩ := Nh G [w0] _ K0 kk ea0 en0 (by simp only [gu, dE]; omega)
  simp only [aG, List.headD_cons] at q0
  have ld0 := aY eg0 ew0
  have A0 := er0 G0 (.lst (bM l0 kk)) (fun q _ hq => fr0 q hq) ma0
  have ln0 : G0.length = H.length := by rw [ln0]; first | exact g1 | exact ln-1
  have fr0 : ∀ q, q ∉ F → G0[q]? = H[q]? := fun q hq => by rw [fr0 q fun h => hq (es0 q h)]; first | exact g2 q hq | exact fr0 q hq
  obtain ⟨kk0, hkk0⟩ : ∃ n, n = kk + dE (.lst l0) := ⟨_, rfl⟩
  rw [gu, ← hkk0] at q0
  simp only [dE] at hkk0
  have hx0_ : (L.set i (.st [(.lst (bM l0 kk)), (.lst l1)]))[i]? = some (.st [(.lst (bM l0 kk)), (.lst l1)]) := List.getElem?_set_self (by omega)
  obtain ⟨id1, off1, cells1, w1, K1, ev1, eg1, ei1, ek1, ew1, ea1, en1, es1, er1, et1⟩ := AtF.field [(.slice shRdn)] A0 hn (i := i) (us1 := [(.lst (bM l0 kk))]) (u := (.lst l1)) (us2 := []) hx0_ rfl rfl
  simp only [V.slc.injEq, Option.some.injEq, Prod.mk.injEq] at ev1
  obtain ⟨⟨rfl, rfl⟩, _⟩ := ev1
  simp only [shEntry, Sh.size_st, Sh.sizes_cons, Sh.sizes_nil, Sh.size_str, Sh.size_slice, Sh.size_int, Sh.size_bool, List.cons_append, List.nil_append, Nat.reduceAdd, Nat.add_zero] at eg1 ew1 et1 er1
  obtain ⟨G1, q1, ln1, fr1, ma1⟩ := TK G0 [w1] _ K1 kk0 ea1 en1 (by simp only [gu, dE]; omega)
  simp only [aG, List.headD_cons] at q1
  have ld1 := aY eg1 ew1
  have A1 := er1 G1 (.lst (bM l1 kk0)) (fun q _ hq => fr1 q hq) ma1
  have ln1 : G1.length = H.length := by rw [ln1]; first | exact g1 | exact ln0
  have fr1 : ∀ q, q ∉ F → G1[q]? = H[q]? := fun q hq => by rw [fr1 q fun h => hq (es1 q h)]; first | exact g2 q hq | exact fr0 q hq
  obtain ⟨kk1, hkk1⟩ : ∃ n, n = kk0 + dE (.lst l1) := ⟨_, rfl⟩
  rw [gu, ← hkk1] at q1
  simp only [dE] at hkk1
  rw [List.set_set] at A1
  have hx1_ : (L.set i (.st [(.lst (bM l0 kk)), (.lst (bM l1 kk0))]))[i]? = some (.st [(.lst (bM l0 kk)), (.lst (bM l1 kk0))]) := List.getElem?_set_self (by omega)
  have hks : k + aT (l.take (i + 1)) = kk1 := by omega
  rw [show L.set i (.st [(.lst (bM l0 kk)), (.lst (bM l1 kk0))]) = _ from (by simp only [hkk0, hkk1, hkk]; exact hmk)] at A1
  have hw : IntKind.i64.wrap ((i : Int) + 1) = ((i : Int) + 1) := wrap_i64 (by omega) (by omega)
  have hix : i + 1 ≤ l.length := hi
  simp [r0, r1, r5, hi, hw, q0, ld0, q1, ld1, -setRange]
  exact ⟨m, by omega, i + 1, by omega, _, _, ⟨rfl, rfl⟩, by simp [r0], by simp; omega, by simp, ln1, fr1, A1⟩
theorem yu : uI 111 (.slice shEntry) := by
 intro H cs u k h hk
 obtain ⟨v, l', rfl, hu, hlen, hv⟩ := aj.1 h
 obtain ⟨l, rfl, rfl⟩ := pU hu
 apply Ret.eq
 rw [abV]
 simp only [dF] at hk ⊢
 have hl64 : (bM l k).length ≤ 9223372036854775807 := hlen
 rw [dO] at hl64
 have hvl := fun {e s b : Nat} {z : List V} => hv.len (e := e) (s := s) (b := b) (z := z)
 simp only [dO] at hvl
 simp [FM, Tryz.f111, aG]
 refine aA (fun m σ => ∃ (i kk : Nat) (r : Nat → R), i + m = l.length ∧ kk = k + aT (l.take i) ∧ σ = ⟨r, 0, H⟩ ∧ r 0 = .val v ∧ r 1 = .val (.int .i64 kk) ∧ r 5 = .val (.int .i64 i)) ?_ l.length _ ⟨0, k, _, by simp, by simp [aT], rfl, by simp, by simp, by simp⟩
 rintro m σ ⟨i, kk, r, him, hkk, rfl, r0, r1, r5⟩
 cases m with
 | zero =>
  have hi : i = l.length := by omega
  subst hi
  rw [List.take_length] at hkk
  simp [r0, r1, r5, hvl, hkk]
 | succ m =>
  have hi : i < l.length := by omega
  obtain ⟨x, hx⟩ : ∃ x, l[i]? = some x := ⟨l[i], by simp [hi]⟩
  obtain ⟨eid, o, own, cells, e1, e2, e3, e0⟩ := hv.idx (qW hx) (by decide)
  rw [← hkk] at e0
  have hcnt := fM hx
  have hle := dI (l := l) (i := i + 1)
  have hid : eid < H.length := (List.getElem?_eq_some_iff.1 e2).1
  have hw : IntKind.i64.wrap ((i : Int) + 1) = ((i : Int) + 1) := wrap_i64 (by omega) (by omega)
  obtain ⟨us0, hu0, E0⟩ := bV.1 e0
  obtain ⟨us0, rfl, rfl⟩ := Gu hu0
  obtain ⟨c0, d0, u0, rr0, hc0, hu, h0, E1⟩ := ag.1 E0
  obtain ⟨u0, us0, rfl, rfl, rfl⟩ := iH hu
  have k0 := h0
  obtain ⟨v0, l0, rfl, hs, _, _⟩ := aj.1 h0
  obtain ⟨m0, rfl, rfl⟩ := sN hs
  obtain ⟨kk1, hkk1⟩ : ∃ n, n = kk + dE (.lst m0) := ⟨_, rfl⟩
  rw [← hkk1] at E1
  obtain ⟨c1, d1, u1, rr1, rfl, hu, h1, E2⟩ := ag.1 E1
  obtain ⟨u1, us0, rfl, rfl, rfl⟩ := iH hu
  have k1 := h1
  obtain ⟨v1, l1, rfl, hs, _, _⟩ := aj.1 h1
  obtain ⟨m1, rfl, rfl⟩ := sN hs
  obtain ⟨kk2, hkk2⟩ : ∃ n, n = kk1 + dE (.lst m1) := ⟨_, rfl⟩
  rw [← hkk2] at E2
  obtain ⟨rfl, hun⟩ := aO.1 E2
  obtain rfl := wK hun
  simp only [List.cons_append, List.nil_append, List.append_nil] at hc0
  simp only [yV, gY, je, wP, vZ, sV, Nat.add_zero] at hcnt hkk1 hkk2
  have ld0 := aY e2 (by simpa using aX hc0 (j := 0) rfl)
  have q0 := O8 H [v0] (.lst m0) kk k0 (by rw [gu]; omega)
  rw [gu, ← hkk1] at q0
  simp only [aG, List.headD_cons] at q0
  have p0 : ¬ ((kk1 : Int) < 0) := by omega
  have ld1 := aY e2 (by simpa using aX hc0 (j := 1) rfl)
  have q1 := J4 H [v1] (.lst m1) kk1 k1 (by rw [gu]; omega)
  rw [gu, ← hkk2] at q1
  simp only [aG, List.headD_cons] at q1
  have p1 : ¬ ((kk2 : Int) < 0) := by omega
  rw [show (shEntry).size = 2 from rfl] at e1
  simp [r0, r1, r5, hi, hvl, e1, hid, hw, ld0, q0, p0, ld1, q1, p1]
  exact ⟨m, by omega, i + 1, by omega, by omega, by omega⟩
theorem Nb : Gw 40 dL := by
 intro H cs u F k h hn hk
 replace h := eQ.1 h
 obtain ⟨us, rfl, h⟩ := h
 replace h := aC.1 h
 obtain ⟨c0, d0, u0, rr0, F0, E0, rfl, rfl, rfl, h0, h⟩ := h
 replace h := aC.1 h
 obtain ⟨c1, d1, u1, rr1, F1, E1, rfl, rfl, rfl, h1, h⟩ := h
 replace h := dC.1 h
 obtain ⟨rfl, rfl, rfl⟩ := h
 have k0 := h0
 replace h0 := aF.1 h0
 obtain ⟨v0, l0, rfl, rfl, w0, hv0⟩ := h0
 have o0 := (aj.1 (AtF.at _ k0))
 obtain ⟨_, _, x1, x2, _, o0⟩ := o0
 cases x1
 cases x2
 have o0 := o0.one
 have k1 := h1
 replace h1 := aF.1 h1
 obtain ⟨v1, l1, rfl, rfl, w1, hv1⟩ := h1
 have o1 := (aj.1 (AtF.at _ k1))
 obtain ⟨_, _, x1, x2, _, o1⟩ := o1
 cases x1
 cases x2
 have o1 := o1.one
 simp only [vJ, ng, oJ, Ap, rC, xu, Nat.zero_add] at hk
 simp only [List.nil_append, List.append_nil] at hn
 have hn0 := hn
 obtain ⟨nd0, hn0, dj0⟩ := List.nodup_append.1 hn0
 have nd1 := hn0
 obtain ⟨H0, q0, len0, fr0, k0'⟩ := Pg H _ _ _ (k) k0 nd0 (by omega)
 simp only [aG, List.headD_cons, List.append_nil, List.cons_append, List.nil_append, Int.natCast_add] at q0
 have k1 := AtF.frame _ (H' := H0) (fun q hq2 => fr0 q (fun hq1 => dj0 q hq1 q hq2 rfl)) k1
 obtain ⟨H1, q1, len1, fr1, k1'⟩ := Dk H0 _ _ _ (k + dF (.lst l0)) k1 nd1 (by omega)
 simp only [aG, List.headD_cons, List.append_nil, List.cons_append, List.nil_append, Int.natCast_add] at q1
 have k0' := AtF.frame _ (H' := H1) (fun q hq2 => fr1 q (fun hq1 => dj0 q hq2 q hq1 rfl)) k0'
 have hK : k + dF (U.st [(.lst l0), (.lst l1)]) = k + dF (.lst l0) + dF (.lst l1) := by simp only [vJ, ng, oJ, Ap, rC, xu, Nat.zero_add]; omega
 have hA : AtF H1 dL _ _ _ := eQ.2 ⟨_, rfl, aC.2 ⟨[_], _, _, _, F0, _, rfl, rfl, rfl, k0', aC.2 ⟨[_], _, _, _, F1, _, rfl, rfl, rfl, k1', dC.2 ⟨rfl, rfl, rfl⟩⟩⟩⟩
 simp only [List.append_nil, List.nil_append, List.cons_append] at hA
 have hl : H1.length = H.length := by rw [len1, len0]
 have hfr : ∀ q, q ∉ F0 ++ (F1) → H1[q]? = H[q]? := by
  intro q hq
  try simp only [List.mem_append, not_or] at hq
  rw [fr1 q hq.2, fr0 q hq.1]
 apply Ret.mark
 rw [aon, hK]
 simp [Kt, Tryz.f40, aG, nX hl, q0, q1, o0, o1]
 exact ⟨hl, by simpa using hfr, hA⟩
theorem NH : uI 110 dL := by
 intro H cs u k h hk
 obtain ⟨us, hu, h⟩ := bV.1 h
 obtain ⟨us, rfl, rfl⟩ := RJ hu
 obtain ⟨c0, d0, u0, r0, rfl, hu, h0, h⟩ := ag.1 h
 obtain ⟨u0, us, rfl, rfl, rfl⟩ := oQ hu
 obtain ⟨c1, d1, u1, r1, rfl, hu, h1, h⟩ := ag.1 h
 obtain ⟨u1, us, rfl, rfl, rfl⟩ := oQ hu
 obtain ⟨rfl, hu⟩ := aO.1 h
 obtain rfl := JC hu
 have k0 := h0
 obtain ⟨v0, l0, rfl, hu, _, hv0⟩ := aj.1 h0
 have o0 := hv0.one
 obtain ⟨m0, rfl, rfl⟩ := pU hu
 have k1 := h1
 obtain ⟨v1, l1, rfl, hu, _, hv1⟩ := aj.1 h1
 have o1 := hv1.one
 obtain ⟨m1, rfl, rfl⟩ := pU hu
 simp only [vJ, ng, oJ, Ap, rC, xu, Nat.zero_add, Nat.add_zero] at *
 have q0 := Js H _ _ (k) k0 (by omega)
 simp only [aG, List.headD_cons, List.append_nil, List.cons_append, List.nil_append, Int.natCast_add] at q0
 have p0 : ¬ (((k + dF (.lst m0) : Nat) : Int) < 0) := by omega
 simp only [Int.natCast_add] at p0
 have q1 := yu H _ _ (k + dF (.lst m0)) k1 (by omega)
 simp only [aG, List.headD_cons, List.append_nil, List.cons_append, List.nil_append, Int.natCast_add] at q1
 have p1 : ¬ (((k + dF (.lst m0) + dF (.lst m1) : Nat) : Int) < 0) := by omega
 simp only [Int.natCast_add] at p1
 have hK : k + (dF (.lst m0) + (dF (.lst m1))) = k + dF (.lst m0) + dF (.lst m1) := by omega
 rw [hK]
 apply Ret.eq
 rw [XZ]
 simp [ED, Tryz.f110, aG, q0, p0, q1, p1, o0, o1]
theorem DJ {t : Str} {H : List Ob} (ht : t.length ≤ 1000) : callW C 324 [.str t] H = some (.bool (dec (Plain t)), H) := by
 apply Ret.dec
 rw [QA]
 simp [pJ, Tryz.f324]
 refine aA (fun k σ => ∃ (i : Nat) (r : Nat → R), i + k = t.length ∧ σ = ⟨r, 0, H⟩ ∧ r 0 = .val (.str t) ∧ r 3 = .val (.int .i64 i) ∧ ∀ j, j < i → ∀ c, t[j]? = some c → qG c) ?_ t.length _ ⟨0, _, by simp, rfl, by simp, by simp, by simp⟩
 rintro k σ ⟨i, r, hik, rfl, r0, r3, hall⟩
 cases k with
 | zero =>
  have hi : i = t.length := by omega
  subst hi
  simp [r0, r3]
  intro j c hc
  exact hall j (List.getElem?_eq_some_iff.1 hc).1 c hc
 | succ k =>
  have hi : i < t.length := by omega
  obtain ⟨c, hc⟩ : ∃ c, t[i]? = some c := ⟨t[i], by simp [hi]⟩
  have hc' : t[i] = c := (List.getElem?_eq_some_iff.1 hc).2
  have hw : IntKind.i64.wrap ((i : Int) + 1) = ((i : Int) + 1) := wrap_i64 (by omega) (by omega)
  by_cases h1 : (c.toNat : Int) < 32
  ·simp [r0, r3, hi, hc', h1]
   intro hp
   have := (hp i c hc).1
   omega
  ·by_cases h2 : (c.toNat : Int) > 126
   ·simp [r0, r3, hi, hc', h1, h2]
    intro hp
    have := (hp i c hc).2
    omega
   ·simp [r0, r3, hi, hc', h1, h2, hw]
    exact ⟨k, by omega, i + 1, by omega, by omega, pz (P := fun _ c => qG c) hall hc ⟨by omega, by omega⟩⟩
theorem ET {t : Str} {H : List Ob} (ht : t.length ≤ 1000) : callW C 289 [.str t] H = some (.bool (dec (Plain t)), H) := by
 apply Ret.dec
 rw [Rh]
 simp [pG, Tryz.f289]
 refine aA (fun k σ => ∃ (i : Nat) (r : Nat → R), i + k = t.length ∧ σ = ⟨r, 0, H⟩ ∧ r 0 = .val (.str t) ∧ r 5 = .val (.int .i64 t.length) ∧ r 6 = .val (.int .i64 i) ∧ ∀ j, j < i → ∀ c, t[j]? = some c → qG c) ?_ t.length _ ⟨0, _, by simp, rfl, by simp, by simp, by simp, by simp⟩
 rintro k σ ⟨i, r, hik, rfl, r0, r5, r6, hall⟩
 cases k with
 | zero =>
  have hi : i = t.length := by omega
  subst hi
  simp [r0, r5, r6]
  intro j c hc
  exact hall j (List.getElem?_eq_some_iff.1 hc).1 c hc
 | succ k =>
  have hi : i < t.length := by omega
  obtain ⟨c, hc⟩ : ∃ c, t[i]? = some c := ⟨t[i], by simp [hi]⟩
  have hc' : t[i] = c := (List.getElem?_eq_some_iff.1 hc).2
  have hw : IntKind.i64.wrap ((i : Int) + 1) = ((i : Int) + 1) := wrap_i64 (by omega) (by omega)
  by_cases h1 : (c.toNat : Int) < 32
  ·simp [r0, r5, r6, hi, hc', h1]
   intro hp
   have := (hp i c hc).1
   omega
  ·by_cases h2 : (c.toNat : Int) > 126
   ·simp [r0, r5, r6, hi, hc', h1, h2]
    intro hp
    have := (hp i c hc).2
    omega
   ·simp [r0, r5, r6, hi, hc', h1, h2, hw]
    exact ⟨k, by omega, i + 1, by omega, by omega, pz (P := fun _ c => qG c) hall hc ⟨by omega, by omega⟩⟩
theorem xM {t : Str} {H : List Ob} : callW C 77 [.str t] H = some (.bool (dec (aQ t)), H) := by
 apply Ret.dec
 rw [V4]
 by_cases g1 : (t.length : Int) < 1
 ·have g2 : ¬ aQ t := fun h => by have := h.1; omega
  simp [nz, Tryz.f77, g1, g2]
 by_cases g2 : (t.length : Int) > 20
 ·have g3 : ¬ aQ t := fun h => by have := h.2.1; omega
  simp [nz, Tryz.f77, g1, g2, g3]
 simp [nz, Tryz.f77, g1, g2]
 refine aA (fun k σ => ∃ (i : Nat) (r : Nat → R), i + k = t.length ∧ σ = ⟨r, 0, H⟩ ∧ r 0 = .val (.str t) ∧ r 3 = .val (.int .i64 i) ∧ ∀ j, j < i → ∀ c, t[j]? = some c → tH c ∨ (0 < j ∧ (qN c ∨ c.toNat = 95))) ?_ t.length _ ⟨0, _, by simp, rfl, by simp, by simp, by simp⟩
 rintro k σ ⟨i, r, hik, rfl, r0, r3, hall⟩
 cases k with
 | zero =>
  have hi : i = t.length := by omega
  subst hi
  have hok : aQ t := ⟨by omega, by omega, fun j c hc => hall j (List.getElem?_eq_some_iff.1 hc).1 c hc⟩
  simp [r0, r3, hok]
 | succ k =>
  have hi : i < t.length := by omega
  obtain ⟨c, hc⟩ : ∃ c, t[i]? = some c := ⟨t[i], by simp [hi]⟩
  have hc' : t[i] = c := (List.getElem?_eq_some_iff.1 hc).2
  have hw : IntKind.i64.wrap ((i : Int) + 1) = ((i : Int) + 1) := wrap_i64 (by omega) (by omega)
  have hgo : tH c ∨ (0 < i ∧ (qN c ∨ c.toNat = 95)) → ∃ k', k' < k + 1 ∧ ∃ i', i' + k' = t.length ∧ (i : Int) + 1 = i' ∧ ∀ j, j < i' → ∀ c, t[j]? = some c → tH c ∨ (0 < j ∧ (qN c ∨ c.toNat = 95)) := fun h =>
   ⟨k, by omega, i + 1, by omega, by omega, pz (P := fun j c => tH c ∨ (0 < j ∧ (qN c ∨ c.toNat = 95))) hall hc h⟩
  by_cases h1 : tH c
  ·have h1a : (c.toNat : Int) ≥ 97 := by have := h1.1; omega
   have h1b : (c.toNat : Int) ≤ 122 := by have := h1.2; omega
   simp [r0, r3, hi, hc', h1a, h1b, hw]
   exact hgo (.inl h1)
  have hl : (¬ (c.toNat : Int) ≥ 97) ∨ ((c.toNat : Int) ≥ 97 ∧ ¬ (c.toNat : Int) ≤ 122) := by unfold tH at h1; omega
  have hno : ¬ (0 < i ∧ (qN c ∨ c.toNat = 95)) → ¬ aQ t := fun h hk => (hk.2.2 i c hc).elim h1 h
  by_cases h2 : i = 0
  ·have hno := hno (by omega)
   subst h2
   rcases hl with hl | ⟨hl, hl2⟩
   ·simp [r0, r3, hi, hc', hl, hno]
   ·simp [r0, r3, hi, hc', hl, hl2, hno]
  have h2' : ¬ (i : Int) = 0 := by omega
  by_cases h3 : qN c
  ·have h3a : (c.toNat : Int) ≥ 48 := by have := h3.1; omega
   have h3b : (c.toNat : Int) ≤ 57 := by have := h3.2; omega
   have h3c : ¬ (c.toNat : Int) ≥ 97 := by omega
   simp [r0, r3, hi, hc', h2, h3a, h3b, h3c, hw]
   exact hgo (.inr ⟨by omega, .inl h3⟩)
  have hd : (¬ (c.toNat : Int) ≥ 48) ∨ ((c.toNat : Int) ≥ 48 ∧ ¬ (c.toNat : Int) ≤ 57) := by unfold qN at h3; omega
  by_cases h4 : c.toNat = 95
  ·have := hgo (.inr ⟨by omega, .inr h4⟩)
   simp [r0, r3, hi, hc', h2, h4, hw]
   exact this
  ·have h4' : ¬ (c.toNat : Int) = 95 := by omega
   have hno := hno (fun h => h.2.elim h3 h4)
   rcases hl with hl | ⟨hl, hl2⟩ <;> rcases hd with hd | ⟨hd, hd2⟩
   ·simp [r0, r3, hi, hc', h2, h4', hl, hd, hno]
   ·simp [r0, r3, hi, hc', h2, h4', hl, hd, hd2, hno]
   ·simp [r0, r3, hi, hc', h2, h4', hl, hl2, hd, hno]
   ·simp [r0, r3, hi, hc', h2, h4', hl, hl2, hd, hd2, hno]
def setB (l : Str) : List V := (List.range 256).map fun i => V.bool (l.any fun c => c.toNat == i)
theorem fH {l : Str} : (setB l).length = 256 := by simp [setB]
theorem sZ {l : Str} {i : Nat} (h : i < 256) : (setB l)[i]? = some (.bool (l.any fun c => c.toNat == i)) := by
 unfold setB
 rw [List.getElem?_map, List.getElem?_range h]
 rfl
theorem Oa {l : Str} {c : UInt8} : (setB l)[c.toNat]? = some (.bool (decide (c ∈ l))) := by
 rw [sZ c.toNat_lt]
 congr 2
 rw [Bool.eq_iff_iff]
 simp only [List.any_eq_true, decide_eq_true_eq, beq_iff_eq]
 constructor
 ·rintro ⟨d, hd, he⟩
  rw [← UInt8.toNat_inj.1 he]
  exact hd
 ·intro h
  exact ⟨c, h, rfl⟩
theorem OJ : setB [] = List.replicate 256 (.bool false) := by
 apply List.ext_getElem?
 intro i
 by_cases h : i < 256
 ·rw [sZ h, List.getElem?_replicate, if_pos h]
  rfl
 ·rw [List.getElem?_eq_none (by rw [fH]; omega), List.getElem?_eq_none (by rw [List.length_replicate]; omega)]
theorem setOf_snoc {l : Str} {c : UInt8} : (setB l).set c.toNat (.bool true) = setB (l ++ [c]) := by
 apply List.ext_getElem?
 intro i
 have hc := c.toNat_lt
 by_cases h : i < 256
 ·rw [sZ h]
  by_cases hi : i = c.toNat
  ·subst hi
   rw [List.getElem?_set_self (by rw [fH]; omega)]
   simp
  ·rw [List.getElem?_set_ne (by omega), sZ h]
   congr 2
   have : (c.toNat == i) = false := by simp; omega
   simp [this]
 ·rw [List.getElem?_eq_none (by simp [fH]; omega), List.getElem?_eq_none (by rw [fH]; omega)]
theorem aen {t : Str} {H : List Ob} (ht : ∀ c ∈ t, c.toNat < 128) (hl : t.length ≤ 1000) : callW C 266 [.str t] H = some (.tup [.agg (setB t), .bool true], H) := by
 apply Ret.eq
 rw [ZH]
 simp [Ed, Tryz.f266, -List.reduceReplicate]
 refine aA (fun k σ => ∃ (i : Nat) (r : Nat → R), i + k = t.length ∧ σ = ⟨r, 1, H⟩ ∧ r 0 = .val (.str t) ∧ r 2 = .box 0 (setB (t.take i)) ∧ r 4 = .val (.int .i64 i)) ?_ t.length _ ⟨0, _, by simp, rfl, by simp, by simp [OJ, -List.reduceReplicate], by simp⟩
 rintro k σ ⟨i, r, hik, rfl, r0, r2, r4⟩
 cases k with
 | zero =>
  have hi : i = t.length := by omega
  subst hi
  rw [List.take_length] at r2
  have htk : (setB t).take 256 = setB t := List.take_of_length_le (by rw [fH]; omega)
  have hdr : (setB t).drop 256 = [] := List.drop_of_length_le (by rw [fH]; omega)
  have hall : ∀ x ∈ setB t, aP x = true := fun x hx => by
   simp only [setB, List.mem_map] at hx
   obtain ⟨_, _, rfl⟩ := hx
   rfl
  simp [r0, r2, r4, fH, htk, hdr, if_pos hall, -List.reduceReplicate]
 | succ k =>
  have hi : i < t.length := by omega
  obtain ⟨c, hc⟩ : ∃ c, t[i]? = some c := ⟨t[i], by simp [hi]⟩
  have hc' : t[i] = c := (List.getElem?_eq_some_iff.1 hc).2
  have hw : IntKind.i64.wrap ((i : Int) + 1) = ((i : Int) + 1) := wrap_i64 (by omega) (by omega)
  have h128 : c.toNat < 128 := ht c (List.mem_of_getElem? hc)
  have h1 : ¬ (c.toNat : Int) ≥ 128 := by omega
  have h2 : (c.toNat : Int) < 256 := by omega
  have h3 : c.toNat < 256 := by omega
  have hs : setRange (setB (t.take i)) c.toNat [.bool true] = setB (t.take (i + 1)) := by rw [lM (by rw [fH]; omega), setOf_snoc, dA hc]
  have h4 : c.toNat + 1 ≤ 256 := by omega
  simp [r0, r2, r4, hi, hc', h1, h2, h3, h4, hw, fH, hs, fQ, -setRange, -List.reduceReplicate]
  exact ⟨k, by omega, i + 1, by omega, rfl, by omega⟩
theorem Q7 {l : Str} {H : List Ob} {id : Nat} {own : Bool} {c : UInt8} (h : H[id]? = some (.mk own 1 (setB l))) : callW C 329 [.ptr (some (id, 0)), .int .u8 c.toNat] H = some (.bool (decide (c ∈ l)), H) := by
 apply Ret.eq
 rw [afU]
 have h2 : (c.toNat : Int) < 256 := by have := c.toNat_lt; omega
 have ld := aY (o := c.toNat) h Oa
 simp [DW, Tryz.f329, fQ, h2, ld, -List.reduceReplicate]
def kset : Str := [97, 98, 99, 100, 101, 102, 103, 104, 105, 106, 107, 108, 109, 110, 111, 112, 113, 114, 115, 116, 117, 118, 119, 120, 121, 122, 48, 49, 50, 51, 52, 53, 54, 55, 56, 57, 95]
theorem Ag {c : UInt8} : c ∈ kset ↔ tH c ∨ qN c ∨ c.toNat = 95 := by
 unfold kset tH qN
 simp only [List.mem_cons, List.not_mem_nil, or_false, ← UInt8.toNat_inj]
 have h := c.toNat_lt
 simp only [UInt8.toNat_ofNat, Nat.reducePow, Nat.reduceMod]
 omega
def nN (t : Str) : Prop := ∀ c ∈ t, c ∈ kset
theorem aeG {t : Str} {H : List Ob} {id : Nat} {own : Bool} (h : H[id]? = some (.mk own 1 (setB kset))) (hl : t.length ≤ 1000) : ∃ s, callW C 268 [.str t, .ptr (some (id, 0))] H = some (.str s, H) ∧ (nN s ↔ nN t) ∧ (s = [] ∨ ¬ nN s) ∧ s.length ≤ 1000 := by
 suffices hs : Ret C 268 [.str t, .ptr (some (id, 0))] H fun q H' => (∃ s, q = .str s ∧ (nN s ↔ nN t) ∧ (s = [] ∨ ¬ nN s) ∧ s.length ≤ 1000) ∧ H' = H by
  obtain ⟨q, H', hc, ⟨s, rfl, hr⟩, rfl⟩ := hs
  exact ⟨s, hc, hr⟩
 rw [Zv]
 simp [FQ, Tryz.f268, -List.reduceReplicate]
 refine aA (fun k σ => ∃ (s : Str) (r : Nat → R), s.length = k ∧ σ = ⟨r, 0, H⟩ ∧ r 0 = .val (.str s) ∧ r 1 = .val (.ptr (some (id, 0))) ∧ (nN s ↔ nN t) ∧ s.length ≤ 1000) ?_ t.length _ ⟨t, _, rfl, rfl, by simp, by simp, Iff.rfl, hl⟩
 rintro k σ ⟨s, r, hk, rfl, r0, r1, hall, hs⟩
 cases k with
 | zero =>
  have hs0 : s = [] := List.length_eq_zero_iff.1 hk
  subst hs0
  simp [r0, r1]
  exact hall
 | succ k =>
  have hp : (0 : Int) < (s.length : Int) := by omega
  have hne : s ≠ [] := by rintro rfl; simp at hk
  obtain ⟨d, hd⟩ : ∃ d, s.getLast hne = d := ⟨_, rfl⟩
  have hd' : s[s.length - 1]? = some d := by rw [← List.getLast?_eq_getElem?, List.getLast?_eq_some_getLast hne, hd]
  have hd2 : s[s.length - 1]'(by omega) = d := (List.getElem?_eq_some_iff.1 hd').2
  have hw1 : IntKind.i64.wrap ((s.length : Int) - 1) = (s.length : Int) - 1 := wrap_i64 (by omega) (by omega)
  have h3 : (1 : Int) ≤ (s.length : Int) := by omega
  have h4 : ((s.length : Int) - 1).toNat = s.length - 1 := by omega
  have h5 : s.length - 1 < s.length := by omega
  have c1 := Q7 (c := d) h
  have hdrop : s = s.take (s.length - 1) ++ [d] := by
   have := dA hd'
   rw [show s.length - 1 + 1 = s.length by omega, List.take_length] at this
   exact this
  by_cases hm : d ∈ kset
  ·have h6 : s.length - 1 ≤ s.length := by omega
   simp [r0, r1, hp, hne, hw1, h3, h4, h5, h6, hd2, hd', c1, hm, -List.reduceReplicate]
   refine ⟨by omega, k, by omega, _, by simp; omega, rfl, ?_, by simp; omega⟩
   rw [← hall]
   constructor
   ·intro hA c hc
    rw [hdrop] at hc
    rcases List.mem_append.1 hc with hc | hc
    ·exact hA c hc
    ·simp at hc; rw [hc]; exact hm
   ·intro hA c hc
    exact hA c (List.mem_of_mem_take hc)
  ·have hn : ¬ nN s := fun hA => hm (hA d (List.mem_of_getElem? hd'))
   simp [r0, r1, hp, hne, hw1, h3, h4, h5, hd2, hd', c1, hm, -List.reduceReplicate]
   exact ⟨by omega, hall, hn, hs⟩
theorem ahT {t : Str} {H : List Ob} {id : Nat} {own : Bool} (h : H[id]? = some (.mk own 1 (setB kset))) (hl : t.length ≤ 1000) : ∃ s, callW C 267 [.str t, .ptr (some (id, 0))] H = some (.str s, H) ∧ (nN s ↔ nN t) ∧ (s = [] ∨ ¬ nN s) := by
 suffices hs : Ret C 267 [.str t, .ptr (some (id, 0))] H fun q H' => (∃ s, q = .str s ∧ (nN s ↔ nN t) ∧ (s = [] ∨ ¬ nN s)) ∧ H' = H by
  obtain ⟨q, H', hc, ⟨s, rfl, hr⟩, rfl⟩ := hs
  exact ⟨s, hc, hr⟩
 rw [Xg]
 simp [EC, Tryz.f267, -List.reduceReplicate]
 refine aA (fun k σ => ∃ (s : Str) (r : Nat → R), s.length = k ∧ σ = ⟨r, 0, H⟩ ∧ r 0 = .val (.str s) ∧ r 1 = .val (.ptr (some (id, 0))) ∧ (nN s ↔ nN t)) ?_ t.length _ ⟨t, _, rfl, rfl, by simp, by simp, Iff.rfl⟩
 rintro k σ ⟨s, r, hk, rfl, r0, r1, hall⟩
 cases k with
 | zero =>
  have hs0 : s = [] := List.length_eq_zero_iff.1 hk
  subst hs0
  simp [r0, r1]
  exact hall
 | succ k =>
  match s, hk with
  | d :: s, hk =>
  have hk' : s.length = k := by simpa using hk
  have c1 := Q7 (c := d) h
  have hp : (0 : Int) < (s.length : Int) + 1 := by omega
  by_cases hm : d ∈ kset
  ·simp [r0, r1, hp, c1, hm, -List.reduceReplicate]
   refine ⟨k, by omega, s, hk', rfl, ?_⟩
   rw [← hall]
   constructor
   ·intro hA c hc
    rcases List.mem_cons.1 hc with rfl | hc
    ·exact hm
    ·exact hA c hc
   ·intro hA c hc
    exact hA c (List.mem_cons_of_mem _ hc)
  ·have hn : ¬ nN (d :: s) := fun hA => hm (hA d List.mem_cons_self)
   simp [r0, r1, hp, c1, hm, -List.reduceReplicate]
   exact ⟨hall, hn⟩
theorem vX {c : UInt8} (h1 : 65 ≤ c.toNat) (h2 : c.toNat ≤ 90) : IntKind.u8.wrap ((c.toNat : Int) + 32) = ((jY c).toNat : Int) := by
 have : jY c = c + 32 := by unfold jY; rw [if_pos ⟨h1, h2⟩]
 rw [this]
 unfold IntKind.wrap
 simp [IntKind.bits, IntKind.signed, UInt8.toNat_add]
theorem oP {c : UInt8} (h1 : 65 ≤ c.toNat) (h2 : c.toNat ≤ 90) : (jY c).toNat = c.toNat + 32 := by
 have : jY c = c + 32 := by unfold jY; rw [if_pos ⟨h1, h2⟩]
 rw [this, UInt8.toNat_add]
 have : c.toNat + 32 < 256 := by omega
 simp
 omega
theorem wB {c : UInt8} (h : ¬ (65 ≤ c.toNat ∧ c.toNat ≤ 90)) : jY c = c := by unfold jY; rw [if_neg h]
theorem mM {c : UInt8} : c = 32 ↔ c.toNat = 32 := ⟨fun h => by rw [h]; rfl, fun h => UInt8.toNat_inj.1 h⟩
theorem nG {t : Str} {i : Nat} {c : UInt8} (h : t[i]? = some c) (f : Str → UInt8 → Str) (b : Str) : (t.take (i + 1)).foldl f b = f ((t.take i).foldl f b) c := by
 rw [dA h, List.foldl_append]
 rfl
theorem eF {b : Str} {d : UInt8} (h : b.getLast? = some d) : nY b = true ↔ d = 32 := by
 unfold nY
 rw [h]
 simp
theorem kN {b : Str} (h : b ≠ []) : ∃ d, b.getLast? = some d := ⟨b.getLast h, List.getLast?_eq_some_getLast h⟩
theorem jJ {t : Str} {H : List Ob} : callW C 250 [.str t] H = some (.str (norm t), H) := by
 apply Ret.eq
 rw [PP]
 by_cases g1 : (t.length : Int) > 100
 ·have : norm t = [] := by unfold norm; rw [if_neg (by omega)]
  simp [kw, Tryz.f250, g1, this]
 have hp := DJ (t := t) (H := H) (by omega)
 by_cases g2 : Plain t
 rotate_left
 ·rw [ak g2] at hp
  have : norm t = [] := by unfold norm; rw [ak g2]; simp
  simp [kw, Tryz.f250, g1, hp, this]
 rw [au g2] at hp
 have hn : norm t = nK (t.foldl bi []) := by unfold norm; rw [if_pos ⟨by omega, au g2⟩]
 have hbz : ∀ i, ((t.take i).foldl bi []).length ≤ 100 := fun i => by
  have := mD (t.take i) []
  simp at this
  omega
 simp [kw, Tryz.f250, g1, hp, aJ, aH, ax, St.new]
 refine aA (fun k σ => ∃ (i : Nat) (r : Nat → R) (G : List Ob) (v : V), i + k = t.length ∧ σ = ⟨r, 0, G⟩ ∧ r 0 = .val (.str t) ∧ r 3 = .val v ∧ r 4 = .val (.int .i64 i) ∧ Bs H G v ((t.take i).foldl bi [])) ?_ t.length _ ⟨0, _, _, _, by simp, rfl, by simp, by simp, by simp, Bs.init⟩
 rintro k σ ⟨i, r, G, v, hik, rfl, r0, r3, r4, hB⟩
 have hbl := hbz i
 generalize hb : (t.take i).foldl bi [] = b at hB hbl
 have hw1 : IntKind.i64.wrap ((b.length : Int) - 1) = (b.length : Int) - 1 := wrap_i64 (by omega) (by omega)
 cases k with
 | zero =>
  have hi : i = t.length := by omega
  subst hi
  rw [List.take_length] at hb
  rw [hb] at hn
  obtain ⟨TT, rfl⟩ := hB.ext
  by_cases hb0 : b = []
  ·subst hb0
   obtain ⟨id, rfl, hst, hsl⟩ := hB.cut (n := 0) (Nat.le_refl _)
   simp [r0, r3, r4, hsl, isByte, kz, hn, nK, nY]
  ·obtain ⟨d, hd⟩ := kN hb0
   have hb1 : 0 < b.length := List.length_pos_iff.2 hb0
   have hb2 : 0 < (b.length : Int) := by omega
   have hb3 : (1 : Int) ≤ (b.length : Int) := by omega
   have hb5 : (b.length : Int) - 1 < (b.length : Int) := by omega
   have hb4 : ((b.length : Int) - 1).toNat = b.length - 1 := by omega
   obtain ⟨id, rfl, hld⟩ := hB.last hd
   by_cases hd32 : d = 32
   ·obtain ⟨_, hv, hst, hsl⟩ := hB.cut (n := b.length - 1) (by omega)
    cases hv
    have he : nK b = b.take (b.length - 1) := by unfold nK; rw [if_pos ((eF hd).2 hd32), List.dropLast_eq_take]
    have hd' : (d.toNat : Int) = 32 := by rw [hd32]; rfl
    simp [r0, r3, r4, hb0, hb1, hb2, hb3, hb4, hb5, hw1, hld, hd', hst, hsl, isByte, kz, hn, he]
   ·obtain ⟨_, hv, hst, hsl⟩ := hB.cut (n := b.length) (Nat.le_refl _)
    cases hv
    have he : nK b = b := by unfold nK; rw [if_neg (fun h => hd32 ((eF hd).1 h))]
    have hd' : ¬ (d.toNat : Int) = 32 := by have := mt mM.2 hd32; omega
    rw [List.take_length] at hsl
    simp [r0, r3, r4, hb0, hb1, hb2, hb3, hb4, hb5, hw1, hld, hd', hst, hsl, isByte, kz, hn, he]
 | succ k =>
  have hi : i < t.length := by omega
  obtain ⟨c, hc⟩ : ∃ c, t[i]? = some c := ⟨t[i], by simp [hi]⟩
  have hc' : t[i] = c := (List.getElem?_eq_some_iff.1 hc).2
  have hw : IntKind.i64.wrap ((i : Int) + 1) = ((i : Int) + 1) := wrap_i64 (by omega) (by omega)
  have hfs := nG hc bi []
  rw [hb] at hfs
  have hgo : ∀ G' v', Bs H G' v' (bi b c) → ∃ k', k' < k + 1 ∧ ∃ i', i' + k' = t.length ∧ (i : Int) + 1 = i' ∧ Bs H G' v' ((t.take i').foldl bi []) := fun G' v' h =>
   ⟨k, by omega, i + 1, by omega, by omega, by rw [hfs]; exact h⟩
  by_cases hup : 65 ≤ c.toNat ∧ c.toNat ≤ 90
  ·have hu1 : (c.toNat : Int) ≥ 65 := by omega
   have hu2 : (c.toNat : Int) ≤ 90 := by omega
   have hlw := vX hup.1 hup.2
   have hl32 : ¬ ((jY c).toNat : Int) = 32 := by rw [oP hup.1 hup.2]; omega
   have hns : bi b c = b ++ [jY c] := by unfold bi; rw [if_neg (fun h => hl32 (by rw [mM.1 h.1]; rfl))]
   obtain ⟨v', G', ha, hB'⟩ := hB.push (by omega) (c := jY c) (d := .int .u8) (z := [.int .u8 0]) rfl
   rw [← hns] at hB'
   simp [r0, r3, r4, hi, hc', hu1, hu2, hlw, hl32, aJ, aH, ax, St.new, gG, ha, hw]
   obtain ⟨k', q1, i', q2, q3, q4⟩ := hgo G' v' hB'
   exact ⟨k', q1, i', q2, _, _, ⟨rfl, rfl⟩, by simp [r0], _, by simp [r3], by simp [q3], q4⟩
  have hlc := wB hup
  have hu : (¬ (c.toNat : Int) ≥ 65) ∨ ((c.toNat : Int) ≥ 65 ∧ ¬ (c.toNat : Int) ≤ 90) := by omega
  by_cases h32 : c = 32
  ·have h32' : (c.toNat : Int) = 32 := by rw [h32]; rfl
   have hu1 : ¬ (c.toNat : Int) ≥ 65 := by omega
   by_cases hb0 : b = []
   ·have hns : bi b c = b := by unfold bi; rw [if_pos ⟨by rw [hlc, h32], .inl hb0⟩]
    rw [hns] at hgo
    have hbl0 : b.length = 0 := by rw [hb0]; rfl
    have := hgo G v hB
    simp [r0, r3, r4, hi, hc', h32', hB.len, hbl0, hw]
    obtain ⟨k', q1, i', q2, q3, q4⟩ := this
    exact ⟨k', q1, i', q2, _, _, ⟨rfl, rfl⟩, by simp [r0], _, by simp [r3], by simp [q3], q4⟩
   ·obtain ⟨d, hd⟩ := kN hb0
    have hb1 : 0 < b.length := List.length_pos_iff.2 hb0
    have hb3 : (1 : Int) ≤ (b.length : Int) := by omega
    have hb5 : (b.length : Int) - 1 < (b.length : Int) := by omega
    have hb4 : ((b.length : Int) - 1).toNat = b.length - 1 := by omega
    obtain ⟨id, hv, hld⟩ := hB.last hd
    have hB0 := hB
    subst hv
    by_cases hd32 : d = 32
    ·have hns : bi b c = b := by unfold bi; rw [if_pos ⟨by rw [hlc, h32], .inr ((eF hd).2 hd32)⟩]
     rw [hns] at hgo
     have hd' : (d.toNat : Int) = 32 := by rw [hd32]; rfl
     have := hgo G _ hB
     simp [r0, r3, r4, hi, hc', h32', hb0, hb1, hb3, hb4, hb5, hw1, hld, hd', hw]
     obtain ⟨k', q1, i', q2, q3, q4⟩ := this
     exact ⟨k', q1, i', q2, _, _, ⟨rfl, rfl⟩, by simp [r0], _, by simp [r3], by simp [q3], q4⟩
    ·have hns : bi b c = b ++ [c] := by unfold bi; rw [if_neg (fun h => h.2.elim hb0 (fun h => hd32 ((eF hd).1 h))), hlc]
     have hd' : ¬ (d.toNat : Int) = 32 := by have := mt mM.2 hd32; omega
     obtain ⟨v', G', ha, hB'⟩ := hB.push (by omega) (c := c) (d := .int .u8) (z := [.int .u8 0]) rfl
     rw [← hns] at hB'
     rw [h32'] at ha
     simp [r0, r3, r4, hi, hc', h32', hb0, hb1, hb3, hb4, hb5, hw1, hld, hd', aJ, aH, ax, St.new, gG, ha, hw]
     obtain ⟨k', q1, i', q2, q3, q4⟩ := hgo G' v' hB'
     exact ⟨k', q1, i', q2, _, _, ⟨rfl, rfl⟩, by simp [r0], _, by simp [r3], by simp [q3], q4⟩
  ·have h32' : ¬ (c.toNat : Int) = 32 := by have := mt mM.2 h32; omega
   have hns : bi b c = b ++ [c] := by unfold bi; rw [if_neg (fun h => h32 (hlc ▸ h.1)), hlc]
   obtain ⟨v', G', ha, hB'⟩ := hB.push (by omega) (c := c) (d := .int .u8) (z := [.int .u8 0]) rfl
   rw [← hns] at hB'
   have := hgo G' v' hB'
   rcases hu with hu | ⟨hu, hu2⟩
   ·simp [r0, r3, r4, hi, hc', hu, h32', aJ, aH, ax, St.new, gG, ha, hw]
    obtain ⟨k', q1, i', q2, q3, q4⟩ := this
    exact ⟨k', q1, i', q2, _, _, ⟨rfl, rfl⟩, by simp [r0], _, by simp [r3], by simp [q3], q4⟩
   ·simp [r0, r3, r4, hi, hc', hu, hu2, h32', aJ, aH, ax, St.new, gG, ha, hw]
    obtain ⟨k', q1, i', q2, q3, q4⟩ := this
    exact ⟨k', q1, i', q2, _, _, ⟨rfl, rfl⟩, by simp [r0], _, by simp [r3], by simp [q3], q4⟩
end Go.Proofs.Try1
end
