/- Part 10 of the proof of a law: the interpreter, its soundness, and what functions of the program compute over it. Conditions: none but those that each theorem names. -/
import Derived.Test.YtamgeahibepfnaaGreatDoorJ09
import Derived.Test.YtamgeahibepfnaaGreatDoorJ08
import Derived.Test.YtamgeahibepfnaaGreatDoorJ07
import Derived.Test.YtamgeahibepfnaaGreatDoorJ06

set_option linter.all false
set_option maxRecDepth 20000
set_option maxHeartbeats 40000000
section
namespace Go.Proofs.Try1
open Go Go.Lite
theorem mk_RdnS : MkFn 41 (.slice shRdn) := by
 intro H cs u F k h hn hk
 obtain ⟨v, l, rfl, rfl, hlen, hv⟩ := AtF_slice.1 h
 have hv := (AtF_slice.2 ⟨v, l, rfl, rfl, hlen, hv⟩).at
 obtain ⟨_, _, hx1, hx2, _, hv⟩ := At_slice.1 hv
 cases hx1; cases hx2
 apply Ret.mark
 rw [op41]
 simp only [cntV] at hk
 have hl64 : l.length ≤ 9223372036854775807 := hlen
 simp [code41, Tryz.f41, valC, -setRange]
 refine WP_loop (fun m σ => ∃ (i : Nat) (r : Nat → R) (G : List Ob), i + m = l.length ∧ σ = ⟨r, 0, G⟩ ∧ r 0 = .val v ∧ r 1 = .val (.int .i64 ((k + cntPs (l.take i) : Nat) : Int)) ∧ r 5 = .val (.int .i64 i) ∧ G.length = H.length ∧ (∀ q, q ∉ F → G[q]? = H[q]?) ∧ AtF G (.slice shRdn) [v] (.lst (mkPs (l.take i) k ++ l.drop i)) F) ?_ l.length _ ⟨0, _, H, by simp, rfl, by simp, by simp [cntPs], by simp, rfl, fun _ _ => rfl, by simpa [mkPs] using h⟩
 rintro m σ ⟨i, r, G, him, rfl, r0, r1, r5, g1, g2, g3⟩
 cases m with
 | zero =>
  have hi : i = l.length := by omega
  subst hi
  simp at g3
  simp [r0, r1, r5, hv.len, gcH_len g1, cntV, mkV]
  exact ⟨g1, g2, g3⟩
 | succ m =>
  have hi : i < l.length := by omega
  obtain ⟨x, hx⟩ : ∃ x, l[i]? = some x := ⟨l[i], by simp [hi]⟩
  have hx0 : (mkPs (l.take i) k ++ l.drop i)[i]? = some x := by rw [mk_get hi, hx]
  have hmk := mk_set (k := k) hx
  have hcnt := cntPs_take hx
  have hle := cntPs_take_le (l := l) (i := i + 1)
  have hL : (mkPs (l.take i) k ++ l.drop i).length = l.length := by simp [mkPs_len]; omega
  obtain ⟨L, hLd⟩ : ∃ L, L = mkPs (l.take i) k ++ l.drop i := ⟨_, rfl⟩
  rw [← hLd] at hx0 hmk hL g3
  clear hLd
  obtain ⟨id, off, cells, K, e0, e1, e2, e3, e4, e5, e6, e7, e8⟩ := AtF.elem g3 hn hx0
  clear e1 e2 e4 e5 e7 e8
  rw [hL] at e0
  subst e0
  generalize List.take (shRdn).size (List.drop (off + i * (shRdn).size) cells) = cc at e3
  replace e3 := AtF_st.1 e3
  obtain ⟨us, rfl, e3⟩ := e3
  replace e3 := AtsF_cons.1 e3
  obtain ⟨c0, d0, u0, rr0, F0, E0, rfl, rfl, rfl, h0, e3⟩ := e3
  replace e3 := AtsF_cons.1 e3
  obtain ⟨c1, d1, u1, rr1, F1, E1, rfl, rfl, rfl, h1, e3⟩ := e3
  replace e3 := AtsF_nil.1 e3
  obtain ⟨rfl, rfl, rfl⟩ := e3
  replace h0 := AtF_str.1 h0
  obtain ⟨⟨s0, rfl, rfl, w0⟩, rfl⟩ := h0
  replace h1 := AtF_str.1 h1
  obtain ⟨⟨s1, rfl, rfl, w1⟩, rfl⟩ := h1
  simp only [cntP, cntPs_cons, cntPs_nil, Nat.add_zero] at hcnt
  obtain ⟨kk, hkk⟩ : ∃ kk, kk = k + cntPs (l.take i) := ⟨_, rfl⟩
  rw [← hkk] at r1
  obtain ⟨id0, off0, cells0, w0, K0, ev0, eg0, ei0, ek0, ew0, ea0, en0, es0, er0, et0⟩ := AtF.field [] g3 hn (i := i) (us1 := []) (u := (.str s0)) (us2 := [(.str s1)]) hx0 rfl rfl
  simp only [V.slc.injEq, Option.some.injEq, Prod.mk.injEq] at ev0
  obtain ⟨⟨rfl, rfl⟩, _⟩ := ev0
  simp only [shRdn, Sh.size_st, Sh.sizes_cons, Sh.sizes_nil, Sh.size_str, Sh.size_slice, Sh.size_int, Sh.size_bool, List.cons_append, List.nil_append, Nat.reduceAdd, Nat.add_zero] at eg0 ew0 et0 er0
  obtain ⟨_, rfl⟩ := AtF_str.1 ea0
  have q0 := markText (H := G) (k := kk) (by omega)
  have st0 := store1 (v := (.str (markStr kk))) eg0 (List.getElem?_eq_some_iff.1 ew0).1 rfl rfl
  have A0 := et0 (.str (markStr kk)) (.str (markStr kk)) (AtF_str.2 ⟨⟨_, rfl, rfl, mark_ok (by omega)⟩, rfl⟩)
  obtain ⟨G0, hG0⟩ : ∃ G', G' = G.set id (.mk true 2 (cells0.set (off + i * 2) (.str (markStr kk)))) := ⟨_, rfl⟩
  rw [← hG0] at st0 A0
  have ln0 : G0.length = H.length := by rw [hG0, List.length_set]; exact g1
  have fr0 : ∀ q, q ∉ F → G0[q]? = H[q]? := fun q hq => by rw [hG0, List.getElem?_set_ne (by rintro rfl; exact hq e6)]; exact g2 q hq
  clear hG0
  obtain ⟨kk0, hkk0⟩ : ∃ n, n = kk + 1 := ⟨_, rfl⟩
  have hw0 : IntKind.i64.wrap ((kk : Int) + 1) = (kk0 : Int) := by rw [wrap_i64 (by omega) (by omega)]; omega
  have hx0_ : (L.set i (.st [(.str (markStr kk)), (.str s1)]))[i]? = some (.st [(.str (markStr kk)), (.str s1)]) := List.getElem?_set_self (by omega)
  obtain ⟨id1, off1, cells1, w1, K1, ev1, eg1, ei1, ek1, ew1, ea1, en1, es1, er1, et1⟩ := AtF.field [.str] A0 hn (i := i) (us1 := [(.str (markStr kk))]) (u := (.str s1)) (us2 := []) hx0_ rfl rfl
  simp only [V.slc.injEq, Option.some.injEq, Prod.mk.injEq] at ev1
  obtain ⟨⟨rfl, rfl⟩, _⟩ := ev1
  simp only [shRdn, Sh.size_st, Sh.sizes_cons, Sh.sizes_nil, Sh.size_str, Sh.size_slice, Sh.size_int, Sh.size_bool, List.cons_append, List.nil_append, Nat.reduceAdd, Nat.add_zero] at eg1 ew1 et1 er1
  obtain ⟨_, rfl⟩ := AtF_str.1 ea1
  have q1 := markText (H := G0) (k := kk0) (by omega)
  have st1 := store1 (v := (.str (markStr kk0))) eg1 (List.getElem?_eq_some_iff.1 ew1).1 rfl rfl
  have A1 := et1 (.str (markStr kk0)) (.str (markStr kk0)) (AtF_str.2 ⟨⟨_, rfl, rfl, mark_ok (by omega)⟩, rfl⟩)
  obtain ⟨G1, hG1⟩ : ∃ G', G' = G0.set id (.mk true 2 (cells1.set (off + i * 2 + 1) (.str (markStr kk0)))) := ⟨_, rfl⟩
  rw [← hG1] at st1 A1
  have ln1 : G1.length = H.length := by rw [hG1, List.length_set]; exact ln0
  have fr1 : ∀ q, q ∉ F → G1[q]? = H[q]? := fun q hq => by rw [hG1, List.getElem?_set_ne (by rintro rfl; exact hq e6)]; exact fr0 q hq
  clear hG1
  obtain ⟨kk1, hkk1⟩ : ∃ n, n = kk0 + 1 := ⟨_, rfl⟩
  have hw1 : IntKind.i64.wrap ((kk0 : Int) + 1) = (kk1 : Int) := by rw [wrap_i64 (by omega) (by omega)]; omega
  rw [List.set_set] at A1
  have hx1_ : (L.set i (.st [(.str (markStr kk)), (.str (markStr kk0))]))[i]? = some (.st [(.str (markStr kk)), (.str (markStr kk0))]) := List.getElem?_set_self (by omega)
  have hks : k + cntPs (l.take (i + 1)) = kk1 := by omega
  rw [show L.set i (.st [(.str (markStr kk)), (.str (markStr kk0))]) = _ from (by simp only [hkk0, hkk1, hkk]; exact hmk)] at A1
  have hw : IntKind.i64.wrap ((i : Int) + 1) = ((i : Int) + 1) := wrap_i64 (by omega) (by omega)
  have hix : i + 1 ≤ l.length := hi
  simp [r0, r1, r5, hi, hw, q0, st0, hw0, q1, st1, hw1, -setRange]
  exact ⟨m, by omega, i + 1, by omega, _, _, ⟨rfl, rfl⟩, by simp [r0], by simp; omega, by simp, ln1, fr1, A1⟩
theorem held_RdnS : HeldFn 199 (.slice shRdn) := by
 intro H cs u k h hk
 obtain ⟨v, l', rfl, hu, hlen, hv⟩ := At_slice.1 h
 obtain ⟨l, rfl, rfl⟩ := mkV_lst hu
 apply Ret.eq
 rw [op199]
 simp only [cntV] at hk ⊢
 have hl64 : (mkPs l k).length ≤ 9223372036854775807 := hlen
 rw [mkPs_len] at hl64
 have hvl := fun {e s b : Nat} {z : List V} => hv.len (e := e) (s := s) (b := b) (z := z)
 simp only [mkPs_len] at hvl
 simp [code199, Tryz.f199, valC]
 refine WP_loop (fun m σ => ∃ (i kk : Nat) (r : Nat → R), i + m = l.length ∧ kk = k + cntPs (l.take i) ∧ σ = ⟨r, 0, H⟩ ∧ r 0 = .val v ∧ r 1 = .val (.int .i64 kk) ∧ r 5 = .val (.int .i64 i)) ?_ l.length _ ⟨0, k, _, by simp, by simp [cntPs], rfl, by simp, by simp, by simp⟩
 rintro m σ ⟨i, kk, r, him, hkk, rfl, r0, r1, r5⟩
 cases m with
 | zero =>
  have hi : i = l.length := by omega
  subst hi
  rw [List.take_length] at hkk
  simp [r0, r1, r5, hvl, hkk]
 | succ m =>
  have hi : i < l.length := by omega
  obtain ⟨x, hx⟩ : ∃ x, l[i]? = some x := ⟨l[i], by simp [hi]⟩
  obtain ⟨eid, o, own, cells, e1, e2, e3, e0⟩ := hv.idx (mkPs_get hx) (by decide)
  rw [← hkk] at e0
  have hcnt := cntPs_take hx
  have hle := cntPs_take_le (l := l) (i := i + 1)
  have hid : eid < H.length := (List.getElem?_eq_some_iff.1 e2).1
  have hw : IntKind.i64.wrap ((i : Int) + 1) = ((i : Int) + 1) := wrap_i64 (by omega) (by omega)
  obtain ⟨us0, hu0, E0⟩ := At_st.1 e0
  obtain ⟨us0, rfl, rfl⟩ := mkP_st hu0
  obtain ⟨c0, d0, u0, rr0, hc0, hu, h0, E1⟩ := Ats_cons.1 E0
  obtain ⟨u0, us0, rfl, rfl, rfl⟩ := mkPs_cons hu
  obtain ⟨s0, rfl, hs, _⟩ := At_str.1 h0
  obtain ⟨⟨t0, rfl⟩, rfl⟩ := mkP_str hs
  obtain ⟨kk1, hkk1⟩ : ∃ n, n = kk + cntP (.str t0) := ⟨_, rfl⟩
  rw [← hkk1] at E1
  obtain ⟨c1, d1, u1, rr1, rfl, hu, h1, E2⟩ := Ats_cons.1 E1
  obtain ⟨u1, us0, rfl, rfl, rfl⟩ := mkPs_cons hu
  obtain ⟨s1, rfl, hs, _⟩ := At_str.1 h1
  obtain ⟨⟨t1, rfl⟩, rfl⟩ := mkP_str hs
  obtain ⟨kk2, hkk2⟩ : ∃ n, n = kk1 + cntP (.str t1) := ⟨_, rfl⟩
  rw [← hkk2] at E2
  obtain ⟨rfl, hun⟩ := Ats_nil.1 E2
  obtain rfl := mkPs_nil hun
  simp only [List.cons_append, List.nil_append, List.append_nil] at hc0
  simp only [cntP_st, cntPs_cons, cntPs_nil, cntP_str, cntP_int, cntP_bool, Nat.add_zero] at hcnt hkk1 hkk2
  have ld0 := load1 e2 (by simpa using cells_get hc0 (j := 0) rfl)
  have hm0 := markText (H := H) (k := kk) (by omega)
  have hw0 : IntKind.i64.wrap ((kk : Int) + 1) = (kk1 : Int) := by rw [wrap_i64 (by omega) (by omega)]; omega
  have ld1 := load1 e2 (by simpa using cells_get hc0 (j := 1) rfl)
  have hm1 := markText (H := H) (k := kk1) (by omega)
  have hw1 : IntKind.i64.wrap ((kk1 : Int) + 1) = (kk2 : Int) := by rw [wrap_i64 (by omega) (by omega)]; omega
  rw [show (shRdn).size = 2 from rfl] at e1
  simp [r0, r1, r5, hi, hvl, e1, hid, hw, ld0, hm0, hw0, ld1, hm1, hw1]
  exact ⟨m, by omega, i + 1, by omega, by omega, by omega⟩
theorem mk_AttrS : MkFn 197 (.slice shAttr) := by
 intro H cs u F k h hn hk
 obtain ⟨v, l, rfl, rfl, hlen, hv⟩ := AtF_slice.1 h
 have hv := (AtF_slice.2 ⟨v, l, rfl, rfl, hlen, hv⟩).at
 obtain ⟨_, _, hx1, hx2, _, hv⟩ := At_slice.1 hv
 cases hx1; cases hx2
 apply Ret.mark
 rw [op197]
 simp only [cntV] at hk
 have hl64 : l.length ≤ 9223372036854775807 := hlen
 simp [code197, Tryz.f197, valC, -setRange]
 refine WP_loop (fun m σ => ∃ (i : Nat) (r : Nat → R) (G : List Ob), i + m = l.length ∧ σ = ⟨r, 0, G⟩ ∧ r 0 = .val v ∧ r 1 = .val (.int .i64 ((k + cntPs (l.take i) : Nat) : Int)) ∧ r 5 = .val (.int .i64 i) ∧ G.length = H.length ∧ (∀ q, q ∉ F → G[q]? = H[q]?) ∧ AtF G (.slice shAttr) [v] (.lst (mkPs (l.take i) k ++ l.drop i)) F) ?_ l.length _ ⟨0, _, H, by simp, rfl, by simp, by simp [cntPs], by simp, rfl, fun _ _ => rfl, by simpa [mkPs] using h⟩
 rintro m σ ⟨i, r, G, him, rfl, r0, r1, r5, g1, g2, g3⟩
 cases m with
 | zero =>
  have hi : i = l.length := by omega
  subst hi
  simp at g3
  simp [r0, r1, r5, hv.len, gcH_len g1, cntV, mkV]
  exact ⟨g1, g2, g3⟩
 | succ m =>
  have hi : i < l.length := by omega
  obtain ⟨x, hx⟩ : ∃ x, l[i]? = some x := ⟨l[i], by simp [hi]⟩
  have hx0 : (mkPs (l.take i) k ++ l.drop i)[i]? = some x := by rw [mk_get hi, hx]
  have hmk := mk_set (k := k) hx
  have hcnt := cntPs_take hx
  have hle := cntPs_take_le (l := l) (i := i + 1)
  have hL : (mkPs (l.take i) k ++ l.drop i).length = l.length := by simp [mkPs_len]; omega
  obtain ⟨L, hLd⟩ : ∃ L, L = mkPs (l.take i) k ++ l.drop i := ⟨_, rfl⟩
  rw [← hLd] at hx0 hmk hL g3
  clear hLd
  obtain ⟨id, off, cells, K, e0, e1, e2, e3, e4, e5, e6, e7, e8⟩ := AtF.elem g3 hn hx0
  clear e1 e2 e4 e5 e7 e8
  rw [hL] at e0
  subst e0
  generalize List.take (shAttr).size (List.drop (off + i * (shAttr).size) cells) = cc at e3
  replace e3 := AtF_st.1 e3
  obtain ⟨us, rfl, e3⟩ := e3
  replace e3 := AtsF_cons.1 e3
  obtain ⟨c0, d0, u0, rr0, F0, E0, rfl, rfl, rfl, h0, e3⟩ := e3
  replace e3 := AtsF_cons.1 e3
  obtain ⟨c1, d1, u1, rr1, F1, E1, rfl, rfl, rfl, h1, e3⟩ := e3
  replace e3 := AtsF_nil.1 e3
  obtain ⟨rfl, rfl, rfl⟩ := e3
  replace h0 := AtF_str.1 h0
  obtain ⟨⟨s0, rfl, rfl, w0⟩, rfl⟩ := h0
  have k1 := h1
  replace h1 := AtF_slice.1 h1
  obtain ⟨v1, l1, rfl, rfl, w1, hv1⟩ := h1
  have o1 := (At_slice.1 (AtF.at _ k1))
  obtain ⟨_, _, x1, x2, _, o1⟩ := o1
  cases x1
  cases x2
  have o1 := o1.one
  simp only [cntP, cntPs_cons, cntPs_nil, Nat.add_zero] at hcnt
  obtain ⟨kk, hkk⟩ : ∃ kk, kk = k + cntPs (l.take i) := ⟨_, rfl⟩
  rw [← hkk] at r1
  obtain ⟨id0, off0, cells0, w0, K0, ev0, eg0, ei0, ek0, ew0, ea0, en0, es0, er0, et0⟩ := AtF.field [] g3 hn (i := i) (us1 := []) (u := (.str s0)) (us2 := [(.lst l1)]) hx0 rfl rfl
  simp only [V.slc.injEq, Option.some.injEq, Prod.mk.injEq] at ev0
  obtain ⟨⟨rfl, rfl⟩, _⟩ := ev0
  simp only [shAttr, Sh.size_st, Sh.sizes_cons, Sh.sizes_nil, Sh.size_str, Sh.size_slice, Sh.size_int, Sh.size_bool, List.cons_append, List.nil_append, Nat.reduceAdd, Nat.add_zero] at eg0 ew0 et0 er0
  obtain ⟨_, rfl⟩ := AtF_str.1 ea0
  have q0 := markText (H := G) (k := kk) (by omega)
  have st0 := store1 (v := (.str (markStr kk))) eg0 (List.getElem?_eq_some_iff.1 ew0).1 rfl rfl
  have A0 := et0 (.str (markStr kk)) (.str (markStr kk)) (AtF_str.2 ⟨⟨_, rfl, rfl, mark_ok (by omega)⟩, rfl⟩)
  obtain ⟨G0, hG0⟩ : ∃ G', G' = G.set id (.mk true 2 (cells0.set (off + i * 2) (.str (markStr kk)))) := ⟨_, rfl⟩
  rw [← hG0] at st0 A0
  have ln0 : G0.length = H.length := by rw [hG0, List.length_set]; exact g1
  have fr0 : ∀ q, q ∉ F → G0[q]? = H[q]? := fun q hq => by rw [hG0, List.getElem?_set_ne (by rintro rfl; exact hq e6)]; exact g2 q hq
  clear hG0
  obtain ⟨kk0, hkk0⟩ : ∃ n, n = kk + 1 := ⟨_, rfl⟩
  have hw0 : IntKind.i64.wrap ((kk : Int) + 1) = (kk0 : Int) := by rw [wrap_i64 (by omega) (by omega)]; omega
  have hx0_ : (L.set i (.st [(.str (markStr kk)), (.lst l1)]))[i]? = some (.st [(.str (markStr kk)), (.lst l1)]) := List.getElem?_set_self (by omega)
  obtain ⟨id1, off1, cells1, w1, K1, ev1, eg1, ei1, ek1, ew1, ea1, en1, es1, er1, et1⟩ := AtF.field [.str] A0 hn (i := i) (us1 := [(.str (markStr kk))]) (u := (.lst l1)) (us2 := []) hx0_ rfl rfl
  simp only [V.slc.injEq, Option.some.injEq, Prod.mk.injEq] at ev1
  obtain ⟨⟨rfl, rfl⟩, _⟩ := ev1
  simp only [shAttr, Sh.size_st, Sh.sizes_cons, Sh.sizes_nil, Sh.size_str, Sh.size_slice, Sh.size_int, Sh.size_bool, List.cons_append, List.nil_append, Nat.reduceAdd, Nat.add_zero] at eg1 ew1 et1 er1
  obtain ⟨G1, q1, ln1, fr1, ma1⟩ := mk_StringS G0 [w1] _ K1 kk0 ea1 en1 (by simp only [cntPV, cntP]; omega)
  simp only [valC, List.headD_cons] at q1
  have ld1 := load1 eg1 ew1
  have A1 := er1 G1 (.lst (mkPs l1 kk0)) (fun q _ hq => fr1 q hq) ma1
  have ln1 : G1.length = H.length := by rw [ln1]; first | exact g1 | exact ln0
  have fr1 : ∀ q, q ∉ F → G1[q]? = H[q]? := fun q hq => by rw [fr1 q fun h => hq (es1 q h)]; first | exact g2 q hq | exact fr0 q hq
  obtain ⟨kk1, hkk1⟩ : ∃ n, n = kk0 + cntP (.lst l1) := ⟨_, rfl⟩
  rw [cntPV, ← hkk1] at q1
  simp only [cntP] at hkk1
  rw [List.set_set] at A1
  have hx1_ : (L.set i (.st [(.str (markStr kk)), (.lst (mkPs l1 kk0))]))[i]? = some (.st [(.str (markStr kk)), (.lst (mkPs l1 kk0))]) := List.getElem?_set_self (by omega)
  have hks : k + cntPs (l.take (i + 1)) = kk1 := by omega
  rw [show L.set i (.st [(.str (markStr kk)), (.lst (mkPs l1 kk0))]) = _ from (by simp only [hkk0, hkk1, hkk]; exact hmk)] at A1
  have hw : IntKind.i64.wrap ((i : Int) + 1) = ((i : Int) + 1) := wrap_i64 (by omega) (by omega)
  have hix : i + 1 ≤ l.length := hi
  simp [r0, r1, r5, hi, hw, q0, st0, hw0, q1, ld1, -setRange]
  exact ⟨m, by omega, i + 1, by omega, _, _, ⟨rfl, rfl⟩, by simp [r0], by simp; omega, by simp, ln1, fr1, A1⟩
theorem held_AttrS : HeldFn 200 (.slice shAttr) := by
 intro H cs u k h hk
 obtain ⟨v, l', rfl, hu, hlen, hv⟩ := At_slice.1 h
 obtain ⟨l, rfl, rfl⟩ := mkV_lst hu
 apply Ret.eq
 rw [op200]
 simp only [cntV] at hk ⊢
 have hl64 : (mkPs l k).length ≤ 9223372036854775807 := hlen
 rw [mkPs_len] at hl64
 have hvl := fun {e s b : Nat} {z : List V} => hv.len (e := e) (s := s) (b := b) (z := z)
 simp only [mkPs_len] at hvl
 simp [code200, Tryz.f200, valC]
 refine WP_loop (fun m σ => ∃ (i kk : Nat) (r : Nat → R), i + m = l.length ∧ kk = k + cntPs (l.take i) ∧ σ = ⟨r, 0, H⟩ ∧ r 0 = .val v ∧ r 1 = .val (.int .i64 kk) ∧ r 5 = .val (.int .i64 i)) ?_ l.length _ ⟨0, k, _, by simp, by simp [cntPs], rfl, by simp, by simp, by simp⟩
 rintro m σ ⟨i, kk, r, him, hkk, rfl, r0, r1, r5⟩
 cases m with
 | zero =>
  have hi : i = l.length := by omega
  subst hi
  rw [List.take_length] at hkk
  simp [r0, r1, r5, hvl, hkk]
 | succ m =>
  have hi : i < l.length := by omega
  obtain ⟨x, hx⟩ : ∃ x, l[i]? = some x := ⟨l[i], by simp [hi]⟩
  obtain ⟨eid, o, own, cells, e1, e2, e3, e0⟩ := hv.idx (mkPs_get hx) (by decide)
  rw [← hkk] at e0
  have hcnt := cntPs_take hx
  have hle := cntPs_take_le (l := l) (i := i + 1)
  have hid : eid < H.length := (List.getElem?_eq_some_iff.1 e2).1
  have hw : IntKind.i64.wrap ((i : Int) + 1) = ((i : Int) + 1) := wrap_i64 (by omega) (by omega)
  obtain ⟨us0, hu0, E0⟩ := At_st.1 e0
  obtain ⟨us0, rfl, rfl⟩ := mkP_st hu0
  obtain ⟨c0, d0, u0, rr0, hc0, hu, h0, E1⟩ := Ats_cons.1 E0
  obtain ⟨u0, us0, rfl, rfl, rfl⟩ := mkPs_cons hu
  obtain ⟨s0, rfl, hs, _⟩ := At_str.1 h0
  obtain ⟨⟨t0, rfl⟩, rfl⟩ := mkP_str hs
  obtain ⟨kk1, hkk1⟩ : ∃ n, n = kk + cntP (.str t0) := ⟨_, rfl⟩
  rw [← hkk1] at E1
  obtain ⟨c1, d1, u1, rr1, rfl, hu, h1, E2⟩ := Ats_cons.1 E1
  obtain ⟨u1, us0, rfl, rfl, rfl⟩ := mkPs_cons hu
  have k1 := h1
  obtain ⟨v1, l1, rfl, hs, _, _⟩ := At_slice.1 h1
  obtain ⟨m1, rfl, rfl⟩ := mkP_lst hs
  obtain ⟨kk2, hkk2⟩ : ∃ n, n = kk1 + cntP (.lst m1) := ⟨_, rfl⟩
  rw [← hkk2] at E2
  obtain ⟨rfl, hun⟩ := Ats_nil.1 E2
  obtain rfl := mkPs_nil hun
  simp only [List.cons_append, List.nil_append, List.append_nil] at hc0
  simp only [cntP_st, cntPs_cons, cntPs_nil, cntP_str, cntP_int, cntP_bool, Nat.add_zero] at hcnt hkk1 hkk2
  have ld0 := load1 e2 (by simpa using cells_get hc0 (j := 0) rfl)
  have hm0 := markText (H := H) (k := kk) (by omega)
  have hw0 : IntKind.i64.wrap ((kk : Int) + 1) = (kk1 : Int) := by rw [wrap_i64 (by omega) (by omega)]; omega
  have ld1 := load1 e2 (by simpa using cells_get hc0 (j := 1) rfl)
  have q1 := held_StringS H [v1] (.lst m1) kk1 k1 (by rw [cntPV]; omega)
  rw [cntPV, ← hkk2] at q1
  simp only [valC, List.headD_cons] at q1
  have p1 : ¬ ((kk2 : Int) < 0) := by omega
  rw [show (shAttr).size = 2 from rfl] at e1
  simp [r0, r1, r5, hi, hvl, e1, hid, hw, ld0, hm0, hw0, ld1, q1, p1]
  exact ⟨m, by omega, i + 1, by omega, by omega, by omega⟩
theorem mk_ClassS : MkFn 107 (.slice shClass) := by
 intro H cs u F k h hn hk
 obtain ⟨v, l, rfl, rfl, hlen, hv⟩ := AtF_slice.1 h
 have hv := (AtF_slice.2 ⟨v, l, rfl, rfl, hlen, hv⟩).at
 obtain ⟨_, _, hx1, hx2, _, hv⟩ := At_slice.1 hv
 cases hx1; cases hx2
 apply Ret.mark
 rw [op107]
 simp only [cntV] at hk
 have hl64 : l.length ≤ 9223372036854775807 := hlen
 simp [code107, Tryz.f107, valC, -setRange]
 refine WP_loop (fun m σ => ∃ (i : Nat) (r : Nat → R) (G : List Ob), i + m = l.length ∧ σ = ⟨r, 0, G⟩ ∧ r 0 = .val v ∧ r 1 = .val (.int .i64 ((k + cntPs (l.take i) : Nat) : Int)) ∧ r 5 = .val (.int .i64 i) ∧ G.length = H.length ∧ (∀ q, q ∉ F → G[q]? = H[q]?) ∧ AtF G (.slice shClass) [v] (.lst (mkPs (l.take i) k ++ l.drop i)) F) ?_ l.length _ ⟨0, _, H, by simp, rfl, by simp, by simp [cntPs], by simp, rfl, fun _ _ => rfl, by simpa [mkPs] using h⟩
 rintro m σ ⟨i, r, G, him, rfl, r0, r1, r5, g1, g2, g3⟩
 cases m with
 | zero =>
  have hi : i = l.length := by omega
  subst hi
  simp at g3
  simp [r0, r1, r5, hv.len, gcH_len g1, cntV, mkV]
  exact ⟨g1, g2, g3⟩
 | succ m =>
  have hi : i < l.length := by omega
  obtain ⟨x, hx⟩ : ∃ x, l[i]? = some x := ⟨l[i], by simp [hi]⟩
  have hx0 : (mkPs (l.take i) k ++ l.drop i)[i]? = some x := by rw [mk_get hi, hx]
  have hmk := mk_set (k := k) hx
  have hcnt := cntPs_take hx
  have hle := cntPs_take_le (l := l) (i := i + 1)
  have hL : (mkPs (l.take i) k ++ l.drop i).length = l.length := by simp [mkPs_len]; omega
  obtain ⟨L, hLd⟩ : ∃ L, L = mkPs (l.take i) k ++ l.drop i := ⟨_, rfl⟩
  rw [← hLd] at hx0 hmk hL g3
  clear hLd
  obtain ⟨id, off, cells, K, e0, e1, e2, e3, e4, e5, e6, e7, e8⟩ := AtF.elem g3 hn hx0
  clear e1 e2 e4 e5 e7 e8
  rw [hL] at e0
  subst e0
  generalize List.take (shClass).size (List.drop (off + i * (shClass).size) cells) = cc at e3
  replace e3 := AtF_st.1 e3
  obtain ⟨us, rfl, e3⟩ := e3
  replace e3 := AtsF_cons.1 e3
  obtain ⟨c0, d0, u0, rr0, F0, E0, rfl, rfl, rfl, h0, e3⟩ := e3
  replace e3 := AtsF_cons.1 e3
  obtain ⟨c1, d1, u1, rr1, F1, E1, rfl, rfl, rfl, h1, e3⟩ := e3
  replace e3 := AtsF_cons.1 e3
  obtain ⟨c2, d2, u2, rr2, F2, E2, rfl, rfl, rfl, h2, e3⟩ := e3
  replace e3 := AtsF_cons.1 e3
  obtain ⟨c3, d3, u3, rr3, F3, E3, rfl, rfl, rfl, h3, e3⟩ := e3
  replace e3 := AtsF_nil.1 e3
  obtain ⟨rfl, rfl, rfl⟩ := e3
  replace h0 := AtF_str.1 h0
  obtain ⟨⟨s0, rfl, rfl, w0⟩, rfl⟩ := h0
  have k1 := h1
  replace h1 := AtF_slice.1 h1
  obtain ⟨v1, l1, rfl, rfl, w1, hv1⟩ := h1
  have o1 := (At_slice.1 (AtF.at _ k1))
  obtain ⟨_, _, x1, x2, _, o1⟩ := o1
  cases x1
  cases x2
  have o1 := o1.one
  have k2 := h2
  replace h2 := AtF_slice.1 h2
  obtain ⟨v2, l2, rfl, rfl, w2, hv2⟩ := h2
  have o2 := (At_slice.1 (AtF.at _ k2))
  obtain ⟨_, _, x1, x2, _, o2⟩ := o2
  cases x1
  cases x2
  have o2 := o2.one
  have k3 := h3
  replace h3 := AtF_slice.1 h3
  obtain ⟨v3, l3, rfl, rfl, w3, hv3⟩ := h3
  have o3 := (At_slice.1 (AtF.at _ k3))
  obtain ⟨_, _, x1, x2, _, o3⟩ := o3
  cases x1
  cases x2
  have o3 := o3.one
  simp only [cntP, cntPs_cons, cntPs_nil, Nat.add_zero] at hcnt
  obtain ⟨kk, hkk⟩ : ∃ kk, kk = k + cntPs (l.take i) := ⟨_, rfl⟩
  rw [← hkk] at r1
  obtain ⟨id0, off0, cells0, w0, K0, ev0, eg0, ei0, ek0, ew0, ea0, en0, es0, er0, et0⟩ := AtF.field [] g3 hn (i := i) (us1 := []) (u := (.str s0)) (us2 := [(.lst l1), (.lst l2), (.lst l3)]) hx0 rfl rfl
  simp only [V.slc.injEq, Option.some.injEq, Prod.mk.injEq] at ev0
  obtain ⟨⟨rfl, rfl⟩, _⟩ := ev0
  simp only [shClass, Sh.size_st, Sh.sizes_cons, Sh.sizes_nil, Sh.size_str, Sh.size_slice, Sh.size_int, Sh.size_bool, List.cons_append, List.nil_append, Nat.reduceAdd, Nat.add_zero] at eg0 ew0 et0 er0
  obtain ⟨_, rfl⟩ := AtF_str.1 ea0
  have q0 := markText (H := G) (k := kk) (by omega)
  have st0 := store1 (v := (.str (markStr kk))) eg0 (List.getElem?_eq_some_iff.1 ew0).1 rfl rfl
  have A0 := et0 (.str (markStr kk)) (.str (markStr kk)) (AtF_str.2 ⟨⟨_, rfl, rfl, mark_ok (by omega)⟩, rfl⟩)
  obtain ⟨G0, hG0⟩ : ∃ G', G' = G.set id (.mk true 4 (cells0.set (off + i * 4) (.str (markStr kk)))) := ⟨_, rfl⟩
  rw [← hG0] at st0 A0
  have ln0 : G0.length = H.length := by rw [hG0, List.length_set]; exact g1
  have fr0 : ∀ q, q ∉ F → G0[q]? = H[q]? := fun q hq => by rw [hG0, List.getElem?_set_ne (by rintro rfl; exact hq e6)]; exact g2 q hq
  clear hG0
  obtain ⟨kk0, hkk0⟩ : ∃ n, n = kk + 1 := ⟨_, rfl⟩
  have hw0 : IntKind.i64.wrap ((kk : Int) + 1) = (kk0 : Int) := by rw [wrap_i64 (by omega) (by omega)]; omega
  have hx0_ : (L.set i (.st [(.str (markStr kk)), (.lst l1), (.lst l2), (.lst l3)]))[i]? = some (.st [(.str (markStr kk)), (.lst l1), (.lst l2), (.lst l3)]) := List.getElem?_set_self (by omega)
  obtain ⟨id1, off1, cells1, w1, K1, ev1, eg1, ei1, ek1, ew1, ea1, en1, es1, er1, et1⟩ := AtF.field [.str] A0 hn (i := i) (us1 := [(.str (markStr kk))]) (u := (.lst l1)) (us2 := [(.lst l2), (.lst l3)]) hx0_ rfl rfl
  simp only [V.slc.injEq, Option.some.injEq, Prod.mk.injEq] at ev1
  obtain ⟨⟨rfl, rfl⟩, _⟩ := ev1
  simp only [shClass, Sh.size_st, Sh.sizes_cons, Sh.sizes_nil, Sh.size_str, Sh.size_slice, Sh.size_int, Sh.size_bool, List.cons_append, List.nil_append, Nat.reduceAdd, Nat.add_zero] at eg1 ew1 et1 er1
  obtain ⟨G1, q1, ln1, fr1, ma1⟩ := mk_StringS G0 [w1] _ K1 kk0 ea1 en1 (by simp only [cntPV, cntP]; omega)
  simp only [valC, List.headD_cons] at q1
  have ld1 := load1 eg1 ew1
  have A1 := er1 G1 (.lst (mkPs l1 kk0)) (fun q _ hq => fr1 q hq) ma1
  have ln1 : G1.length = H.length := by rw [ln1]; first | exact g1 | exact ln0
  have fr1 : ∀ q, q ∉ F → G1[q]? = H[q]? := fun q hq => by rw [fr1 q fun h => hq (es1 q h)]; first | exact g2 q hq | exact fr0 q hq
  obtain ⟨kk1, hkk1⟩ : ∃ n, n = kk0 + cntP (.lst l1) := ⟨_, rfl⟩
  rw [cntPV, ← hkk1] at q1
  simp only [cntP] at hkk1
  rw [List.set_set] at A1
  have hx1_ : (L.set i (.st [(.str (markStr kk)), (.lst (mkPs l1 kk0)), (.lst l2), (.lst l3)]))[i]? = some (.st [(.str (markStr kk)), (.lst (mkPs l1 kk0)), (.lst l2), (.lst l3)]) := List.getElem?_set_self (by omega)
  obtain ⟨id2, off2, cells2, w2, K2, ev2, eg2, ei2, ek2, ew2, ea2, en2, es2, er2, et2⟩ := AtF.field [.str, (.slice .str)] A1 hn (i := i) (us1 := [(.str (markStr kk)), (.lst (mkPs l1 kk0))]) (u := (.lst l2)) (us2 := [(.lst l3)]) hx1_ rfl rfl
  simp only [V.slc.injEq, Option.some.injEq, Prod.mk.injEq] at ev2
  obtain ⟨⟨rfl, rfl⟩, _⟩ := ev2
  simp only [shClass, Sh.size_st, Sh.sizes_cons, Sh.sizes_nil, Sh.size_str, Sh.size_slice, Sh.size_int, Sh.size_bool, List.cons_append, List.nil_append, Nat.reduceAdd, Nat.add_zero] at eg2 ew2 et2 er2
  obtain ⟨G2, q2, ln2, fr2, ma2⟩ := mk_StringS G1 [w2] _ K2 kk1 ea2 en2 (by simp only [cntPV, cntP]; omega)
  simp only [valC, List.headD_cons] at q2
  have ld2 := load1 eg2 ew2
  have A2 := er2 G2 (.lst (mkPs l2 kk1)) (fun q _ hq => fr2 q hq) ma2
  have ln2 : G2.length = H.length := by rw [ln2]; first | exact g1 | exact ln1
  have fr2 : ∀ q, q ∉ F → G2[q]? = H[q]? := fun q hq => by rw [fr2 q fun h => hq (es2 q h)]; first | exact g2 q hq | exact fr1 q hq
  obtain ⟨kk2, hkk2⟩ : ∃ n, n = kk1 + cntP (.lst l2) := ⟨_, rfl⟩
  rw [cntPV, ← hkk2] at q2
  simp only [cntP] at hkk2
  rw [List.set_set] at A2
  have hx2_ : (L.set i (.st [(.str (markStr kk)), (.lst (mkPs l1 kk0)), (.lst (mkPs l2 kk1)), (.lst l3)]))[i]? = some (.st [(.str (markStr kk)), (.lst (mkPs l1 kk0)), (.lst (mkPs l2 kk1)), (.lst l3)]) := List.getElem?_set_self (by omega)
  obtain ⟨id3, off3, cells3, w3, K3, ev3, eg3, ei3, ek3, ew3, ea3, en3, es3, er3, et3⟩ := AtF.field [.str, (.slice .str), (.slice .str)] A2 hn (i := i) (us1 := [(.str (markStr kk)), (.lst (mkPs l1 kk0)), (.lst (mkPs l2 kk1))]) (u := (.lst l3)) (us2 := []) hx2_ rfl rfl
  simp only [V.slc.injEq, Option.some.injEq, Prod.mk.injEq] at ev3
  obtain ⟨⟨rfl, rfl⟩, _⟩ := ev3
  simp only [shClass, Sh.size_st, Sh.sizes_cons, Sh.sizes_nil, Sh.size_str, Sh.size_slice, Sh.size_int, Sh.size_bool, List.cons_append, List.nil_append, Nat.reduceAdd, Nat.add_zero] at eg3 ew3 et3 er3
  obtain ⟨G3, q3, ln3, fr3, ma3⟩ := mk_StringS G2 [w3] _ K3 kk2 ea3 en3 (by simp only [cntPV, cntP]; omega)
  simp only [valC, List.headD_cons] at q3
  have ld3 := load1 eg3 ew3
  have A3 := er3 G3 (.lst (mkPs l3 kk2)) (fun q _ hq => fr3 q hq) ma3
  have ln3 : G3.length = H.length := by rw [ln3]; first | exact g1 | exact ln2
  have fr3 : ∀ q, q ∉ F → G3[q]? = H[q]? := fun q hq => by rw [fr3 q fun h => hq (es3 q h)]; first | exact g2 q hq | exact fr2 q hq
  obtain ⟨kk3, hkk3⟩ : ∃ n, n = kk2 + cntP (.lst l3) := ⟨_, rfl⟩
  rw [cntPV, ← hkk3] at q3
  simp only [cntP] at hkk3
  rw [List.set_set] at A3
  have hx3_ : (L.set i (.st [(.str (markStr kk)), (.lst (mkPs l1 kk0)), (.lst (mkPs l2 kk1)), (.lst (mkPs l3 kk2))]))[i]? = some (.st [(.str (markStr kk)), (.lst (mkPs l1 kk0)), (.lst (mkPs l2 kk1)), (.lst (mkPs l3 kk2))]) := List.getElem?_set_self (by omega)
  have hks : k + cntPs (l.take (i + 1)) = kk3 := by omega
  rw [show L.set i (.st [(.str (markStr kk)), (.lst (mkPs l1 kk0)), (.lst (mkPs l2 kk1)), (.lst (mkPs l3 kk2))]) = _ from (by simp only [hkk0, hkk1, hkk2, hkk3, hkk]; exact hmk)] at A3
  have hw : IntKind.i64.wrap ((i : Int) + 1) = ((i : Int) + 1) := wrap_i64 (by omega) (by omega)
  have hix : i + 1 ≤ l.length := hi
  simp [r0, r1, r5, hi, hw, q0, st0, hw0, q1, ld1, q2, ld2, q3, ld3, -setRange]
  exact ⟨m, by omega, i + 1, by omega, _, _, ⟨rfl, rfl⟩, by simp [r0], by simp; omega, by simp, ln3, fr3, A3⟩
theorem held_ClassS : HeldFn 198 (.slice shClass) := by
 intro H cs u k h hk
 obtain ⟨v, l', rfl, hu, hlen, hv⟩ := At_slice.1 h
 obtain ⟨l, rfl, rfl⟩ := mkV_lst hu
 apply Ret.eq
 rw [op198]
 simp only [cntV] at hk ⊢
 have hl64 : (mkPs l k).length ≤ 9223372036854775807 := hlen
 rw [mkPs_len] at hl64
 have hvl := fun {e s b : Nat} {z : List V} => hv.len (e := e) (s := s) (b := b) (z := z)
 simp only [mkPs_len] at hvl
 simp [code198, Tryz.f198, valC]
 refine WP_loop (fun m σ => ∃ (i kk : Nat) (r : Nat → R), i + m = l.length ∧ kk = k + cntPs (l.take i) ∧ σ = ⟨r, 0, H⟩ ∧ r 0 = .val v ∧ r 1 = .val (.int .i64 kk) ∧ r 5 = .val (.int .i64 i)) ?_ l.length _ ⟨0, k, _, by simp, by simp [cntPs], rfl, by simp, by simp, by simp⟩
 rintro m σ ⟨i, kk, r, him, hkk, rfl, r0, r1, r5⟩
 cases m with
 | zero =>
  have hi : i = l.length := by omega
  subst hi
  rw [List.take_length] at hkk
  simp [r0, r1, r5, hvl, hkk]
 | succ m =>
  have hi : i < l.length := by omega
  obtain ⟨x, hx⟩ : ∃ x, l[i]? = some x := ⟨l[i], by simp [hi]⟩
  obtain ⟨eid, o, own, cells, e1, e2, e3, e0⟩ := hv.idx (mkPs_get hx) (by decide)
  rw [← hkk] at e0
  have hcnt := cntPs_take hx
  have hle := cntPs_take_le (l := l) (i := i + 1)
  have hid : eid < H.length := (List.getElem?_eq_some_iff.1 e2).1
  have hw : IntKind.i64.wrap ((i : Int) + 1) = ((i : Int) + 1) := wrap_i64 (by omega) (by omega)
  obtain ⟨us0, hu0, E0⟩ := At_st.1 e0
  obtain ⟨us0, rfl, rfl⟩ := mkP_st hu0
  obtain ⟨c0, d0, u0, rr0, hc0, hu, h0, E1⟩ := Ats_cons.1 E0
  obtain ⟨u0, us0, rfl, rfl, rfl⟩ := mkPs_cons hu
  obtain ⟨s0, rfl, hs, _⟩ := At_str.1 h0
  obtain ⟨⟨t0, rfl⟩, rfl⟩ := mkP_str hs
  obtain ⟨kk1, hkk1⟩ : ∃ n, n = kk + cntP (.str t0) := ⟨_, rfl⟩
  rw [← hkk1] at E1
  obtain ⟨c1, d1, u1, rr1, rfl, hu, h1, E2⟩ := Ats_cons.1 E1
  obtain ⟨u1, us0, rfl, rfl, rfl⟩ := mkPs_cons hu
  have k1 := h1
  obtain ⟨v1, l1, rfl, hs, _, _⟩ := At_slice.1 h1
  obtain ⟨m1, rfl, rfl⟩ := mkP_lst hs
  obtain ⟨kk2, hkk2⟩ : ∃ n, n = kk1 + cntP (.lst m1) := ⟨_, rfl⟩
  rw [← hkk2] at E2
  obtain ⟨c2, d2, u2, rr2, rfl, hu, h2, E3⟩ := Ats_cons.1 E2
  obtain ⟨u2, us0, rfl, rfl, rfl⟩ := mkPs_cons hu
  have k2 := h2
  obtain ⟨v2, l2, rfl, hs, _, _⟩ := At_slice.1 h2
  obtain ⟨m2, rfl, rfl⟩ := mkP_lst hs
  obtain ⟨kk3, hkk3⟩ : ∃ n, n = kk2 + cntP (.lst m2) := ⟨_, rfl⟩
  rw [← hkk3] at E3
  obtain ⟨c3, d3, u3, rr3, rfl, hu, h3, E4⟩ := Ats_cons.1 E3
  obtain ⟨u3, us0, rfl, rfl, rfl⟩ := mkPs_cons hu
  have k3 := h3
  obtain ⟨v3, l3, rfl, hs, _, _⟩ := At_slice.1 h3
  obtain ⟨m3, rfl, rfl⟩ := mkP_lst hs
  obtain ⟨kk4, hkk4⟩ : ∃ n, n = kk3 + cntP (.lst m3) := ⟨_, rfl⟩
  rw [← hkk4] at E4
  obtain ⟨rfl, hun⟩ := Ats_nil.1 E4
  obtain rfl := mkPs_nil hun
  simp only [List.cons_append, List.nil_append, List.append_nil] at hc0
  simp only [cntP_st, cntPs_cons, cntPs_nil, cntP_str, cntP_int, cntP_bool, Nat.add_zero] at hcnt hkk1 hkk2 hkk3 hkk4
  have ld0 := load1 e2 (by simpa using cells_get hc0 (j := 0) rfl)
  have hm0 := markText (H := H) (k := kk) (by omega)
  have hw0 : IntKind.i64.wrap ((kk : Int) + 1) = (kk1 : Int) := by rw [wrap_i64 (by omega) (by omega)]; omega
  have ld1 := load1 e2 (by simpa using cells_get hc0 (j := 1) rfl)
  have q1 := held_StringS H [v1] (.lst m1) kk1 k1 (by rw [cntPV]; omega)
  rw [cntPV, ← hkk2] at q1
  simp only [valC, List.headD_cons] at q1
  have p1 : ¬ ((kk2 : Int) < 0) := by omega
  have ld2 := load1 e2 (by simpa using cells_get hc0 (j := 2) rfl)
  have q2 := held_StringS H [v2] (.lst m2) kk2 k2 (by rw [cntPV]; omega)
  rw [cntPV, ← hkk3] at q2
  simp only [valC, List.headD_cons] at q2
  have p2 : ¬ ((kk3 : Int) < 0) := by omega
  have ld3 := load1 e2 (by simpa using cells_get hc0 (j := 3) rfl)
  have q3 := held_StringS H [v3] (.lst m3) kk3 k3 (by rw [cntPV]; omega)
  rw [cntPV, ← hkk4] at q3
  simp only [valC, List.headD_cons] at q3
  have p3 : ¬ ((kk4 : Int) < 0) := by omega
  rw [show (shClass).size = 4 from rfl] at e1
  simp [r0, r1, r5, hi, hvl, e1, hid, hw, ld0, hm0, hw0, ld1, q1, p1, ld2, q2, p2, ld3, q3, p3]
  exact ⟨m, by omega, i + 1, by omega, by omega, by omega⟩
theorem mk_NodeS : MkFn 42 (.slice shNode) := by
 intro H cs u F k h hn hk
 obtain ⟨v, l, rfl, rfl, hlen, hv⟩ := AtF_slice.1 h
 have hv := (AtF_slice.2 ⟨v, l, rfl, rfl, hlen, hv⟩).at
 obtain ⟨_, _, hx1, hx2, _, hv⟩ := At_slice.1 hv
 cases hx1; cases hx2
 apply Ret.mark
 rw [op42]
 simp only [cntV] at hk
 have hl64 : l.length ≤ 9223372036854775807 := hlen
 simp [code42, Tryz.f42, valC, -setRange]
 refine WP_loop (fun m σ => ∃ (i : Nat) (r : Nat → R) (G : List Ob), i + m = l.length ∧ σ = ⟨r, 0, G⟩ ∧ r 0 = .val v ∧ r 1 = .val (.int .i64 ((k + cntPs (l.take i) : Nat) : Int)) ∧ r 5 = .val (.int .i64 i) ∧ G.length = H.length ∧ (∀ q, q ∉ F → G[q]? = H[q]?) ∧ AtF G (.slice shNode) [v] (.lst (mkPs (l.take i) k ++ l.drop i)) F) ?_ l.length _ ⟨0, _, H, by simp, rfl, by simp, by simp [cntPs], by simp, rfl, fun _ _ => rfl, by simpa [mkPs] using h⟩
 rintro m σ ⟨i, r, G, him, rfl, r0, r1, r5, g1, g2, g3⟩
 cases m with
 | zero =>
  have hi : i = l.length := by omega
  subst hi
  simp at g3
  simp [r0, r1, r5, hv.len, gcH_len g1, cntV, mkV]
  exact ⟨g1, g2, g3⟩
 | succ m =>
  have hi : i < l.length := by omega
  obtain ⟨x, hx⟩ : ∃ x, l[i]? = some x := ⟨l[i], by simp [hi]⟩
  have hx0 : (mkPs (l.take i) k ++ l.drop i)[i]? = some x := by rw [mk_get hi, hx]
  have hmk := mk_set (k := k) hx
  have hcnt := cntPs_take hx
  have hle := cntPs_take_le (l := l) (i := i + 1)
  have hL : (mkPs (l.take i) k ++ l.drop i).length = l.length := by simp [mkPs_len]; omega
  obtain ⟨L, hLd⟩ : ∃ L, L = mkPs (l.take i) k ++ l.drop i := ⟨_, rfl⟩
  rw [← hLd] at hx0 hmk hL g3
  clear hLd
  obtain ⟨id, off, cells, K, e0, e1, e2, e3, e4, e5, e6, e7, e8⟩ := AtF.elem g3 hn hx0
  clear e1 e2 e4 e5 e7 e8
  rw [hL] at e0
  subst e0
  generalize List.take (shNode).size (List.drop (off + i * (shNode).size) cells) = cc at e3
  replace e3 := AtF_st.1 e3
  obtain ⟨us, rfl, e3⟩ := e3
  replace e3 := AtsF_cons.1 e3
  obtain ⟨c0, d0, u0, rr0, F0, E0, rfl, rfl, rfl, h0, e3⟩ := e3
  replace e3 := AtsF_cons.1 e3
  obtain ⟨c1, d1, u1, rr1, F1, E1, rfl, rfl, rfl, h1, e3⟩ := e3
  replace e3 := AtsF_cons.1 e3
  obtain ⟨c2, d2, u2, rr2, F2, E2, rfl, rfl, rfl, h2, e3⟩ := e3
  replace e3 := AtsF_cons.1 e3
  obtain ⟨c3, d3, u3, rr3, F3, E3, rfl, rfl, rfl, h3, e3⟩ := e3
  replace e3 := AtsF_nil.1 e3
  obtain ⟨rfl, rfl, rfl⟩ := e3
  replace h0 := AtF_int.1 h0
  obtain ⟨⟨n0, rfl, rfl, w0⟩, rfl⟩ := h0
  replace h1 := AtF_str.1 h1
  obtain ⟨⟨s1, rfl, rfl, w1⟩, rfl⟩ := h1
  replace h2 := AtF_str.1 h2
  obtain ⟨⟨s2, rfl, rfl, w2⟩, rfl⟩ := h2
  replace h3 := AtF_int.1 h3
  obtain ⟨⟨n3, rfl, rfl, w3⟩, rfl⟩ := h3
  simp only [cntP, cntPs_cons, cntPs_nil, Nat.add_zero] at hcnt
  obtain ⟨kk, hkk⟩ : ∃ kk, kk = k + cntPs (l.take i) := ⟨_, rfl⟩
  rw [← hkk] at r1
  obtain ⟨id0, off0, cells0, w0, K0, ev0, eg0, ei0, ek0, ew0, ea0, en0, es0, er0, et0⟩ := AtF.field [] g3 hn (i := i) (us1 := []) (u := (.int n0)) (us2 := [(.str s1), (.str s2), (.int n3)]) hx0 rfl rfl
  simp only [V.slc.injEq, Option.some.injEq, Prod.mk.injEq] at ev0
  obtain ⟨⟨rfl, rfl⟩, _⟩ := ev0
  simp only [shNode, Sh.size_st, Sh.sizes_cons, Sh.sizes_nil, Sh.size_str, Sh.size_slice, Sh.size_int, Sh.size_bool, List.cons_append, List.nil_append, Nat.reduceAdd, Nat.add_zero] at eg0 ew0 et0 er0
  obtain ⟨_, rfl⟩ := AtF_int.1 ea0
  have st0 := store1 (v := (.int .i64 kk)) eg0 (List.getElem?_eq_some_iff.1 ew0).1 rfl rfl
  have A0 := et0 (.int .i64 kk) (.int kk) (AtF_int.2 ⟨⟨_, rfl, rfl, wf_nat (by omega)⟩, rfl⟩)
  obtain ⟨G0, hG0⟩ : ∃ G', G' = G.set id (.mk true 4 (cells0.set (off + i * 4) (.int .i64 kk))) := ⟨_, rfl⟩
  rw [← hG0] at st0 A0
  have ln0 : G0.length = H.length := by rw [hG0, List.length_set]; exact g1
  have fr0 : ∀ q, q ∉ F → G0[q]? = H[q]? := fun q hq => by rw [hG0, List.getElem?_set_ne (by rintro rfl; exact hq e6)]; exact g2 q hq
  clear hG0
  obtain ⟨kk0, hkk0⟩ : ∃ n, n = kk + 1 := ⟨_, rfl⟩
  have hw0 : IntKind.i64.wrap ((kk : Int) + 1) = (kk0 : Int) := by rw [wrap_i64 (by omega) (by omega)]; omega
  have hx0_ : (L.set i (.st [(.int kk), (.str s1), (.str s2), (.int n3)]))[i]? = some (.st [(.int kk), (.str s1), (.str s2), (.int n3)]) := List.getElem?_set_self (by omega)
  obtain ⟨id1, off1, cells1, w1, K1, ev1, eg1, ei1, ek1, ew1, ea1, en1, es1, er1, et1⟩ := AtF.field [(.int .i64)] A0 hn (i := i) (us1 := [(.int kk)]) (u := (.str s1)) (us2 := [(.str s2), (.int n3)]) hx0_ rfl rfl
  simp only [V.slc.injEq, Option.some.injEq, Prod.mk.injEq] at ev1
  obtain ⟨⟨rfl, rfl⟩, _⟩ := ev1
  simp only [shNode, Sh.size_st, Sh.sizes_cons, Sh.sizes_nil, Sh.size_str, Sh.size_slice, Sh.size_int, Sh.size_bool, List.cons_append, List.nil_append, Nat.reduceAdd, Nat.add_zero] at eg1 ew1 et1 er1
  obtain ⟨_, rfl⟩ := AtF_str.1 ea1
  have q1 := markText (H := G0) (k := kk0) (by omega)
  have st1 := store1 (v := (.str (markStr kk0))) eg1 (List.getElem?_eq_some_iff.1 ew1).1 rfl rfl
  have A1 := et1 (.str (markStr kk0)) (.str (markStr kk0)) (AtF_str.2 ⟨⟨_, rfl, rfl, mark_ok (by omega)⟩, rfl⟩)
  obtain ⟨G1, hG1⟩ : ∃ G', G' = G0.set id (.mk true 4 (cells1.set (off + i * 4 + 1) (.str (markStr kk0)))) := ⟨_, rfl⟩
  rw [← hG1] at st1 A1
  have ln1 : G1.length = H.length := by rw [hG1, List.length_set]; exact ln0
  have fr1 : ∀ q, q ∉ F → G1[q]? = H[q]? := fun q hq => by rw [hG1, List.getElem?_set_ne (by rintro rfl; exact hq e6)]; exact fr0 q hq
  clear hG1
  obtain ⟨kk1, hkk1⟩ : ∃ n, n = kk0 + 1 := ⟨_, rfl⟩
  have hw1 : IntKind.i64.wrap ((kk0 : Int) + 1) = (kk1 : Int) := by rw [wrap_i64 (by omega) (by omega)]; omega
  rw [List.set_set] at A1
  have hx1_ : (L.set i (.st [(.int kk), (.str (markStr kk0)), (.str s2), (.int n3)]))[i]? = some (.st [(.int kk), (.str (markStr kk0)), (.str s2), (.int n3)]) := List.getElem?_set_self (by omega)
  obtain ⟨id2, off2, cells2, w2, K2, ev2, eg2, ei2, ek2, ew2, ea2, en2, es2, er2, et2⟩ := AtF.field [(.int .i64), .str] A1 hn (i := i) (us1 := [(.int kk), (.str (markStr kk0))]) (u := (.str s2)) (us2 := [(.int n3)]) hx1_ rfl rfl
  simp only [V.slc.injEq, Option.some.injEq, Prod.mk.injEq] at ev2
  obtain ⟨⟨rfl, rfl⟩, _⟩ := ev2
  simp only [shNode, Sh.size_st, Sh.sizes_cons, Sh.sizes_nil, Sh.size_str, Sh.size_slice, Sh.size_int, Sh.size_bool, List.cons_append, List.nil_append, Nat.reduceAdd, Nat.add_zero] at eg2 ew2 et2 er2
  obtain ⟨_, rfl⟩ := AtF_str.1 ea2
  have q2 := markText (H := G1) (k := kk1) (by omega)
  have st2 := store1 (v := (.str (markStr kk1))) eg2 (List.getElem?_eq_some_iff.1 ew2).1 rfl rfl
  have A2 := et2 (.str (markStr kk1)) (.str (markStr kk1)) (AtF_str.2 ⟨⟨_, rfl, rfl, mark_ok (by omega)⟩, rfl⟩)
  obtain ⟨G2, hG2⟩ : ∃ G', G' = G1.set id (.mk true 4 (cells2.set (off + i * 4 + 2) (.str (markStr kk1)))) := ⟨_, rfl⟩
  rw [← hG2] at st2 A2
  have ln2 : G2.length = H.length := by rw [hG2, List.length_set]; exact ln1
  have fr2 : ∀ q, q ∉ F → G2[q]? = H[q]? := fun q hq => by rw [hG2, List.getElem?_set_ne (by rintro rfl; exact hq e6)]; exact fr1 q hq
  clear hG2
  obtain ⟨kk2, hkk2⟩ : ∃ n, n = kk1 + 1 := ⟨_, rfl⟩
  have hw2 : IntKind.i64.wrap ((kk1 : Int) + 1) = (kk2 : Int) := by rw [wrap_i64 (by omega) (by omega)]; omega
  rw [List.set_set] at A2
  have hx2_ : (L.set i (.st [(.int kk), (.str (markStr kk0)), (.str (markStr kk1)), (.int n3)]))[i]? = some (.st [(.int kk), (.str (markStr kk0)), (.str (markStr kk1)), (.int n3)]) := List.getElem?_set_self (by omega)
  obtain ⟨id3, off3, cells3, w3, K3, ev3, eg3, ei3, ek3, ew3, ea3, en3, es3, er3, et3⟩ := AtF.field [(.int .i64), .str, .str] A2 hn (i := i) (us1 := [(.int kk), (.str (markStr kk0)), (.str (markStr kk1))]) (u := (.int n3)) (us2 := []) hx2_ rfl rfl
  simp only [V.slc.injEq, Option.some.injEq, Prod.mk.injEq] at ev3
  obtain ⟨⟨rfl, rfl⟩, _⟩ := ev3
  simp only [shNode, Sh.size_st, Sh.sizes_cons, Sh.sizes_nil, Sh.size_str, Sh.size_slice, Sh.size_int, Sh.size_bool, List.cons_append, List.nil_append, Nat.reduceAdd, Nat.add_zero] at eg3 ew3 et3 er3
  obtain ⟨_, rfl⟩ := AtF_int.1 ea3
  have st3 := store1 (v := (.int .i64 kk2)) eg3 (List.getElem?_eq_some_iff.1 ew3).1 rfl rfl
  have A3 := et3 (.int .i64 kk2) (.int kk2) (AtF_int.2 ⟨⟨_, rfl, rfl, wf_nat (by omega)⟩, rfl⟩)
  obtain ⟨G3, hG3⟩ : ∃ G', G' = G2.set id (.mk true 4 (cells3.set (off + i * 4 + 3) (.int .i64 kk2))) := ⟨_, rfl⟩
  rw [← hG3] at st3 A3
  have ln3 : G3.length = H.length := by rw [hG3, List.length_set]; exact ln2
  have fr3 : ∀ q, q ∉ F → G3[q]? = H[q]? := fun q hq => by rw [hG3, List.getElem?_set_ne (by rintro rfl; exact hq e6)]; exact fr2 q hq
  clear hG3
  obtain ⟨kk3, hkk3⟩ : ∃ n, n = kk2 + 1 := ⟨_, rfl⟩
  have hw3 : IntKind.i64.wrap ((kk2 : Int) + 1) = (kk3 : Int) := by rw [wrap_i64 (by omega) (by omega)]; omega
  rw [List.set_set] at A3
  have hx3_ : (L.set i (.st [(.int kk), (.str (markStr kk0)), (.str (markStr kk1)), (.int kk2)]))[i]? = some (.st [(.int kk), (.str (markStr kk0)), (.str (markStr kk1)), (.int kk2)]) := List.getElem?_set_self (by omega)
  have hks : k + cntPs (l.take (i + 1)) = kk3 := by omega
  rw [show L.set i (.st [(.int kk), (.str (markStr kk0)), (.str (markStr kk1)), (.int kk2)]) = _ from (by simp only [hkk0, hkk1, hkk2, hkk3, hkk]; exact hmk)] at A3
  have hw : IntKind.i64.wrap ((i : Int) + 1) = ((i : Int) + 1) := wrap_i64 (by omega) (by omega)
  have hix : i + 1 ≤ l.length := hi
  simp [r0, r1, r5, hi, hw, st0, hw0, q1, st1, hw1, q2, st2, hw2, st3, hw3, -setRange]
  exact ⟨m, by omega, i + 1, by omega, _, _, ⟨rfl, rfl⟩, by simp [r0], by simp; omega, by simp, ln3, fr3, A3⟩

end Go.Proofs.Try1
end
section
namespace Go.Lite
open Go
def Le (G G' : List Ob) : Prop := ∃ S, G' = G ++ S
def Up (G G' : List Ob) : Prop := ∀ (q : Nat) o, G[q]? = some o → G'[q]? = some o
section
variable {A B D G G' : List Ob} {sh : Sh} {cs : List V} {u : U} {F : List Nat} {b e : Nat}
theorem Le.refl : Le A A := ⟨[], by simp⟩
theorem Le.app {T : List Ob} : Le A (A ++ T) := ⟨T, rfl⟩
theorem Le.trans (h : Le A B) (k : Le B D) : Le A D := by
 obtain ⟨S, rfl⟩ := h
 obtain ⟨T, rfl⟩ := k
 exact ⟨S ++ T, by rw [List.append_assoc]⟩
theorem Le.len (h : Le A B) : A.length ≤ B.length := by obtain ⟨S, rfl⟩ := h; simp
theorem Le.up (h : Le A B) : Up A B := by obtain ⟨S, rfl⟩ := h; exact up_append
theorem Up.refl : Up A A := fun _ _ h => h
theorem Up.trans (h : Up A B) (k : Up B D) : Up A D := fun q o hq => k q o (h q o hq)
theorem At.Up (h : At A sh cs u) (k : Up A B) : At B sh cs u := At.up k sh h
theorem At.Le (h : At A sh cs u) (k : Le A B) : At B sh cs u := At.up k.up sh h
theorem New.Le (h : New b e A sh cs u) (k : Le A B) : New b e B sh cs u := by obtain ⟨S, rfl⟩ := k; exact h.ext
theorem Up.frame (h : ∀ q, q < A.length → B[q]? = A[q]?) : Up A B := fun q o hq => by
 rw [h q (List.getElem?_eq_some_iff.1 hq).1]; exact hq
theorem isOne_cells {v : V} (h : isOne v = true) : cellsOf v = some [v] := by cases v <;> first | rfl | simp [isOne] at h
theorem ones_all (h : At A sh cs u) : ∀ x ∈ cs, isOne x = true ∧ cellsOf x = some [x] := fun x hx => by
 have := List.all_eq_true.1 (At.ones _ h) x hx
 exact ⟨this, isOne_cells this⟩
theorem list1 {α : Type} {l : List α} (h : l.length = 1) : ∃ a, l = [a] := by
 match l, h with
 | [a], _ => exact ⟨a, rfl⟩
theorem list2 {α : Type} {l : List α} (h : l.length = 2) : ∃ a b, l = [a, b] := by
 match l, h with
 | [a, b], _ => exact ⟨a, b, rfl⟩
theorem list4 {α : Type} {l : List α} (h : l.length = 4) : ∃ a b c d, l = [a, b, c, d] := by
 match l, h with
 | [a, b, c, d], _ => exact ⟨a, b, c, d, rfl⟩
theorem list6 {α : Type} {l : List α} (h : l.length = 6) : ∃ a b c d e f, l = [a, b, c, d, e, f] := by
 match l, h with
 | [a, b, c, d, e, f], _ => exact ⟨a, b, c, d, e, f, rfl⟩
end
mutual
def Sh.fan : Sh → Nat
 | .slice e => e.fan
 | .st fs => Sh.fans fs
 | _ => 1
def Sh.fans : List Sh → Nat
 | [] => 0
 | f :: fs => f.fan + Sh.fans fs
end
theorem cntPs_sum {f : Nat} {l : List U} (h : ∀ u ∈ l, cntP u ≤ f * (1 + wt u)) : cntPs l ≤ f * (l.length + wts l) := by
 induction l with
 | nil => simp [cntPs]
 | cons u us ih =>
  have h1 := h u List.mem_cons_self
  have h2 := ih fun w hw => h w (List.mem_cons_of_mem _ hw)
  have e : f * ((u :: us).length + wts (u :: us)) = f * (1 + wt u) + f * (us.length + wts us) := by
   rw [← Nat.mul_add]
   simp only [List.length_cons, wts]
   congr 1
   omega
  simp only [cntPs]
  omega
theorem Sl.each {H : List Ob} {n : Nat} {R : List V → U → Prop} {v : V} {l : List U} (h : Sl H n R v l) : ∀ u ∈ l, ∃ cs, R cs u := by
 intro u hu
 rcases h with ⟨_, rfl⟩ | ⟨id, off, own, cells, _, _, _, h4⟩
 ·cases hu
 ·obtain ⟨i, hi, rfl⟩ := List.getElem_of_mem hu
  exact ⟨_, h4 i _ (List.getElem?_eq_getElem hi)⟩
mutual
theorem cntP_bound {H : List Ob} : ∀ (sh : Sh) {cs : List V} {u : U}, At H sh cs u → cntP u ≤ sh.fan * (1 + wt u)
 | .int k, _, _, h => by obtain ⟨n, _, rfl, _⟩ := At_int.1 h; simp [cntP, Sh.fan, wt]
 | .bool, _, _, h => by obtain ⟨n, _, rfl⟩ := At_bool.1 h; simp [cntP, Sh.fan, wt]
 | .str, _, _, h => by obtain ⟨n, _, rfl, _⟩ := At_str.1 h; simp only [cntP, Sh.fan, wt]; omega
 | .slice e, _, _, h => by
  obtain ⟨v, l, _, rfl, _, h4⟩ := At_slice.1 h
  have := cntPs_sum (f := e.fan) (l := l) fun u hu => by
   obtain ⟨cs, hc⟩ := h4.each u hu
   exact cntP_bound e hc
  simp only [cntP, Sh.fan, wt]
  refine Nat.le_trans this (Nat.mul_le_mul_left _ (by omega))
 | .st fs, _, _, h => by
  obtain ⟨us, rfl, h2⟩ := At_st.1 h
  have := cntPs_bound fs h2
  simp only [cntP, Sh.fan, wt]
  exact this
theorem cntPs_bound {H : List Ob} : ∀ (fs : List Sh) {cs : List V} {us : List U}, Ats H fs cs us → cntPs us ≤ Sh.fans fs * (1 + wts us)
 | [], _, _, h => by obtain ⟨_, rfl⟩ := Ats_nil.1 h; simp [cntPs]
 | f :: fs, _, _, h => by
  obtain ⟨c1, c2, u, us', _, rfl, h3, h4⟩ := Ats_cons.1 h
  have h5 := cntP_bound f h3
  have h6 := cntPs_bound fs h4
  simp only [cntPs, Sh.fans, wts]
  have e1 : f.fan * (1 + wt u) ≤ f.fan * (1 + (wt u + wts us')) := Nat.mul_le_mul_left _ (by omega)
  have e2 : Sh.fans fs * (1 + wts us') ≤ Sh.fans fs * (1 + (wt u + wts us')) := Nat.mul_le_mul_left _ (by omega)
  rw [Nat.add_mul]
  omega
end
mutual
theorem cntV_le : ∀ (u : U), cntV u ≤ cntP u
 | .int _ => by simp [cntV]
 | .bool _ => by simp [cntV]
 | .str _ => by simp [cntV]
 | .lst l => by rw [cntPV]; exact Nat.le_refl _
 | .st us => by simp only [cntV, cntP]; exact cntVs_le us
theorem cntVs_le : ∀ (us : List U), cntVs us ≤ cntPs us
 | [] => by simp [cntVs]
 | u :: us => by simp only [cntVs, cntPs]; have h1 := cntV_le u; have h2 := cntVs_le us; omega
end
theorem cntV_bound {H : List Ob} {sh : Sh} {cs : List V} {u : U} (h : At H sh cs u) (n : Nat) (hn : sh.fan ≤ n) : cntV u ≤ n * (1 + wt u) :=
 Nat.le_trans (Nat.le_trans (cntV_le u) (cntP_bound sh h)) (Nat.mul_le_mul_right _ hn)
end Go.Lite
end
section
namespace Go.Proofs.Try1
open Go Go.Lite
section
variable {f k b e : Nat} {sh : Sh} {H : List Ob} {cs ds : List V} {u : U}
theorem toN (hf : ToFn f sh) (h : At H sh cs u) (hw : wt u ≤ 1048576) : ∃ G cs', callW C f [valC sh cs] H = some (valC sh cs', G) ∧ Le H G ∧ New H.length G.length G sh cs' u := by
 obtain ⟨S, cs', F, c1, a1, n1, g1⟩ := hf H cs u h hw
 exact ⟨_, cs', c1, ⟨S, rfl⟩, F, a1, n1, fun q hq => ⟨g1 q hq, AtF.mem _ a1 q hq⟩⟩
theorem eqN (hf : EqFn f sh) (h : At H sh cs u) (h' : At H sh ds u) : callW C f [valC sh cs, valC sh ds] H = some (.bool true, H) := by
 obtain ⟨t, ht, c⟩ := hf H cs ds u u h h'
 obtain rfl := ht.2 rfl
 exact c
theorem mkN (hf : MkFn f sh) (h : New b e H sh cs u) (hk : k + cntV u ≤ 50000000) : ∃ G, callW C f [valC sh cs, .int .i64 k] H = some (.int .i64 ((k + cntV u : Nat) : Int), G) ∧ G.length = H.length ∧ (∀ q, q < b ∨ e ≤ q → G[q]? = H[q]?) ∧ New b e G sh cs (mkV u k) := by
 obtain ⟨F, h1, h2, h3⟩ := h
 obtain ⟨G, c, l, fr, a⟩ := hf H cs u F k h1 h2 hk
 exact ⟨G, c, l, fun q hq => fr q fun hm => by have := h3 q hm; omega, F, a, h2, h3⟩
end
theorem cntPs_map {α : Type} {f : α → U} {l : List α} {k : Nat} (h : ∀ x ∈ l, cntP (f x) ≤ k) : cntPs (l.map f) ≤ l.length * k := by
 induction l with
 | nil => simp [cntPs]
 | cons x l ih =>
  have h1 := h x List.mem_cons_self
  have h2 := ih fun y hy => h y (List.mem_cons_of_mem _ hy)
  simp only [List.map_cons, cntPs, List.length_cons, Nat.add_mul]
  omega
theorem ret_FnExactInFlow {H : List Ob} {c0 : List V} {u0 : U} {c1 : List V} {u1 : U} {c2 : List V} {u2 : U}  {rV : V} (h0 : At H shFlow c0 u0) (h1 : At H shEntry c1 u1) (h2 : At H (.slice .str) c2 u2)
  (hS : ∀ (G : List Ob) (x0 x1 x2 : List V), At G shFlow x0 u0 → At G shEntry x1 u1 → At G (.slice .str) x2 u2 → ∃ G', callW C 12 [valC shFlow x0, valC shEntry x1, valC (.slice .str) x2] G = some (rV, G') ∧ Le G G')
  (hI : ∀ (G : List Ob) (x0 x1 x2 : List V), At G shFlow x0 u0 → At G shEntry x1 u1 → At G (.slice .str) x2 u2 → ∃ G', callW C 16 [valC shFlow x0, valC shEntry x1, valC (.slice .str) x2] G = some (rV, G') ∧ Le G G')
  (hR : ∃ n, rV = .bool n) : Ret C 3 [valC shFlow c0, valC shEntry c1, valC (.slice .str) c2] H fun r _ => r = .bool true := by
 obtain ⟨nR, rfl⟩ := hR
 rw [op3]
 obtain ⟨c0_0, c0_1, c0_2, c0_3, c0_4, c0_5, rfl⟩ := list6 (At.len _ h0 : _ = 6)
 have on0 := ones_all h0
 simp only [List.mem_cons, List.not_mem_nil, or_false, forall_eq_or_imp, forall_eq] at on0
 obtain ⟨c1_0, c1_1, rfl⟩ := list2 (At.len _ h1 : _ = 2)
 have on1 := ones_all h1
 simp only [List.mem_cons, List.not_mem_nil, or_false, forall_eq_or_imp, forall_eq] at on1
 obtain ⟨c2_0, rfl⟩ := list1 (At.len _ h2 : _ = 1)
 have on2 := ones_all h2
 simp only [List.mem_cons, List.not_mem_nil, or_false, forall_eq_or_imp, forall_eq] at on2
 simp only [valC, List.headD_cons]
 have b0 := sz_Flow H [c0_0, c0_1, c0_2, c0_3, c0_4, c0_5] _ (1048576) h0 (by omega)
 simp only [valC, List.headD_cons] at b0
 by_cases g0 : wt u0 ≤ 1048576
 rotate_left
 ·rw [if_neg g0] at b0
  simp at b0
  simp [code3, Tryz.f3, on0, on1, on2, b0]
 rw [if_pos g0] at b0
 have hw0 : wt u0 ≤ 1048576 := by omega
 have p0 : ¬ (((1048576 - wt u0 : Nat) : Int) < 0) := by omega
 obtain ⟨LL0, hLL0⟩ : ∃ n, n = 1048576 - wt u0 := ⟨_, rfl⟩
 rw [← hLL0] at b0 p0
 have q0 : LL0 + wt u0 = 1048576 := by omega
 have b1 := sz_Entry H [c1_0, c1_1] _ (LL0) h1 (by omega)
 simp only [valC, List.headD_cons] at b1
 by_cases g1 : wt u1 ≤ LL0
 rotate_left
 ·rw [if_neg g1] at b1
  simp at b0 b1
  simp [code3, Tryz.f3, on0, on1, on2, b0, p0, b1]
 rw [if_pos g1] at b1
 have hw1 : wt u1 ≤ 1048576 := by omega
 have p1 : ¬ (((LL0 - wt u1 : Nat) : Int) < 0) := by omega
 obtain ⟨LL1, hLL1⟩ : ∃ n, n = LL0 - wt u1 := ⟨_, rfl⟩
 rw [← hLL1] at b1 p1
 have q1 : LL1 + wt u1 = LL0 := by omega
 have b2 := sz_StringS H [c2_0] _ (LL1) h2 (by omega)
 simp only [valC, List.headD_cons] at b2
 by_cases g2 : wt u2 ≤ LL1
 rotate_left
 ·rw [if_neg g2] at b2
  simp at b0 b1 b2
  simp [code3, Tryz.f3, on0, on1, on2, b0, p0, b1, p1, b2]
 rw [if_pos g2] at b2
 have hw2 : wt u2 ≤ 1048576 := by omega
 have p2 : ¬ (((LL1 - wt u2 : Nat) : Int) < 0) := by omega
 obtain ⟨LL2, hLL2⟩ : ∃ n, n = LL1 - wt u2 := ⟨_, rfl⟩
 rw [← hLL2] at b2 p2
 have q2 : LL2 + wt u2 = LL1 := by omega
 have L0 : Le H H := Le.refl
 obtain ⟨G1, y0, k1, s1, n1⟩ := toN to_Flow (h0.Le L0) hw0
 have l1 := s1.len
 have L1 := L0.trans s1
 obtain ⟨y0_0, y0_1, y0_2, y0_3, y0_4, y0_5, rfl⟩ := list6 (At.len _ n1.at : _ = 6)
 have o1 := ones_all n1.at
 simp only [List.mem_cons, List.not_mem_nil, or_false, forall_eq_or_imp, forall_eq] at o1
 simp only [valC, List.headD_cons] at k1
 obtain ⟨G2, y1, k2, s2, n2⟩ := toN to_Entry (h1.Le L1) hw1
 have l2 := s2.len
 have L2 := L1.trans s2
 obtain ⟨y1_0, y1_1, rfl⟩ := list2 (At.len _ n2.at : _ = 2)
 have o2 := ones_all n2.at
 simp only [List.mem_cons, List.not_mem_nil, or_false, forall_eq_or_imp, forall_eq] at o2
 simp only [valC, List.headD_cons] at k2
 obtain ⟨G3, y2, k3, s3, n3⟩ := toN to_StringS (h2.Le L2) hw2
 have l3 := s3.len
 have L3 := L2.trans s3
 obtain ⟨y2_0, rfl⟩ := list1 (At.len _ n3.at : _ = 1)
 have o3 := ones_all n3.at
 simp only [List.mem_cons, List.not_mem_nil, or_false, forall_eq_or_imp, forall_eq] at o3
 simp only [valC, List.headD_cons] at k3
 obtain ⟨G4, k4, s4⟩ := hS _ [y0_0, y0_1, y0_2, y0_3, y0_4, y0_5] [y1_0, y1_1] [y2_0] (n1.at.Le (Le.trans s2 s3)) (n2.at.Le s3) (n3.at.Le Le.refl)
 have l4 := s4.len
 have L4 := L3.trans s4
 simp only [valC, List.headD_cons] at k4
 obtain ⟨G5, z0, k5, s5, n5⟩ := toN to_Flow (h0.Le L4) hw0
 have l5 := s5.len
 have L5 := L4.trans s5
 obtain ⟨z0_0, z0_1, z0_2, z0_3, z0_4, z0_5, rfl⟩ := list6 (At.len _ n5.at : _ = 6)
 have o5 := ones_all n5.at
 simp only [List.mem_cons, List.not_mem_nil, or_false, forall_eq_or_imp, forall_eq] at o5
 simp only [valC, List.headD_cons] at k5
 obtain ⟨G6, z1, k6, s6, n6⟩ := toN to_Entry (h1.Le L5) hw1
 have l6 := s6.len
 have L6 := L5.trans s6
 obtain ⟨z1_0, z1_1, rfl⟩ := list2 (At.len _ n6.at : _ = 2)
 have o6 := ones_all n6.at
 simp only [List.mem_cons, List.not_mem_nil, or_false, forall_eq_or_imp, forall_eq] at o6
 simp only [valC, List.headD_cons] at k6
 obtain ⟨G7, z2, k7, s7, n7⟩ := toN to_StringS (h2.Le L6) hw2
 have l7 := s7.len
 have L7 := L6.trans s7
 obtain ⟨z2_0, rfl⟩ := list1 (At.len _ n7.at : _ = 1)
 have o7 := ones_all n7.at
 simp only [List.mem_cons, List.not_mem_nil, or_false, forall_eq_or_imp, forall_eq] at o7
 simp only [valC, List.headD_cons] at k7
 obtain ⟨G8, k8, s8⟩ := hI _ [z0_0, z0_1, z0_2, z0_3, z0_4, z0_5] [z1_0, z1_1] [z2_0] (n5.at.Le (Le.trans s6 s7)) (n6.at.Le s7) (n7.at.Le Le.refl)
 have l8 := s8.len
 have L8 := L7.trans s8
 simp only [valC, List.headD_cons] at k8
 obtain ⟨G9, v0, k9, s9, n9⟩ := toN to_Flow (h0.Le L8) hw0
 have l9 := s9.len
 have L9 := L8.trans s9
 obtain ⟨v0_0, v0_1, v0_2, v0_3, v0_4, v0_5, rfl⟩ := list6 (At.len _ n9.at : _ = 6)
 have o9 := ones_all n9.at
 simp only [List.mem_cons, List.not_mem_nil, or_false, forall_eq_or_imp, forall_eq] at o9
 simp only [valC, List.headD_cons] at k9
 have k10 := eqN eq_Flow (n5.at.Le (Le.trans (Le.trans (Le.trans s6 s7) s8) s9)) n9.at
 simp only [valC, List.headD_cons] at k10
 obtain ⟨G10, v1, k11, s10, n10⟩ := toN to_Entry (h1.Le L9) hw1
 have l10 := s10.len
 have L10 := L9.trans s10
 obtain ⟨v1_0, v1_1, rfl⟩ := list2 (At.len _ n10.at : _ = 2)
 have o10 := ones_all n10.at
 simp only [List.mem_cons, List.not_mem_nil, or_false, forall_eq_or_imp, forall_eq] at o10
 simp only [valC, List.headD_cons] at k11
 have k12 := eqN eq_Entry (n6.at.Le (Le.trans (Le.trans (Le.trans s7 s8) s9) s10)) n10.at
 simp only [valC, List.headD_cons] at k12
 obtain ⟨G11, v2, k13, s11, n11⟩ := toN to_StringS (h2.Le L10) hw2
 have l11 := s11.len
 have L11 := L10.trans s11
 obtain ⟨v2_0, rfl⟩ := list1 (At.len _ n11.at : _ = 1)
 have o11 := ones_all n11.at
 simp only [List.mem_cons, List.not_mem_nil, or_false, forall_eq_or_imp, forall_eq] at o11
 simp only [valC, List.headD_cons] at k13
 have k14 := eqN eq_StringS (n7.at.Le (Le.trans (Le.trans (Le.trans s8 s9) s10) s11)) n11.at
 simp only [valC, List.headD_cons] at k14
 simp at b0
 simp [code3, Tryz.f3, on0, on1, on2, b0, p0, b1, p1, b2, p2, k1, o1, k2, o2, k3, o3, k4, k5, o5, k6, o6, k7, o7, k8, k9, o9, k10, k11, o10, k12, k13, o11, k14, regionL_some, List.lookup]
theorem s_Plain {t : Str} {H : List Ob} (ht : t.length ≤ 1000) : callW C 324 [.str t] H = some (.bool (dec (Plain t)), H) := by
 apply Ret.dec
 rw [op324]
 simp [code324, Tryz.f324]
 refine WP_loop (fun k σ => ∃ (i : Nat) (r : Nat → R), i + k = t.length ∧ σ = ⟨r, 0, H⟩ ∧ r 0 = .val (.str t) ∧ r 3 = .val (.int .i64 i) ∧ ∀ j, j < i → ∀ c, t[j]? = some c → PlainB c) ?_ t.length _ ⟨0, _, by simp, rfl, by simp, by simp, by simp⟩
 rintro k σ ⟨i, r, hik, rfl, r0, r3, hall⟩
 cases k with
 | zero =>
  have hi : i = t.length := by omega
  subst hi
  simp [r0, r3]
  intro j c hc
  exact hall j (List.getElem?_eq_some_iff.1 hc).1 c hc
 | succ k =>
  have hi : i < t.length := by omega
  obtain ⟨c, hc⟩ : ∃ c, t[i]? = some c := ⟨t[i], by simp [hi]⟩
  have hc' : t[i] = c := (List.getElem?_eq_some_iff.1 hc).2
  have hw : IntKind.i64.wrap ((i : Int) + 1) = ((i : Int) + 1) := wrap_i64 (by omega) (by omega)
  by_cases h1 : (c.toNat : Int) < 32
  ·simp [r0, r3, hi, hc', h1]
   intro hp
   have := (hp i c hc).1
   omega
  ·by_cases h2 : (c.toNat : Int) > 126
   ·simp [r0, r3, hi, hc', h1, h2]
    intro hp
    have := (hp i c hc).2
    omega
   ·simp [r0, r3, hi, hc', h1, h2, hw]
    exact ⟨k, by omega, i + 1, by omega, by omega, all_step (P := fun _ c => PlainB c) hall hc ⟨by omega, by omega⟩⟩
theorem i_Plain {t : Str} {H : List Ob} (ht : t.length ≤ 1000) : callW C 289 [.str t] H = some (.bool (dec (Plain t)), H) := by
 apply Ret.dec
 rw [op289]
 simp [code289, Tryz.f289]
 refine WP_loop (fun k σ => ∃ (i : Nat) (r : Nat → R), i + k = t.length ∧ σ = ⟨r, 0, H⟩ ∧ r 0 = .val (.str t) ∧ r 5 = .val (.int .i64 t.length) ∧ r 6 = .val (.int .i64 i) ∧ ∀ j, j < i → ∀ c, t[j]? = some c → PlainB c) ?_ t.length _ ⟨0, _, by simp, rfl, by simp, by simp, by simp, by simp⟩
 rintro k σ ⟨i, r, hik, rfl, r0, r5, r6, hall⟩
 cases k with
 | zero =>
  have hi : i = t.length := by omega
  subst hi
  simp [r0, r5, r6]
  intro j c hc
  exact hall j (List.getElem?_eq_some_iff.1 hc).1 c hc
 | succ k =>
  have hi : i < t.length := by omega
  obtain ⟨c, hc⟩ : ∃ c, t[i]? = some c := ⟨t[i], by simp [hi]⟩
  have hc' : t[i] = c := (List.getElem?_eq_some_iff.1 hc).2
  have hw : IntKind.i64.wrap ((i : Int) + 1) = ((i : Int) + 1) := wrap_i64 (by omega) (by omega)
  by_cases h1 : (c.toNat : Int) < 32
  ·simp [r0, r5, r6, hi, hc', h1]
   intro hp
   have := (hp i c hc).1
   omega
  ·by_cases h2 : (c.toNat : Int) > 126
   ·simp [r0, r5, r6, hi, hc', h1, h2]
    intro hp
    have := (hp i c hc).2
    omega
   ·simp [r0, r5, r6, hi, hc', h1, h2, hw]
    exact ⟨k, by omega, i + 1, by omega, by omega, all_step (P := fun _ c => PlainB c) hall hc ⟨by omega, by omega⟩⟩
theorem s_Name {t : Str} {H : List Ob} : callW C 77 [.str t] H = some (.bool (dec (NameOk t)), H) := by
 apply Ret.dec
 rw [op77]
 by_cases g1 : (t.length : Int) < 1
 ·have g2 : ¬ NameOk t := fun h => by have := h.1; omega
  simp [code77, Tryz.f77, g1, g2]
 by_cases g2 : (t.length : Int) > 20
 ·have g3 : ¬ NameOk t := fun h => by have := h.2.1; omega
  simp [code77, Tryz.f77, g1, g2, g3]
 simp [code77, Tryz.f77, g1, g2]
 refine WP_loop (fun k σ => ∃ (i : Nat) (r : Nat → R), i + k = t.length ∧ σ = ⟨r, 0, H⟩ ∧ r 0 = .val (.str t) ∧ r 3 = .val (.int .i64 i) ∧ ∀ j, j < i → ∀ c, t[j]? = some c → LowB c ∨ (0 < j ∧ (DigB c ∨ c.toNat = 95))) ?_ t.length _ ⟨0, _, by simp, rfl, by simp, by simp, by simp⟩
 rintro k σ ⟨i, r, hik, rfl, r0, r3, hall⟩
 cases k with
 | zero =>
  have hi : i = t.length := by omega
  subst hi
  have hok : NameOk t := ⟨by omega, by omega, fun j c hc => hall j (List.getElem?_eq_some_iff.1 hc).1 c hc⟩
  simp [r0, r3, hok]
 | succ k =>
  have hi : i < t.length := by omega
  obtain ⟨c, hc⟩ : ∃ c, t[i]? = some c := ⟨t[i], by simp [hi]⟩
  have hc' : t[i] = c := (List.getElem?_eq_some_iff.1 hc).2
  have hw : IntKind.i64.wrap ((i : Int) + 1) = ((i : Int) + 1) := wrap_i64 (by omega) (by omega)
  have hgo : LowB c ∨ (0 < i ∧ (DigB c ∨ c.toNat = 95)) → ∃ k', k' < k + 1 ∧ ∃ i', i' + k' = t.length ∧ (i : Int) + 1 = i' ∧ ∀ j, j < i' → ∀ c, t[j]? = some c → LowB c ∨ (0 < j ∧ (DigB c ∨ c.toNat = 95)) := fun h =>
   ⟨k, by omega, i + 1, by omega, by omega, all_step (P := fun j c => LowB c ∨ (0 < j ∧ (DigB c ∨ c.toNat = 95))) hall hc h⟩
  by_cases h1 : LowB c
  ·have h1a : (c.toNat : Int) ≥ 97 := by have := h1.1; omega
   have h1b : (c.toNat : Int) ≤ 122 := by have := h1.2; omega
   simp [r0, r3, hi, hc', h1a, h1b, hw]
   exact hgo (.inl h1)
  have hl : (¬ (c.toNat : Int) ≥ 97) ∨ ((c.toNat : Int) ≥ 97 ∧ ¬ (c.toNat : Int) ≤ 122) := by unfold LowB at h1; omega
  have hno : ¬ (0 < i ∧ (DigB c ∨ c.toNat = 95)) → ¬ NameOk t := fun h hk => (hk.2.2 i c hc).elim h1 h
  by_cases h2 : i = 0
  ·have hno := hno (by omega)
   subst h2
   rcases hl with hl | ⟨hl, hl2⟩
   ·simp [r0, r3, hi, hc', hl, hno]
   ·simp [r0, r3, hi, hc', hl, hl2, hno]
  have h2' : ¬ (i : Int) = 0 := by omega
  by_cases h3 : DigB c
  ·have h3a : (c.toNat : Int) ≥ 48 := by have := h3.1; omega
   have h3b : (c.toNat : Int) ≤ 57 := by have := h3.2; omega
   have h3c : ¬ (c.toNat : Int) ≥ 97 := by omega
   simp [r0, r3, hi, hc', h2, h3a, h3b, h3c, hw]
   exact hgo (.inr ⟨by omega, .inl h3⟩)
  have hd : (¬ (c.toNat : Int) ≥ 48) ∨ ((c.toNat : Int) ≥ 48 ∧ ¬ (c.toNat : Int) ≤ 57) := by unfold DigB at h3; omega
  by_cases h4 : c.toNat = 95
  ·have := hgo (.inr ⟨by omega, .inr h4⟩)
   simp [r0, r3, hi, hc', h2, h4, hw]
   exact this
  ·have h4' : ¬ (c.toNat : Int) = 95 := by omega
   have hno := hno (fun h => h.2.elim h3 h4)
   rcases hl with hl | ⟨hl, hl2⟩ <;> rcases hd with hd | ⟨hd, hd2⟩
   ·simp [r0, r3, hi, hc', h2, h4', hl, hd, hno]
   ·simp [r0, r3, hi, hc', h2, h4', hl, hd, hd2, hno]
   ·simp [r0, r3, hi, hc', h2, h4', hl, hl2, hd, hno]
   ·simp [r0, r3, hi, hc', h2, h4', hl, hl2, hd, hd2, hno]
def setB (l : Str) : List V := (List.range 256).map fun i => V.bool (l.any fun c => c.toNat == i)
theorem setOf_len {l : Str} : (setB l).length = 256 := by simp [setB]
theorem setOf_get {l : Str} {i : Nat} (h : i < 256) : (setB l)[i]? = some (.bool (l.any fun c => c.toNat == i)) := by
 unfold setB
 rw [List.getElem?_map, List.getElem?_range h]
 rfl
theorem setOf_mem {l : Str} {c : UInt8} : (setB l)[c.toNat]? = some (.bool (decide (c ∈ l))) := by
 rw [setOf_get c.toNat_lt]
 congr 2
 rw [Bool.eq_iff_iff]
 simp only [List.any_eq_true, decide_eq_true_eq, beq_iff_eq]
 constructor
 ·rintro ⟨d, hd, he⟩
  rw [← UInt8.toNat_inj.1 he]
  exact hd
 ·intro h
  exact ⟨c, h, rfl⟩
theorem setOf_nil : setB [] = List.replicate 256 (.bool false) := by
 apply List.ext_getElem?
 intro i
 by_cases h : i < 256
 ·rw [setOf_get h, List.getElem?_replicate, if_pos h]
  rfl
 ·rw [List.getElem?_eq_none (by rw [setOf_len]; omega), List.getElem?_eq_none (by rw [List.length_replicate]; omega)]
theorem setOf_snoc {l : Str} {c : UInt8} : (setB l).set c.toNat (.bool true) = setB (l ++ [c]) := by
 apply List.ext_getElem?
 intro i
 have hc := c.toNat_lt
 by_cases h : i < 256
 ·rw [setOf_get h]
  by_cases hi : i = c.toNat
  ·subst hi
   rw [List.getElem?_set_self (by rw [setOf_len]; omega)]
   simp
  ·rw [List.getElem?_set_ne (by omega), setOf_get h]
   congr 2
   have : (c.toNat == i) = false := by simp; omega
   simp [this]
 ·rw [List.getElem?_eq_none (by simp [setOf_len]; omega), List.getElem?_eq_none (by rw [setOf_len]; omega)]
theorem mkSet {t : Str} {H : List Ob} (ht : ∀ c ∈ t, c.toNat < 128) (hl : t.length ≤ 1000) : callW C 266 [.str t] H = some (.tup [.agg (setB t), .bool true], H) := by
 apply Ret.eq
 rw [op266]
 simp [code266, Tryz.f266, -List.reduceReplicate]
 refine WP_loop (fun k σ => ∃ (i : Nat) (r : Nat → R), i + k = t.length ∧ σ = ⟨r, 1, H⟩ ∧ r 0 = .val (.str t) ∧ r 2 = .box 0 (setB (t.take i)) ∧ r 4 = .val (.int .i64 i)) ?_ t.length _ ⟨0, _, by simp, rfl, by simp, by simp [setOf_nil, -List.reduceReplicate], by simp⟩
 rintro k σ ⟨i, r, hik, rfl, r0, r2, r4⟩
 cases k with
 | zero =>
  have hi : i = t.length := by omega
  subst hi
  rw [List.take_length] at r2
  have htk : (setB t).take 256 = setB t := List.take_of_length_le (by rw [setOf_len]; omega)
  have hdr : (setB t).drop 256 = [] := List.drop_of_length_le (by rw [setOf_len]; omega)
  have hall : ∀ x ∈ setB t, isOne x = true := fun x hx => by
   simp only [setB, List.mem_map] at hx
   obtain ⟨_, _, rfl⟩ := hx
   rfl
  simp [r0, r2, r4, setOf_len, htk, hdr, if_pos hall, -List.reduceReplicate]
 | succ k =>
  have hi : i < t.length := by omega
  obtain ⟨c, hc⟩ : ∃ c, t[i]? = some c := ⟨t[i], by simp [hi]⟩
  have hc' : t[i] = c := (List.getElem?_eq_some_iff.1 hc).2
  have hw : IntKind.i64.wrap ((i : Int) + 1) = ((i : Int) + 1) := wrap_i64 (by omega) (by omega)
  have h128 : c.toNat < 128 := ht c (List.mem_of_getElem? hc)
  have h1 : ¬ (c.toNat : Int) ≥ 128 := by omega
  have h2 : (c.toNat : Int) < 256 := by omega
  have h3 : c.toNat < 256 := by omega
  have hs : setRange (setB (t.take i)) c.toNat [.bool true] = setB (t.take (i + 1)) := by rw [setRange_one (by rw [setOf_len]; omega), setOf_snoc, take_get hc]
  have h4 : c.toNat + 1 ≤ 256 := by omega
  simp [r0, r2, r4, hi, hc', h1, h2, h3, h4, hw, setOf_len, hs, indexR, -setRange, -List.reduceReplicate]
  exact ⟨k, by omega, i + 1, by omega, rfl, by omega⟩
theorem setHas {l : Str} {H : List Ob} {id : Nat} {own : Bool} {c : UInt8} (h : H[id]? = some (.mk own 1 (setB l))) : callW C 329 [.ptr (some (id, 0)), .int .u8 c.toNat] H = some (.bool (decide (c ∈ l)), H) := by
 apply Ret.eq
 rw [op329]
 have h2 : (c.toNat : Int) < 256 := by have := c.toNat_lt; omega
 have ld := load1 (o := c.toNat) h setOf_mem
 simp [code329, Tryz.f329, indexR, h2, ld, -List.reduceReplicate]
def kset : Str := [97, 98, 99, 100, 101, 102, 103, 104, 105, 106, 107, 108, 109, 110, 111, 112, 113, 114, 115, 116, 117, 118, 119, 120, 121, 122, 48, 49, 50, 51, 52, 53, 54, 55, 56, 57, 95]
theorem kset_mem {c : UInt8} : c ∈ kset ↔ LowB c ∨ DigB c ∨ c.toNat = 95 := by
 unfold kset LowB DigB
 simp only [List.mem_cons, List.not_mem_nil, or_false, ← UInt8.toNat_inj]
 have h := c.toNat_lt
 simp only [UInt8.toNat_ofNat, Nat.reducePow, Nat.reduceMod]
 omega
def AllK (t : Str) : Prop := ∀ c ∈ t, c ∈ kset
theorem trimR {t : Str} {H : List Ob} {id : Nat} {own : Bool} (h : H[id]? = some (.mk own 1 (setB kset))) (hl : t.length ≤ 1000) : ∃ s, callW C 268 [.str t, .ptr (some (id, 0))] H = some (.str s, H) ∧ (AllK s ↔ AllK t) ∧ (s = [] ∨ ¬ AllK s) ∧ s.length ≤ 1000 := by
 suffices hs : Ret C 268 [.str t, .ptr (some (id, 0))] H fun q H' => (∃ s, q = .str s ∧ (AllK s ↔ AllK t) ∧ (s = [] ∨ ¬ AllK s) ∧ s.length ≤ 1000) ∧ H' = H by
  obtain ⟨q, H', hc, ⟨s, rfl, hr⟩, rfl⟩ := hs
  exact ⟨s, hc, hr⟩
 rw [op268]
 simp [code268, Tryz.f268, -List.reduceReplicate]
 refine WP_loop (fun k σ => ∃ (s : Str) (r : Nat → R), s.length = k ∧ σ = ⟨r, 0, H⟩ ∧ r 0 = .val (.str s) ∧ r 1 = .val (.ptr (some (id, 0))) ∧ (AllK s ↔ AllK t) ∧ s.length ≤ 1000) ?_ t.length _ ⟨t, _, rfl, rfl, by simp, by simp, Iff.rfl, hl⟩
 rintro k σ ⟨s, r, hk, rfl, r0, r1, hall, hs⟩
 cases k with
 | zero =>
  have hs0 : s = [] := List.length_eq_zero_iff.1 hk
  subst hs0
  simp [r0, r1]
  exact hall
 | succ k =>
  have hp : (0 : Int) < (s.length : Int) := by omega
  have hne : s ≠ [] := by rintro rfl; simp at hk
  obtain ⟨d, hd⟩ : ∃ d, s.getLast hne = d := ⟨_, rfl⟩
  have hd' : s[s.length - 1]? = some d := by rw [← List.getLast?_eq_getElem?, List.getLast?_eq_some_getLast hne, hd]
  have hd2 : s[s.length - 1]'(by omega) = d := (List.getElem?_eq_some_iff.1 hd').2
  have hw1 : IntKind.i64.wrap ((s.length : Int) - 1) = (s.length : Int) - 1 := wrap_i64 (by omega) (by omega)
  have h3 : (1 : Int) ≤ (s.length : Int) := by omega
  have h4 : ((s.length : Int) - 1).toNat = s.length - 1 := by omega
  have h5 : s.length - 1 < s.length := by omega
  have c1 := setHas (c := d) h
  have hdrop : s = s.take (s.length - 1) ++ [d] := by
   have := take_get hd'
   rw [show s.length - 1 + 1 = s.length by omega, List.take_length] at this
   exact this
  by_cases hm : d ∈ kset
  ·have h6 : s.length - 1 ≤ s.length := by omega
   simp [r0, r1, hp, hne, hw1, h3, h4, h5, h6, hd2, hd', c1, hm, -List.reduceReplicate]
   refine ⟨by omega, k, by omega, _, by simp; omega, rfl, ?_, by simp; omega⟩
   rw [← hall]
   constructor
   ·intro hA c hc
    rw [hdrop] at hc
    rcases List.mem_append.1 hc with hc | hc
    ·exact hA c hc
    ·simp at hc; rw [hc]; exact hm
   ·intro hA c hc
    exact hA c (List.mem_of_mem_take hc)
  ·have hn : ¬ AllK s := fun hA => hm (hA d (List.mem_of_getElem? hd'))
   simp [r0, r1, hp, hne, hw1, h3, h4, h5, hd2, hd', c1, hm, -List.reduceReplicate]
   exact ⟨by omega, hall, hn, hs⟩
theorem trimL {t : Str} {H : List Ob} {id : Nat} {own : Bool} (h : H[id]? = some (.mk own 1 (setB kset))) (hl : t.length ≤ 1000) : ∃ s, callW C 267 [.str t, .ptr (some (id, 0))] H = some (.str s, H) ∧ (AllK s ↔ AllK t) ∧ (s = [] ∨ ¬ AllK s) := by
 suffices hs : Ret C 267 [.str t, .ptr (some (id, 0))] H fun q H' => (∃ s, q = .str s ∧ (AllK s ↔ AllK t) ∧ (s = [] ∨ ¬ AllK s)) ∧ H' = H by
  obtain ⟨q, H', hc, ⟨s, rfl, hr⟩, rfl⟩ := hs
  exact ⟨s, hc, hr⟩
 rw [op267]
 simp [code267, Tryz.f267, -List.reduceReplicate]
 refine WP_loop (fun k σ => ∃ (s : Str) (r : Nat → R), s.length = k ∧ σ = ⟨r, 0, H⟩ ∧ r 0 = .val (.str s) ∧ r 1 = .val (.ptr (some (id, 0))) ∧ (AllK s ↔ AllK t)) ?_ t.length _ ⟨t, _, rfl, rfl, by simp, by simp, Iff.rfl⟩
 rintro k σ ⟨s, r, hk, rfl, r0, r1, hall⟩
 cases k with
 | zero =>
  have hs0 : s = [] := List.length_eq_zero_iff.1 hk
  subst hs0
  simp [r0, r1]
  exact hall
 | succ k =>
  match s, hk with
  | d :: s, hk =>
  have hk' : s.length = k := by simpa using hk
  have c1 := setHas (c := d) h
  have hp : (0 : Int) < (s.length : Int) + 1 := by omega
  by_cases hm : d ∈ kset
  ·simp [r0, r1, hp, c1, hm, -List.reduceReplicate]
   refine ⟨k, by omega, s, hk', rfl, ?_⟩
   rw [← hall]
   constructor
   ·intro hA c hc
    rcases List.mem_cons.1 hc with rfl | hc
    ·exact hm
    ·exact hA c hc
   ·intro hA c hc
    exact hA c (List.mem_cons_of_mem _ hc)
  ·have hn : ¬ AllK (d :: s) := fun hA => hm (hA d List.mem_cons_self)
   simp [r0, r1, hp, c1, hm, -List.reduceReplicate]
   exact ⟨hall, hn⟩
theorem lowC_up {c : UInt8} (h1 : 65 ≤ c.toNat) (h2 : c.toNat ≤ 90) : IntKind.u8.wrap ((c.toNat : Int) + 32) = ((lowC c).toNat : Int) := by
 have : lowC c = c + 32 := by unfold lowC; rw [if_pos ⟨h1, h2⟩]
 rw [this]
 unfold IntKind.wrap
 simp [IntKind.bits, IntKind.signed, UInt8.toNat_add]
theorem lowC_up32 {c : UInt8} (h1 : 65 ≤ c.toNat) (h2 : c.toNat ≤ 90) : (lowC c).toNat = c.toNat + 32 := by
 have : lowC c = c + 32 := by unfold lowC; rw [if_pos ⟨h1, h2⟩]
 rw [this, UInt8.toNat_add]
 have : c.toNat + 32 < 256 := by omega
 simp
 omega
theorem lowC_no {c : UInt8} (h : ¬ (65 ≤ c.toNat ∧ c.toNat ≤ 90)) : lowC c = c := by unfold lowC; rw [if_neg h]
theorem u8_32 {c : UInt8} : c = 32 ↔ c.toNat = 32 := ⟨fun h => by rw [h]; rfl, fun h => UInt8.toNat_inj.1 h⟩
theorem foldl_step {t : Str} {i : Nat} {c : UInt8} (h : t[i]? = some c) (f : Str → UInt8 → Str) (b : Str) : (t.take (i + 1)).foldl f b = f ((t.take i).foldl f b) c := by
 rw [take_get h, List.foldl_append]
 rfl
theorem endSp_last {b : Str} {d : UInt8} (h : b.getLast? = some d) : endSp b = true ↔ d = 32 := by
 unfold endSp
 rw [h]
 simp
theorem last_some {b : Str} (h : b ≠ []) : ∃ d, b.getLast? = some d := ⟨b.getLast h, List.getLast?_eq_some_getLast h⟩
theorem s_Norm {t : Str} {H : List Ob} : callW C 250 [.str t] H = some (.str (norm t), H) := by
 apply Ret.eq
 rw [op250]
 by_cases g1 : (t.length : Int) > 100
 ·have : norm t = [] := by unfold norm; rw [if_neg (by omega)]
  simp [code250, Tryz.f250, g1, this]
 have hp := s_Plain (t := t) (H := H) (by omega)
 by_cases g2 : Plain t
 rotate_left
 ·rw [dec_neg g2] at hp
  have : norm t = [] := by unfold norm; rw [dec_neg g2]; simp
  simp [code250, Tryz.f250, g1, hp, this]
 rw [dec_pos g2] at hp
 have hn : norm t = nfin (t.foldl nstep []) := by unfold norm; rw [if_pos ⟨by omega, dec_pos g2⟩]
 have hbz : ∀ i, ((t.take i).foldl nstep []).length ≤ 100 := fun i => by
  have := foldl_len (t.take i) []
  simp at this
  omega
 simp [code250, Tryz.f250, g1, hp, elemT, fillL, zerosL, St.new]
 refine WP_loop (fun k σ => ∃ (i : Nat) (r : Nat → R) (G : List Ob) (v : V), i + k = t.length ∧ σ = ⟨r, 0, G⟩ ∧ r 0 = .val (.str t) ∧ r 3 = .val v ∧ r 4 = .val (.int .i64 i) ∧ Bs H G v ((t.take i).foldl nstep [])) ?_ t.length _ ⟨0, _, _, _, by simp, rfl, by simp, by simp, by simp, Bs.init⟩
 rintro k σ ⟨i, r, G, v, hik, rfl, r0, r3, r4, hB⟩
 have hbl := hbz i
 generalize hb : (t.take i).foldl nstep [] = b at hB hbl
 have hw1 : IntKind.i64.wrap ((b.length : Int) - 1) = (b.length : Int) - 1 := wrap_i64 (by omega) (by omega)
 cases k with
 | zero =>
  have hi : i = t.length := by omega
  subst hi
  rw [List.take_length] at hb
  rw [hb] at hn
  obtain ⟨TT, rfl⟩ := hB.ext
  by_cases hb0 : b = []
  ·subst hb0
   obtain ⟨id, rfl, hst, hsl⟩ := hB.cut (n := 0) (Nat.le_refl _)
   simp [r0, r3, r4, hsl, isByte, bys_mapM, hn, nfin, endSp]
  ·obtain ⟨d, hd⟩ := last_some hb0
   have hb1 : 0 < b.length := List.length_pos_iff.2 hb0
   have hb2 : 0 < (b.length : Int) := by omega
   have hb3 : (1 : Int) ≤ (b.length : Int) := by omega
   have hb5 : (b.length : Int) - 1 < (b.length : Int) := by omega
   have hb4 : ((b.length : Int) - 1).toNat = b.length - 1 := by omega
   obtain ⟨id, rfl, hld⟩ := hB.last hd
   by_cases hd32 : d = 32
   ·obtain ⟨_, hv, hst, hsl⟩ := hB.cut (n := b.length - 1) (by omega)
    cases hv
    have he : nfin b = b.take (b.length - 1) := by unfold nfin; rw [if_pos ((endSp_last hd).2 hd32), List.dropLast_eq_take]
    have hd' : (d.toNat : Int) = 32 := by rw [hd32]; rfl
    simp [r0, r3, r4, hb0, hb1, hb2, hb3, hb4, hb5, hw1, hld, hd', hst, hsl, isByte, bys_mapM, hn, he]
   ·obtain ⟨_, hv, hst, hsl⟩ := hB.cut (n := b.length) (Nat.le_refl _)
    cases hv
    have he : nfin b = b := by unfold nfin; rw [if_neg (fun h => hd32 ((endSp_last hd).1 h))]
    have hd' : ¬ (d.toNat : Int) = 32 := by have := mt u8_32.2 hd32; omega
    rw [List.take_length] at hsl
    simp [r0, r3, r4, hb0, hb1, hb2, hb3, hb4, hb5, hw1, hld, hd', hst, hsl, isByte, bys_mapM, hn, he]
 | succ k =>
  have hi : i < t.length := by omega
  obtain ⟨c, hc⟩ : ∃ c, t[i]? = some c := ⟨t[i], by simp [hi]⟩
  have hc' : t[i] = c := (List.getElem?_eq_some_iff.1 hc).2
  have hw : IntKind.i64.wrap ((i : Int) + 1) = ((i : Int) + 1) := wrap_i64 (by omega) (by omega)
  have hfs := foldl_step hc nstep []
  rw [hb] at hfs
  have hgo : ∀ G' v', Bs H G' v' (nstep b c) → ∃ k', k' < k + 1 ∧ ∃ i', i' + k' = t.length ∧ (i : Int) + 1 = i' ∧ Bs H G' v' ((t.take i').foldl nstep []) := fun G' v' h =>
   ⟨k, by omega, i + 1, by omega, by omega, by rw [hfs]; exact h⟩
  by_cases hup : 65 ≤ c.toNat ∧ c.toNat ≤ 90
  ·have hu1 : (c.toNat : Int) ≥ 65 := by omega
   have hu2 : (c.toNat : Int) ≤ 90 := by omega
   have hlw := lowC_up hup.1 hup.2
   have hl32 : ¬ ((lowC c).toNat : Int) = 32 := by rw [lowC_up32 hup.1 hup.2]; omega
   have hns : nstep b c = b ++ [lowC c] := by unfold nstep; rw [if_neg (fun h => hl32 (by rw [u8_32.1 h.1]; rfl))]
   obtain ⟨v', G', ha, hB'⟩ := hB.push (by omega) (c := lowC c) (d := .int .u8) (z := [.int .u8 0]) rfl
   rw [← hns] at hB'
   simp [r0, r3, r4, hi, hc', hu1, hu2, hlw, hl32, elemT, fillL, zerosL, St.new, badArg, ha, hw]
   obtain ⟨k', q1, i', q2, q3, q4⟩ := hgo G' v' hB'
   exact ⟨k', q1, i', q2, _, _, ⟨rfl, rfl⟩, by simp [r0], _, by simp [r3], by simp [q3], q4⟩
  have hlc := lowC_no hup
  have hu : (¬ (c.toNat : Int) ≥ 65) ∨ ((c.toNat : Int) ≥ 65 ∧ ¬ (c.toNat : Int) ≤ 90) := by omega
  by_cases h32 : c = 32
  ·have h32' : (c.toNat : Int) = 32 := by rw [h32]; rfl
   have hu1 : ¬ (c.toNat : Int) ≥ 65 := by omega
   by_cases hb0 : b = []
   ·have hns : nstep b c = b := by unfold nstep; rw [if_pos ⟨by rw [hlc, h32], .inl hb0⟩]
    rw [hns] at hgo
    have hbl0 : b.length = 0 := by rw [hb0]; rfl
    have := hgo G v hB
    simp [r0, r3, r4, hi, hc', h32', hB.len, hbl0, hw]
    obtain ⟨k', q1, i', q2, q3, q4⟩ := this
    exact ⟨k', q1, i', q2, _, _, ⟨rfl, rfl⟩, by simp [r0], _, by simp [r3], by simp [q3], q4⟩
   ·obtain ⟨d, hd⟩ := last_some hb0
    have hb1 : 0 < b.length := List.length_pos_iff.2 hb0
    have hb3 : (1 : Int) ≤ (b.length : Int) := by omega
    have hb5 : (b.length : Int) - 1 < (b.length : Int) := by omega
    have hb4 : ((b.length : Int) - 1).toNat = b.length - 1 := by omega
    obtain ⟨id, hv, hld⟩ := hB.last hd
    have hB0 := hB
    subst hv
    by_cases hd32 : d = 32
    ·have hns : nstep b c = b := by unfold nstep; rw [if_pos ⟨by rw [hlc, h32], .inr ((endSp_last hd).2 hd32)⟩]
     rw [hns] at hgo
     have hd' : (d.toNat : Int) = 32 := by rw [hd32]; rfl
     have := hgo G _ hB
     simp [r0, r3, r4, hi, hc', h32', hb0, hb1, hb3, hb4, hb5, hw1, hld, hd', hw]
     obtain ⟨k', q1, i', q2, q3, q4⟩ := this
     exact ⟨k', q1, i', q2, _, _, ⟨rfl, rfl⟩, by simp [r0], _, by simp [r3], by simp [q3], q4⟩
    ·have hns : nstep b c = b ++ [c] := by unfold nstep; rw [if_neg (fun h => h.2.elim hb0 (fun h => hd32 ((endSp_last hd).1 h))), hlc]
     have hd' : ¬ (d.toNat : Int) = 32 := by have := mt u8_32.2 hd32; omega
     obtain ⟨v', G', ha, hB'⟩ := hB.push (by omega) (c := c) (d := .int .u8) (z := [.int .u8 0]) rfl
     rw [← hns] at hB'
     rw [h32'] at ha
     simp [r0, r3, r4, hi, hc', h32', hb0, hb1, hb3, hb4, hb5, hw1, hld, hd', elemT, fillL, zerosL, St.new, badArg, ha, hw]
     obtain ⟨k', q1, i', q2, q3, q4⟩ := hgo G' v' hB'
     exact ⟨k', q1, i', q2, _, _, ⟨rfl, rfl⟩, by simp [r0], _, by simp [r3], by simp [q3], q4⟩
  ·have h32' : ¬ (c.toNat : Int) = 32 := by have := mt u8_32.2 h32; omega
   have hns : nstep b c = b ++ [c] := by unfold nstep; rw [if_neg (fun h => h32 (hlc ▸ h.1)), hlc]
   obtain ⟨v', G', ha, hB'⟩ := hB.push (by omega) (c := c) (d := .int .u8) (z := [.int .u8 0]) rfl
   rw [← hns] at hB'
   have := hgo G' v' hB'
   rcases hu with hu | ⟨hu, hu2⟩
   ·simp [r0, r3, r4, hi, hc', hu, h32', elemT, fillL, zerosL, St.new, badArg, ha, hw]
    obtain ⟨k', q1, i', q2, q3, q4⟩ := this
    exact ⟨k', q1, i', q2, _, _, ⟨rfl, rfl⟩, by simp [r0], _, by simp [r3], by simp [q3], q4⟩
   ·simp [r0, r3, r4, hi, hc', hu, hu2, h32', elemT, fillL, zerosL, St.new, badArg, ha, hw]
    obtain ⟨k', q1, i', q2, q3, q4⟩ := this
    exact ⟨k', q1, i', q2, _, _, ⟨rfl, rfl⟩, by simp [r0], _, by simp [r3], by simp [q3], q4⟩
def EndsWith (s w : Str) : Prop := w.length ≤ s.length ∧ s.drop (s.length - w.length) = w
theorem hasSuffix {s w : Str} {H : List Ob} (hs : s.length ≤ 1000000) (hw : w.length ≤ 1000000) : callW C 359 [.str s, .str w] H = some (.bool (dec (EndsWith s w)), H) := by
 apply Ret.dec
 rw [op359]
 by_cases h1 : (s.length : Int) ≥ w.length
 ·have hw1 : IntKind.i64.wrap ((s.length : Int) - w.length) = (s.length : Int) - w.length := wrap_i64 (by omega) (by omega)
  have h2 : (w.length : Int) ≤ (s.length : Int) := h1
  have h3 : ((s.length : Int) - w.length).toNat = s.length - w.length := by omega
  have h4 : (0 : Int) ≤ (s.length : Int) - w.length := by omega
  have h5 : w.length ≤ s.length := by omega
  by_cases h6 : s.drop (s.length - w.length) = w
  ·have hn : EndsWith s w := ⟨h5, h6⟩
   simp [code359, Tryz.f359, h1, h2, h3, h4, h5, hw1, h6, hn]
  ·have hn : ¬ EndsWith s w := fun h => h6 h.2
   simp [code359, Tryz.f359, h1, h2, h3, h4, h5, hw1, h6, hn]
 ·have hn : ¬ EndsWith s w := fun h => h1 (by have := h.1; omega)
  simp [code359, Tryz.f359, h1, hn]
noncomputable def trimEnd (s w : Str) : Str := if dec (EndsWith s w) = true then s.take (s.length - w.length) else s
theorem trimSuffixL {s w : Str} {H : List Ob} (hs : s.length ≤ 1000000) (hw : w.length ≤ 1000000) : callW C 338 [.str s, .str w] H = some (.str (trimEnd s w), H) := by
 apply Ret.eq
 rw [op338]
 have hc := hasSuffix (H := H) hs hw
 by_cases h : EndsWith s w
 ·rw [dec_pos h] at hc
  have h0 := h.1
  have hw1 : IntKind.i64.wrap ((s.length : Int) - w.length) = (s.length : Int) - w.length := wrap_i64 (by omega) (by omega)
  have h2 : (w.length : Int) ≤ (s.length : Int) := by omega
  have h3 : ((s.length : Int) - w.length).toNat = s.length - w.length := by omega
  have ht : trimEnd s w = s.take (s.length - w.length) := by unfold trimEnd; rw [dec_pos h]; rfl
  simp [code338, Tryz.f338, hc, hw1, h2, h3, ht]
 ·rw [dec_neg h] at hc
  have ht : trimEnd s w = s := by unfold trimEnd; rw [dec_neg h]; rfl
  simp [code338, Tryz.f338, hc, ht]
theorem trimEnd_sp {s : Str} : trimEnd s [32] = nfin s := by
 have he : EndsWith s [32] ↔ endSp s = true := by
  unfold EndsWith endSp
  cases hl : s.getLast? with
  | none =>
   have : s = [] := by simpa using hl
   subst this
   simp
  | some d =>
   have hne : s ≠ [] := by rintro rfl; simp at hl
   have h1 : 1 ≤ s.length := List.length_pos_iff.2 hne
   rw [List.getLast?_eq_getElem?] at hl
   have h2 : s.drop (s.length - 1) = [d] := by
    apply List.ext_getElem?
    intro j
    rw [List.getElem?_drop]
    cases j with
    | zero => simpa using hl
    | succ j => simp; omega
   simp [h1, h2]
 unfold trimEnd nfin
 by_cases h : endSp s = true
 ·rw [dec_pos (he.2 h), if_pos rfl, if_pos h, List.dropLast_eq_take]
  rfl
 ·rw [dec_neg (mt he.1 h), if_neg (by simp), if_neg h]
theorem trimSp {s : Str} {H : List Ob} (hs : s.length ≤ 1000000) : callW C 290 [.str s, .str [32]] H = some (.str (nfin s), H) := by
 apply Ret.eq
 rw [op290]
 have hc := trimSuffixL (H := H) hs (w := [32]) (by simp)
 rw [trimEnd_sp] at hc
 simp [code290, Tryz.f290, hc]
theorem i_Norm {t : Str} {H : List Ob} : callW C 211 [.str t] H = some (.str (norm t), H) := by
 apply Ret.eq
 rw [op211]
 by_cases g1 : (t.length : Int) > 100
 ·have : norm t = [] := by unfold norm; rw [if_neg (by omega)]
  simp [code211, Tryz.f211, g1, this]
 have hp := i_Plain (t := t) (H := H) (by omega)
 by_cases g2 : Plain t
 rotate_left
 ·rw [dec_neg g2] at hp
  have : norm t = [] := by unfold norm; rw [dec_neg g2]; simp
  simp [code211, Tryz.f211, g1, hp, this]
 rw [dec_pos g2] at hp
 have hn : norm t = nfin (t.foldl nstep []) := by unfold norm; rw [if_pos ⟨by omega, dec_pos g2⟩]
 have hbz : ∀ i, ((t.take i).foldl nstep []).length ≤ 100 := fun i => by
  have := foldl_len (t.take i) []
  simp at this
  omega
 simp [code211, Tryz.f211, g1, hp, elemT, fillL, zerosL, St.new]
 refine WP_loop (fun k σ => ∃ (i : Nat) (r : Nat → R) (G : List Ob) (v : V), i + k = t.length ∧ σ = ⟨r, 0, G⟩ ∧ r 0 = .val (.str t) ∧ r 3 = .val v ∧ r 16 = .val (.int .i64 t.length) ∧ r 17 = .val (.int .i64 i) ∧ Bs H G v ((t.take i).foldl nstep [])) ?_ t.length _ ⟨0, _, _, _, by simp, rfl, by simp, by simp, by simp, by simp, Bs.init⟩
 rintro k σ ⟨i, r, G, v, hik, rfl, r0, r3, r16, r17, hB⟩
 have hbl := hbz i
 generalize hb : (t.take i).foldl nstep [] = b at hB hbl
 have hw1 : IntKind.i64.wrap ((b.length : Int) - 1) = (b.length : Int) - 1 := wrap_i64 (by omega) (by omega)
 cases k with
 | zero =>
  have hi : i = t.length := by omega
  subst hi
  rw [List.take_length] at hb
  rw [hb] at hn
  obtain ⟨TT, rfl⟩ := hB.ext
  obtain ⟨id, rfl, hst, hsl⟩ := hB.cut (n := b.length) (Nat.le_refl _)
  rw [List.take_length] at hsl
  have hts := trimSp (s := b) (H := H ++ TT) (by omega)
  simp [r0, r3, r16, r17, hsl, isByte, bys_mapM, hn, hts]
 | succ k =>
  have hi : i < t.length := by omega
  obtain ⟨c, hc⟩ : ∃ c, t[i]? = some c := ⟨t[i], by simp [hi]⟩
  have hc' : t[i] = c := (List.getElem?_eq_some_iff.1 hc).2
  have hw : IntKind.i64.wrap ((i : Int) + 1) = ((i : Int) + 1) := wrap_i64 (by omega) (by omega)
  have hfs := foldl_step hc nstep []
  rw [hb] at hfs
  have hgo : ∀ G' v', Bs H G' v' (nstep b c) → ∃ k', k' < k + 1 ∧ ∃ i', i' + k' = t.length ∧ (i : Int) + 1 = i' ∧ Bs H G' v' ((t.take i').foldl nstep []) := fun G' v' h =>
   ⟨k, by omega, i + 1, by omega, by omega, by rw [hfs]; exact h⟩
  by_cases hup : 65 ≤ c.toNat ∧ c.toNat ≤ 90
  ·have hu1 : (c.toNat : Int) ≥ 65 := by omega
   have hu2 : (c.toNat : Int) ≤ 90 := by omega
   have hlw := lowC_up hup.1 hup.2
   have hl32 : ¬ ((lowC c).toNat : Int) = 32 := by rw [lowC_up32 hup.1 hup.2]; omega
   have hns : nstep b c = b ++ [lowC c] := by unfold nstep; rw [if_neg (fun h => hl32 (by rw [u8_32.1 h.1]; rfl))]
   obtain ⟨v', G', ha, hB'⟩ := hB.push (by omega) (c := lowC c) (d := .int .u8) (z := [.int .u8 0]) rfl
   rw [← hns] at hB'
   simp [r0, r3, r16, r17, hi, hc', hu1, hu2, hlw, hl32, elemT, fillL, zerosL, St.new, badArg, ha, hw]
   obtain ⟨k', q1, i', q2, q3, q4⟩ := hgo G' v' hB'
   exact ⟨k', q1, i', q2, _, _, ⟨rfl, rfl⟩, by simp [r0], _, by simp [r3], by simp [r16], by simp [q3], q4⟩
  have hlc := lowC_no hup
  have hu : (¬ (c.toNat : Int) ≥ 65) ∨ ((c.toNat : Int) ≥ 65 ∧ ¬ (c.toNat : Int) ≤ 90) := by omega
  by_cases h32 : c = 32
  ·have h32' : (c.toNat : Int) = 32 := by rw [h32]; rfl
   have hu1 : ¬ (c.toNat : Int) ≥ 65 := by omega
   by_cases hb0 : b = []
   ·have hns : nstep b c = b := by unfold nstep; rw [if_pos ⟨by rw [hlc, h32], .inl hb0⟩]
    rw [hns] at hgo
    have hbl0 : b.length = 0 := by rw [hb0]; rfl
    simp [r0, r3, r16, r17, hi, hc', h32', hB.len, hbl0, hw]
    obtain ⟨k', q1, i', q2, q3, q4⟩ := hgo G v hB
    exact ⟨k', q1, i', q2, _, _, ⟨rfl, rfl⟩, by simp [r0], _, by simp [r3], by simp [r16], by simp [q3], q4⟩
   ·obtain ⟨d, hd⟩ := last_some hb0
    have hb1 : 0 < b.length := List.length_pos_iff.2 hb0
    have hb3 : (1 : Int) ≤ (b.length : Int) := by omega
    have hb5 : (b.length : Int) - 1 < (b.length : Int) := by omega
    have hb4 : ((b.length : Int) - 1).toNat = b.length - 1 := by omega
    obtain ⟨id, hv, hld⟩ := hB.last hd
    subst hv
    by_cases hd32 : d = 32
    ·have hns : nstep b c = b := by unfold nstep; rw [if_pos ⟨by rw [hlc, h32], .inr ((endSp_last hd).2 hd32)⟩]
     rw [hns] at hgo
     have hd' : (d.toNat : Int) = 32 := by rw [hd32]; rfl
     simp [r0, r3, r16, r17, hi, hc', h32', hb0, hb1, hb3, hb4, hb5, hw1, hld, hd', hw]
     obtain ⟨k', q1, i', q2, q3, q4⟩ := hgo G _ hB
     exact ⟨k', q1, i', q2, _, _, ⟨rfl, rfl⟩, by simp [r0], _, by simp [r3], by simp [r16], by simp [q3], q4⟩
    ·have hns : nstep b c = b ++ [c] := by unfold nstep; rw [if_neg (fun h => h.2.elim hb0 (fun h => hd32 ((endSp_last hd).1 h))), hlc]
     have hd' : ¬ (d.toNat : Int) = 32 := by have := mt u8_32.2 hd32; omega
     obtain ⟨v', G', ha, hB'⟩ := hB.push (by omega) (c := c) (d := .int .u8) (z := [.int .u8 0]) rfl
     rw [← hns] at hB'
     rw [h32'] at ha
     simp [r0, r3, r16, r17, hi, hc', h32', hb0, hb1, hb3, hb4, hb5, hw1, hld, hd', elemT, fillL, zerosL, St.new, badArg, ha, hw]
     obtain ⟨k', q1, i', q2, q3, q4⟩ := hgo G' v' hB'
     exact ⟨k', q1, i', q2, _, _, ⟨rfl, rfl⟩, by simp [r0], _, by simp [r3], by simp [r16], by simp [q3], q4⟩
  ·have h32' : ¬ (c.toNat : Int) = 32 := by have := mt u8_32.2 h32; omega
   have hns : nstep b c = b ++ [c] := by unfold nstep; rw [if_neg (fun h => h32 (hlc ▸ h.1)), hlc]
   obtain ⟨v', G', ha, hB'⟩ := hB.push (by omega) (c := c) (d := .int .u8) (z := [.int .u8 0]) rfl
   rw [← hns] at hB'
   obtain ⟨k', q1, i', q2, q3, q4⟩ := hgo G' v' hB'
   rcases hu with hu | ⟨hu, hu2⟩
   ·simp [r0, r3, r16, r17, hi, hc', hu, h32', elemT, fillL, zerosL, St.new, badArg, ha, hw]
    exact ⟨k', q1, i', q2, _, _, ⟨rfl, rfl⟩, by simp [r0], _, by simp [r3], by simp [r16], by simp [q3], q4⟩
   ·simp [r0, r3, r16, r17, hi, hc', hu, hu2, h32', elemT, fillL, zerosL, St.new, badArg, ha, hw]
    exact ⟨k', q1, i', q2, _, _, ⟨rfl, rfl⟩, by simp [r0], _, by simp [r3], by simp [r16], by simp [q3], q4⟩
theorem s_Value {t : Str} {H : List Ob} : callW C 184 [.str t] H = some (.bool (dec (ValueOk t)), H) := by
 apply Ret.dec
 rw [op184]
 have hn := s_Norm (t := t) (H := H)
 by_cases g1 : (t.length : Int) ≥ 1
 ·by_cases g2 : (t.length : Int) ≤ 40
  ·by_cases g3 : norm t = []
   ·have hv : ¬ ValueOk t := fun h => h.2.2 g3
    simp [code184, Tryz.f184, g1, g2, hn, g3, hv]
   ·have hv : ValueOk t := ⟨by omega, by omega, g3⟩
    simp [code184, Tryz.f184, g1, g2, hn, g3, hv]
  ·have : ¬ ValueOk t := fun h => by have := h.2.1; omega
   simp [code184, Tryz.f184, g1, g2, this]
 ·have : ¬ ValueOk t := fun h => by have := h.1; omega
  simp [code184, Tryz.f184, g1, this]
theorem i_Value {t : Str} {H : List Ob} : callW C 207 [.str t] H = some (.bool (dec (ValueOk t)), H) := by
 apply Ret.dec
 rw [op207]
 have hn := i_Norm (t := t) (H := H)
 by_cases g1 : (t.length : Int) ≥ 1
 ·by_cases g2 : (t.length : Int) ≤ 40
  ·by_cases g3 : norm t = []
   ·have hv : ¬ ValueOk t := fun h => h.2.2 g3
    simp [code207, Tryz.f207, g1, g2, hn, g3, hv]
   ·have hv : ValueOk t := ⟨by omega, by omega, g3⟩
    simp [code207, Tryz.f207, g1, g2, hn, g3, hv]
  ·have : ¬ ValueOk t := fun h => by have := h.2.1; omega
   simp [code207, Tryz.f207, g1, g2, this]
 ·have : ¬ ValueOk t := fun h => by have := h.1; omega
  simp [code207, Tryz.f207, g1, this]
end Go.Proofs.Try1
end
