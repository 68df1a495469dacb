/- Part 08 of the proof of a law: the interpreter, its soundness, and what functions of the program compute over it. Conditions: none but those that each theorem names. -/
import Derived.Test.YtdkbgdjfmbppfaaGreatDoorB07
import Derived.Test.YtdkbgdjfmbppfaaGreatDoorB06
import Derived.Test.YtdkbgdjfmbppfaaGreatDoorB05

set_option linter.all false
set_option maxRecDepth 20000
set_option maxHeartbeats 40000000
section
namespace Go.Lite
open Go
def bF (H : List Ob) (id : Nat) (v : V) (a m z : Int) : List Ob := H.set id (.mk true 4 [v, .int .i64 a, .int .u64 m, .int .i64 z])
section
variable {H T : List Ob} {id : Nat} {v : V} {a m z a' m' z' : Int}
theorem jU : (bF H id v a m z).length = H.length := by simp [bF]
theorem dE (h : id < H.length) : (bF H id v a m z)[id]? = some (.mk true 4 [v, .int .i64 a, .int .u64 m, .int .i64 z]) := List.getElem?_set_self h
theorem kQ {q : Nat} (h : q ≠ id) : (bF H id v a m z)[q]? = H[q]? := List.getElem?_set_ne fun e => h e.symm
theorem Ap (h : id < H.length) : bF H id v a m z ++ T = bF (H ++ T) id v a m z := by
 unfold bF; rw [jO h]
theorem uK : (bF H id v a m z).set id (.mk true 4 [v, .int .i64 a', .int .u64 m', .int .i64 z']) = bF H id v a' m' z' := by
 unfold bF; rw [List.set_set]
end
def II : Sh → Bool
 | .st (.str :: _) => true
 | _ => false
mutual
def okS : Sh → Bool
 | .slice e => (e.size != 4 || II e) && okS e
 | .st fs => KF fs
 | _ => true
def KF : List Sh → Bool
 | [] => true
 | f :: fs => okS f && KF fs
end
section
variable {H : List Ob} {id : Nat} {v : V} {a m z a' m' z' : Int}
mutual
theorem At.src (hid : id < H.length) (hv : ∃ p n, v = .slc p n) : ∀ (sh : Sh) {cs : List V} {u : U}, okS sh = true → At (bF H id v a m z) sh cs u → At (bF H id v a' m' z') sh cs u
 | .int k, _, _, _, h => by simpa only [At] using h
 | .bool, _, _, _, h => by simpa only [At] using h
 | .str, _, _, _, h => by simpa only [At] using h
 | .slice e, _, _, ho, h => by
  simp only [okS, Bool.and_eq_true, Bool.or_eq_true, bne_iff_ne, ne_eq] at ho
  simp only [At] at h ⊢
  obtain ⟨w, l, h1, h2, h3, h4⟩ := h
  refine ⟨w, l, h1, h2, h3, ?_⟩
  rcases h4 with h4 | ⟨i, off, own, cells, h5, h6, h7, h8⟩
  ·exact .inl h4
  ·by_cases hi : i = id
   ·subst hi
    rw [dE hid] at h6
    simp only [Option.some.injEq, Ob.mk.injEq] at h6
    obtain ⟨rfl, h6, rfl⟩ := h6
    have hs := ho.1.resolve_left fun hn => hn h6.symm
    refine .inr ⟨i, off, true, [v, .int .i64 a', .int .u64 m', .int .i64 z'], h5, by rw [dE hid, h6], by simpa using h7, fun j x hx => ?_⟩
    exfalso
    have hj := (List.getElem?_eq_some_iff.1 hx).1
    rw [← h6] at h7 h8
    simp only [List.length_cons, List.length_nil] at h7
    have hl : l.length = 1 := by omega
    have ho0 : off = 0 := by omega
    have hj0 : j = 0 := by omega
    subst ho0 hj0
    have := h8 0 x hx
    obtain ⟨p, n, rfl⟩ := hv
    match e, hs, this with
    | .st (.str :: fs), _, this =>
     obtain ⟨us, _, h9⟩ := jC.1 this
     obtain ⟨c1, c2, u1, us1, hc, _, h10, _⟩ := bn.1 h9
     obtain ⟨s, rfl, _⟩ := dw.1 h10
     simp at hc
   ·refine .inr ⟨i, off, own, cells, h5, by rw [kQ hi] at h6 ⊢; exact h6, h7, fun j x hx => At.src hid hv e ho.2 (h8 j x hx)⟩
 | .st fs, _, _, ho, h => by
  simp only [okS] at ho
  simp only [At] at h ⊢
  obtain ⟨us, h1, h2⟩ := h
  exact ⟨us, h1, Ats.src hid hv fs ho h2⟩
theorem Ats.src (hid : id < H.length) (hv : ∃ p n, v = .slc p n) : ∀ (fs : List Sh) {cs : List V} {us : List U}, KF fs = true → Ats (bF H id v a m z) fs cs us → Ats (bF H id v a' m' z') fs cs us
 | [], _, _, _, h => by simpa only [Ats] using h
 | f :: fs, _, _, ho, h => by
  simp only [KF, Bool.and_eq_true] at ho
  simp only [Ats] at h ⊢
  obtain ⟨c1, c2, u, us', h1, h2, h3, h4⟩ := h
  exact ⟨c1, c2, u, us', h1, h2, At.src hid hv f ho.1 h3, Ats.src hid hv fs ho.2 h4⟩
end
theorem At.srcApp {T : List Ob} (hid : id < H.length) (hv : ∃ p n, v = .slc p n) {sh : Sh} {cs : List V} {u : U} (ho : okS sh = true) (h : At (bF H id v a m z) sh cs u) : At (bF (H ++ T) id v a' m' z') sh cs u := by
 have := At.ext (T := T) (At.src (a' := a') (m' := m') (z' := z') hid hv sh ho h)
 rwa [Ap hid] at this
structure SrcOk (H : List Ob) (id : Nat) (v : V) (n : Nat) (a m z : Int) : Prop where
 lt : id < H.length
 bytes : ∃ us : List U, us.length = n ∧ At (bF H id v a m z) (.slice (.int .u8)) [v] (.lst us)
 at0 : 0 ≤ a
 at1 : a ≤ n
 m0 : 0 ≤ m
 m1 : m < 18446744073709551616
 z0 : 0 ≤ z
 z1 : z ≤ 12
theorem SrcOk.slc {n : Nat} (h : SrcOk H id v n a m z) : ∃ p k, v = .slc p k := by
 obtain ⟨us, _, hb⟩ := h.bytes
 obtain ⟨w, l, e, _, _, hs⟩ := aG.1 hb
 cases e
 rcases hs with ⟨rfl, _⟩ | ⟨i, off, own, cells, rfl, _⟩ <;> exact ⟨_, _, rfl⟩
theorem SrcOk.to {n : Nat} (h : SrcOk H id v n a m z) (h0 : 0 ≤ a') (h1 : a' ≤ n) (h2 : 0 ≤ m') (h3 : m' < 18446744073709551616) : SrcOk H id v n a' m' z := by
 obtain ⟨us, hl, hb⟩ := h.bytes
 exact ⟨h.lt, ⟨us, hl, At.src h.lt h.slc _ (by simp [okS, Sh.size]) hb⟩, h0, h1, h2, h3, h.z0, h.z1⟩
theorem SrcOk.app {n : Nat} {T : List Ob} (h : SrcOk H id v n a m z) : SrcOk (H ++ T) id v n a m z := by
 obtain ⟨us, hl, hb⟩ := h.bytes
 exact ⟨by have := h.lt; simp; omega, ⟨us, hl, At.srcApp h.lt h.slc (by simp [okS, Sh.size]) hb⟩, h.at0, h.at1, h.m0, h.m1, h.z0, h.z1⟩
def Drew (H : List Ob) (id : Nat) (v : V) (n : Nat) (z : Int) (H' : List Ob) : Prop := ∃ T a m, H' = bF (H ++ T) id v a m z ∧ SrcOk (H ++ T) id v n a m z
theorem Drew.up {n : Nat} {H' : List Ob} (hs : SrcOk H id v n a m z) (h : Drew H id v n z H') {sh : Sh} {cs : List V} {u : U} (ho : okS sh = true) (hat : At (bF H id v a m z) sh cs u) : At H' sh cs u := by
 obtain ⟨T, a', m', rfl, _⟩ := h
 exact At.srcApp hs.lt hs.slc ho hat
theorem Drew.trans {n : Nat} {H1 H2 : List Ob} (h : Drew H id v n z H1) (k : ∀ T a m, H1 = bF (H ++ T) id v a m z → SrcOk (H ++ T) id v n a m z → Drew (H ++ T) id v n z H2) : Drew H id v n z H2 := by
 obtain ⟨T, a1, m1, e, hs⟩ := h
 obtain ⟨T', a2, m2, rfl, hs'⟩ := k T a1 m1 e hs
 exact ⟨T ++ T', a2, m2, by rw [List.append_assoc], by rw [← List.append_assoc]; exact hs'⟩
theorem Drew.gc {n : Nat} {H' : List Ob} {r : V} (hs : SrcOk H id v n a m z) (h : Drew H id v n z H') : Drew H id v n z (eY (bF H id v a m z) H' r) := by
 unfold eY
 split
 ·exact ⟨[], a, m, by simp, by simpa using hs⟩
 ·exact h
theorem Drew.refl {n : Nat} (hs : SrcOk H id v n a m z) : Drew H id v n z (bF H id v a m z) := ⟨[], a, m, by simp, by simpa using hs⟩
end
theorem wrap_u64 (x : Int) : 0 ≤ IntKind.u64.wrap x ∧ IntKind.u64.wrap x < 18446744073709551616 := by
 simp only [IntKind.wrap, IntKind.bits, IntKind.signed]
 simp
 omega
end Go.Lite
end
section
namespace Go.Proofs.Try1
open Go Go.Lite
theorem JI {G G' : List Ob} {r : V} (h : G'.length = G.length) : eY G G' r = G' := by
 unfold eY
 split
 ·rename_i hx
  obtain ⟨⟨T, rfl⟩, _⟩ := hx
  have : T = [] := by
   have : (G ++ T).length = G.length := h
   simp at this
   exact this
  rw [this, List.append_nil]
 ·rfl
section
variable {H : List Ob} {id n : Nat} {v : V} {a m z : Int}
theorem xw (hid : id < H.length) (a m : Int) : (∀ T : LT, T.one → ∀ r c, loadAt T ⟨r, c, bF H id v a m z⟩ (.hp id 0) = some v) ∧ (∀ T : LT, T.one → ∀ r c, loadAt T ⟨r, c, bF H id v a m z⟩ (.hp id 1) = some (.int .i64 a)) ∧
  (∀ T : LT, T.one → ∀ r c, loadAt T ⟨r, c, bF H id v a m z⟩ (.hp id 2) = some (.int .u64 m)) ∧ (∀ T : LT, T.one → ∀ r c, loadAt T ⟨r, c, bF H id v a m z⟩ (.hp id 3) = some (.int .i64 z)) :=
 ⟨dF (dE hid) rfl, dF (dE hid) rfl, dF (dE hid) rfl, dF (dE hid) rfl⟩
theorem CJ (hid : id < H.length) (a m : Int) : (∀ a' : Int, ∀ T : LT, T.one → ∀ r c, storeAt T ⟨r, c, bF H id v a m z⟩ (.hp id 1) (.int .i64 a') = some ⟨r, c, bF H id v a' m z⟩) ∧
  (∀ m' : Int, ∀ T : LT, T.one → ∀ r c, storeAt T ⟨r, c, bF H id v a m z⟩ (.hp id 2) (.int .u64 m') = some ⟨r, c, bF H id v a m' z⟩) ∧ (∀ z' : Int, ∀ T : LT, T.one → ∀ r c, storeAt T ⟨r, c, bF H id v a m z⟩ (.hp id 3) (.int .i64 z') = some ⟨r, c, bF H id v a m z'⟩) := by
 refine ⟨fun a' T hT r c => ?_, fun a' T hT r c => ?_, fun a' T hT r c => ?_⟩
 ·rw [store1 (dE hid) (by simp) rfl rfl T hT r c]; simp [uK]
 ·rw [store1 (dE hid) (by simp) rfl rfl T hT r c]; simp [uK]
 ·rw [store1 (dE hid) (by simp) rfl rfl T hT r c]; simp [uK]
theorem ut {a' m' : Int} {r : V} : eY (bF H id v a m z) (bF H id v a' m' z) r = bF H id v a' m' z := JI (by simp [jU])
theorem Iz (hs : SrcOk H id v n a m z) (h : a < n) : ∃ idb o, ∃ b : Int, (∀ (e s b : Nat) (z : List V) (ty : Nat → LT) (k : IntKind), (ty e).size = 1 → dQ ⟨.slice e, s, b, z⟩ ty (.val v) (.int k a) = some (.val (.ptr (some (idb, o))))) ∧
  (∀ T : LT, T.one → ∀ r c, loadAt T ⟨r, c, bF H id v a m z⟩ (.hp idb o) = some (.int .u8 b)) := by
 obtain ⟨us, hl, hb⟩ := hs.bytes
 have h0 := hs.at0
 obtain ⟨i, rfl⟩ : ∃ i : Nat, a = i := ⟨a.toNat, by omega⟩
 have hi : i < us.length := by omega
 have hA : ASl (bF H id v i m z) (.int .u8) (fun u => u) v us := by unfold ASl; simpa using hb
 obtain ⟨idb, o, own, cells, e1, e2, e3, e4⟩ := ASl.idx hA (List.getElem?_eq_getElem hi) (by decide)
 obtain ⟨b, e4, _, e5⟩ := nI.1 e4
 exact ⟨idb, o, b, e1, dF e2 (by simpa using dm e4 (j := 0) rfl)⟩
theorem EN (hs : SrcOk H id v n a m z) {e s b : Nat} {zz : List V} : lenV ⟨.slice e, s, b, zz⟩ v = some (.int .i64 n) := by
 obtain ⟨us, hl, hb⟩ := hs.bytes
 have hA : ASl (bF H id v a m z) (.int .u8) (fun u => u) v us := by unfold ASl; simpa using hb
 rw [← hl]; exact hA.len
theorem Gz (hs : SrcOk H id v n a m z) : n ≤ maxLen := by
 obtain ⟨us, hl, hb⟩ := hs.bytes
 have hA : ASl (bF H id v a m z) (.int .u8) (fun u => u) v us := by unfold ASl; simpa using hb
 rw [← hl]; exact hA.bound
theorem Ty (hs : SrcOk H id v n a m z) {most : Int} (hm : most ≤ 4611686018427387904) :
  ∃ r a' m', callW C 79 [.ptr (some (id, 0)), .int .i64 most] (bF H id v a m z) = some (.int .i64 r, bF H id v a' m' z) ∧ 0 ≤ r ∧ (1 < most → r < most) ∧ (most ≤ 1 → r = 0) ∧ SrcOk H id v n a' m' z := by
 suffices hg : Ret C 79 [.ptr (some (id, 0)), .int .i64 most] (bF H id v a m z) fun q H' => ∃ r a' m', q = .int .i64 r ∧ H' = bF H id v a' m' z ∧ 0 ≤ r ∧ (1 < most → r < most) ∧ (most ≤ 1 → r = 0) ∧ SrcOk H id v n a' m' z by
  obtain ⟨q, H', hc, r, a', m', rfl, rfl, hr⟩ := hg
  exact ⟨r, a', m', hc, hr⟩
 rw [Tv]
 have hid := hs.lt
 by_cases g1 : most ≤ 1
 ·simp [-qP, zH, Tryz.f79, g1, ut]
  have : ∃ r a' m', V.int .i64 0 = .int .i64 r ∧ bF H id v a m z = bF H id v a' m' z ∧ 0 ≤ r ∧ (1 < most → r < most) ∧ (most ≤ 1 → r = 0) ∧ SrcOk H id v n a' m' z := ⟨0, a, m, rfl, rfl, by omega, by omega, fun _ => rfl, hs⟩
  simpa [g1] using this
 obtain ⟨lv, _, _, _⟩ := xw (v := v) (z := z) hid a m
 have ls := fun a m => xw (v := v) (z := z) hid a m
 have ss := fun a m => CJ (v := v) (z := z) hid a m
 have la := fun a m => (ls a m).2.1
 have lm := fun a m => (ls a m).2.2.1
 have l0 := fun a m => (ls a m).1
 have sa := fun a m => (ss a m).1
 have sm := fun a m => (ss a m).2.1
 have hmw : IntKind.u64.wrap most = most := by
  simp only [IntKind.wrap, IntKind.bits, IntKind.signed]
  simp
  omega
 have hm0 : ¬ most = 0 := by omega
 have fin : ∀ x : Int, 0 ≤ x → 0 ≤ IntKind.i64.wrap (x.tmod most) ∧ IntKind.i64.wrap (x.tmod most) < most := fun x hx => by
  have h1 : 0 ≤ x.tmod most := Int.tmod_nonneg _ hx
  have h2 : x.tmod most < most := Int.tmod_lt_of_pos _ (by omega)
  rw [wrap_i64 (by omega) (by omega)]
  exact ⟨h1, h2⟩
 have hbd := Gz hs
 unfold maxLen at hbd
 by_cases g2 : a < n
 ·obtain ⟨idb, o, b, e1, e2⟩ := Iz hs g2
  have h0 := hs.at0
  have hw1 : IntKind.i64.wrap (a + 1) = a + 1 := wrap_i64 (by omega) (by omega)
  simp [-qP, zH, Tryz.f79, g1, la, lm, l0, EN hs, g2, e1, e2, sa, sm, hw1, hmw, hm0, ut, Dl, tY, gX, iP, lM, ae, ag, List.lookup]
  exact ⟨_, _, rfl, (fin _ (wrap_u64 _).1).1, fun _ => (fin _ (wrap_u64 _).1).2, hs.to (by omega) (by omega) (wrap_u64 _).1 (wrap_u64 _).2⟩
 ·simp [-qP, zH, Tryz.f79, g1, la, lm, l0, EN hs, g2, sa, sm, hmw, hm0, ut, Dl, tY, gX, iP, lM, ae, ag, List.lookup]
  exact ⟨_, _, rfl, (fin _ (wrap_u64 _).1).1, fun _ => (fin _ (wrap_u64 _).1).2, hs.to hs.at0 hs.at1 (wrap_u64 _).1 (wrap_u64 _).2⟩
theorem NL (hs : SrcOk H id v n a m z) {most : Int} (hm : most ≤ 4611686018427387904) :
  ∃ b a' m', callW C 81 [.ptr (some (id, 0)), .int .i64 most] (bF H id v a m z) = some (.bool b, bF H id v a' m' z) ∧ SrcOk H id v n a' m' z := by
 suffices hg : Ret C 81 [.ptr (some (id, 0)), .int .i64 most] (bF H id v a m z) fun q H' => ∃ b a' m', q = .bool b ∧ H' = bF H id v a' m' z ∧ SrcOk H id v n a' m' z by
  obtain ⟨q, H', hc, r, a', m', rfl, rfl, hr⟩ := hg
  exact ⟨r, a', m', hc, hr⟩
 rw [Su]
 obtain ⟨r, a', m', c1, _, _, _, h2⟩ := Ty hs hm
 simp [-qQ, Jb, Tryz.f81, c1, ut]
 exact ⟨(Classical.em _).symm, _, _, rfl, h2⟩
theorem Ns (hs : SrcOk H id v n a m z) {w : V} {l : List Str} (hl : AStrs (bF H id v a m z) w l) (h0 : 0 < l.length) (h1 : l.length ≤ 1000) :
  ∃ s a' m', callW C 91 [.ptr (some (id, 0)), w] (bF H id v a m z) = some (.str s, bF H id v a' m' z) ∧ s ∈ l ∧ SrcOk H id v n a' m' z := by
 suffices hg : Ret C 91 [.ptr (some (id, 0)), w] (bF H id v a m z) fun q H' => ∃ s a' m', q = .str s ∧ H' = bF H id v a' m' z ∧ s ∈ l ∧ SrcOk H id v n a' m' z by
  obtain ⟨q, H', hc, r, a', m', rfl, rfl, hr⟩ := hg
  exact ⟨r, a', m', hc, hr⟩
 rw [Tu]
 obtain ⟨r, a', m', c1, g0, g1, g2, h2⟩ := Ty hs (most := l.length) (by omega)
 have hrl : r < l.length := by
  by_cases h : (1 : Int) < l.length
  ·exact g1 h
  ·have := g2 (by omega)
   omega
 obtain ⟨i, rfl⟩ : ∃ i : Nat, r = i := ⟨r.toNat, by omega⟩
 have hi : i < l.length := by omega
 have hl2 : AStrs (bF H id v a' m' z) w l := At.src hs.lt hs.slc _ (by simp [okS, Sh.size]) hl
 obtain ⟨idb, o, e1, l0, _⟩ := cZ hl2 (List.getElem?_eq_getElem hi)
 simp [-sU, Jz, Tryz.f91, hl.len, c1, e1, l0, ut]
 have : ∃ s a2 m2, V.str l[i] = .str s ∧ bF H id v a' m' z = bF H id v a2 m2 z ∧ s ∈ l ∧ SrcOk H id v n a2 m2 z := ⟨_, a', m', rfl, rfl, List.getElem_mem hi, h2⟩
 simpa using this
end
end Go.Proofs.Try1
end
section
namespace Go.Lite
open Go
def EnR (b : Nat) (G : List Ob) (w1 w2 : V) (e : PEntry) : Prop := aX G w1 e.dn ∧ ((w2 = .slc none 0 ∧ e.attrs = []) ∨ ∃ id cs, b ≤ id ∧ w2 = .slc (some (id, 0)) e.attrs.length ∧ G[id]? = some (.mk true 2 cs) ∧ cs.length = e.attrs.length * 2 ∧ aX (G.set id .dead) w1 e.dn ∧ ∀ (i : Nat) x, e.attrs[i]? = some x → At (G.set id .dead) shAttr ((cs.drop (i * 2)).take 2) x.u)
section
variable {b b' : Nat} {G T K : List Ob} {w1 w2 w : V} {e : PEntry} {dn : List PRdn} {l : List PAttr}
theorem EnR.ext (h : EnR b G w1 w2 e) : EnR b (G ++ T) w1 w2 e := by
 obtain ⟨h0, h | ⟨id, cs, hb, h1, h2, h3, h4, h5⟩⟩ := h
 ·exact ⟨h0.ext, .inl h⟩
 ·have hid := (List.getElem?_eq_some_iff.1 h2).1
  exact ⟨h0.ext, .inr ⟨id, cs, hb, h1, bg _ _ h2, h3, by rw [jO hid]; exact h4.ext, fun i x hx => by rw [jO hid]; exact (h5 i x hx).ext⟩⟩
theorem EnR.wide (h : EnR b G w1 w2 e) (hb : b' ≤ b) : EnR b' G w1 w2 e := ⟨h.1, h.2.imp id fun ⟨i, cs, h1, h2⟩ => ⟨i, cs, Nat.le_trans hb h1, h2⟩⟩
theorem Lst.enr (h : Lst K G shAttr PAttr.u w l) (hd : aX K w1 dn) : EnR K.length G w1 w ⟨dn, l⟩ := by
 obtain ⟨⟨S, rfl⟩, h⟩ := h
 refine ⟨hd.ext, ?_⟩
 rcases h with ⟨rfl, rfl⟩ | ⟨id, cs, q1, q2, rfl, q4, q5⟩
 ·exact .inl ⟨rfl, rfl⟩
 ·obtain ⟨T', hT⟩ := Hq (H := K) (T := S) (o := .dead) q1
  exact .inr ⟨id, cs, q1, rfl, q2, q4, by rw [hT]; exact hd.ext, q5⟩
theorem EnR.attrs (h : EnR b G w1 w2 e) (hl : e.attrs.length ≤ maxLen) : aC G w2 e.attrs := by
 obtain ⟨_, ⟨rfl, h0⟩ | ⟨id, cs, _, rfl, h2, h3, _, h5⟩⟩ := h
 ·rw [h0]
  exact aG.2 ⟨_, _, rfl, rfl, by simp, .inl ⟨rfl, rfl⟩⟩
 ·refine aG.2 ⟨_, _, rfl, rfl, by simpa using hl, .inr ⟨id, 0, true, cs, by simp, h2, by simp; omega, fun i x hx => ?_⟩⟩
  rw [List.getElem?_map] at hx
  obtain ⟨y, hy, rfl⟩ := Option.map_eq_some_iff.1 hx
  rw [Nat.zero_add]
  exact (h5 i y hy).undead
theorem EnR.nil (hd : aX G w1 dn) : EnR b G w1 (.slc none 0) ⟨dn, []⟩ := ⟨hd, .inl ⟨rfl, rfl⟩⟩
theorem EnR.push {x : PAttr} {c : List V} {d : LD} {z : List V} (h : EnR b G w1 w2 e) (hb : b ≤ G.length) (hc : c.length = 2) (hx : ∀ id, id < G.length → At ((G ++ T).set id .dead) shAttr c x.u) (hx0 : At (G ++ T) shAttr c x.u) (hz : z.length = 2) (hl : e.attrs.length ≤ 1000000) :
  ∃ v' G', aU ⟨d, 2, 40, z⟩ (G ++ T ++ [.mk true 2 c]) w2 (.slc (some ((G ++ T).length, 0)) 1) = some (v', G') ∧ EnR b G' w1 v' ⟨e.dn, e.attrs ++ [x]⟩ ∧ G.length ≤ G'.length ∧ (∀ q, q < b → G'[q]? = G[q]?) ∧ ∀ q, q < G.length → G'[q]? = G[q]? ∨ ∃ own cells, G[q]? = some (.mk own 2 cells) := by
 have hco := At.ones _ hx0
 have hnew := jF (d := d) (by_ := 40) (z := z) (G := G ++ T) (es := 2) (c := c) (by omega)
 rw [hc] at hnew
 obtain ⟨h0, ⟨rfl, hn⟩ | ⟨id, cs, hbi, rfl, h2, h3, h4, h5⟩⟩ := h
 ·refine ⟨_, _, kW hz (by decide) (by decide) (by decide) hnew (by decide) hco (by decide), ⟨h0.ext.ext.ext, .inr ⟨_, c, ?_, by simp [hn], get_last, by simp [hn, hc], ?_, fun i y hy => ?_⟩⟩, by simp, fun q hq => ?_, fun q hq => .inl ?_⟩
  ·simp; omega
  ·rw [gY]; exact h0.ext.ext.ext
  ·rw [gY]
   rw [hn] at hy
   have : i = 0 := by
    have := (List.getElem?_eq_some_iff.1 hy).1
    simp at this; omega
   subst this
   cases hy
   rw [Nat.zero_mul, List.drop_zero, List.take_of_length_le (by omega)]
   exact hx0.ext.ext
  ·rw [List.append_assoc, List.append_assoc, List.getElem?_append_left (by omega)]
  ·rw [List.append_assoc, List.append_assoc, List.getElem?_append_left (by omega)]
 ·have hid := (List.getElem?_eq_some_iff.1 h2).1
  have h2' : (G ++ T ++ [Ob.mk true 2 c])[id]? = some (.mk true 2 cs) := by rw [List.append_assoc]; exact bg _ _ h2
  have hl2 : ((G ++ T ++ [Ob.mk true 2 c]).set id .dead).length = (G ++ T ++ [Ob.mk true 2 c]).length := List.length_set
  have hset : (G ++ T ++ [Ob.mk true 2 c]).set id .dead = (G ++ T).set id .dead ++ [.mk true 2 c] := jO (by simp; omega)
  have hG : (G ++ T).set id .dead = G.set id .dead ++ T := jO hid
  refine ⟨_, _, dG hz (by decide) (by decide) (by decide) h2' h3 hnew (by decide) hco (by unfold ax; omega), ⟨?_, .inr ⟨(G ++ T ++ [Ob.mk true 2 c]).length, cs ++ c, ?_, by simp, ?_, by simp [h3, hc, Nat.add_mul], ?_, fun i y hy => ?_⟩⟩, by simp; omega, fun q hq => ?_, fun q hq => ?_⟩
  ·rw [hset, hG]; exact h4.ext.ext.ext
  ·simp; omega
  ·rw [← hl2, get_last]
  ·rw [← hl2, gY, hset, hG]; exact h4.ext.ext.ext
  ·rw [← hl2, gY, hset]
   have key := vU (n := e.attrs.length) (s := 2) (cs := cs) (c := c) h3 hc (P := fun i cc => ∀ y, (e.attrs ++ [x])[i]? = some y → At ((G ++ T).set id .dead ++ [Ob.mk true 2 c] ++ [.dead]) shAttr cc y.u) (fun i hi y hy => by
     rw [List.getElem?_append_left hi] at hy
     rw [hG]
     exact (h5 i y hy).ext.ext.ext) (fun y hy => by
     simp at hy
     subst hy
     exact (hx id hid).ext.ext)
   have hi : i < e.attrs.length + 1 := by
    have := (List.getElem?_eq_some_iff.1 hy).1
    simpa using this
   exact key i hi y hy
  ·rw [List.getElem?_append_left (by rw [hl2]; simp; omega), List.getElem?_set_ne (by omega), List.append_assoc, List.getElem?_append_left (by omega)]
  ·by_cases hqi : id = q
   ·subst hqi; exact .inr ⟨_, _, h2⟩
   ·exact .inl (by rw [List.getElem?_append_left (by rw [hl2]; simp; omega), List.getElem?_set_ne hqi, List.append_assoc, List.getElem?_append_left (by omega)])
end
def rM (G : List Ob) (id : Nat) (v : V) : Prop := (∃ a m z, G[id]? = some (.mk true 4 [v, .int .i64 a, .int .u64 m, .int .i64 z])) ∧ ∃ p n, v = .slc p n
def Ev (id : Nat) (G G' : List Ob) : Prop := G.length ≤ G'.length ∧ ∀ q, q ≠ id → q < G.length → G'[q]? = G[q]?
section
variable {id : Nat} {v : V} {G G1 G2 T : List Ob}
theorem Ev.refl : Ev id G G := ⟨Nat.le_refl _, fun _ _ _ => rfl⟩
theorem Ev.trans (h : Ev id G G1) (h' : Ev id G1 G2) : Ev id G G2 := ⟨Nat.le_trans h.1 h'.1, fun q hq hl => by rw [h'.2 q hq (Nat.lt_of_lt_of_le hl h.1), h.2 q hq hl]⟩
theorem Ev.app : Ev id G (G ++ T) := ⟨by simp, fun q _ hl => List.getElem?_append_left hl⟩
theorem Ev.gc {r : V} (h : Ev id G G1) : Ev id G (eY G G1 r) := by
 unfold eY
 split
 ·exact .refl
 ·exact h
theorem New.ev {b e : Nat} {sh : Sh} {cs : List V} {u : U} (h : New b e G sh cs u) (hid : id < b) (he : e ≤ G.length) (hE : Ev id G G1) : New b e G1 sh cs u :=
 h.frame fun q h1 h2 => hE.2 q (by omega) (by omega)
theorem At.ev {sh : Sh} {cs : List V} {u : U} (ho : okS sh = true) (hs : rM G id v) (h1 : rM G1 id v) (hE : Ev id G G1) (h : At G sh cs u) : At G1 sh cs u := by
 obtain ⟨⟨a, m, z, e⟩, hv⟩ := hs
 obtain ⟨⟨a', m', z', e'⟩, _⟩ := h1
 have hl := (List.getElem?_eq_some_iff.1 e').1
 have e1 : G1 = bF G1 id v a' m' z' := by
  apply List.ext_getElem?
  intro q
  by_cases hq : q = id
  ·subst hq; rw [dE hl, e']
  ·rw [kQ hq]
 rw [e1]
 refine At.src (a := a) (m := m) (z := z) hl hv sh ho (At.upL (fun q own es cells hq => ?_) sh h)
 by_cases hqi : q = id
 ·subst hqi; rw [dE hl, ← e]; exact hq
 ·rw [kQ hqi, hE.2 q hqi (List.getElem?_eq_some_iff.1 hq).1]; exact hq
theorem EnR.ev {b : Nat} {w1 w2 : V} {e : PEntry} (hs : rM G id v) (h1 : rM G1 id v) (hE : Ev id G G1) (h : EnR b G w1 w2 e) : EnR b G1 w1 w2 e := by
 obtain ⟨h0, h | ⟨i, cs, hb, q1, q2, q3, q4, q5⟩⟩ := h
 ·exact ⟨At.ev (by decide) hs h1 hE h0, .inl h⟩
 ·have hi := (List.getElem?_eq_some_iff.1 q2).1
  have hne : i ≠ id := by
   rintro rfl
   obtain ⟨⟨a, m, z, e⟩, _⟩ := hs
   rw [q2] at e
   simp at e
  have hk : ∀ {X : List Ob}, rM X id v → rM (X.set i .dead) id v := fun {X} ⟨⟨a, m, z, e⟩, hv⟩ => ⟨⟨a, m, z, by rw [List.getElem?_set_ne hne]; exact e⟩, hv⟩
  have hE' : Ev id (G.set i .dead) (G1.set i .dead) := ⟨by simpa using hE.1, fun q hq hl => by
   rw [List.length_set] at hl
   by_cases hqi : i = q
   ·subst hqi
    rw [List.getElem?_set_self hi, List.getElem?_set_self (Nat.lt_of_lt_of_le hi hE.1)]
   ·rw [List.getElem?_set_ne hqi, List.getElem?_set_ne hqi]
    exact hE.2 q hq hl⟩
  exact ⟨At.ev (by decide) hs h1 hE h0, .inr ⟨i, cs, hb, q1, by rw [hE.2 i hne hi]; exact q2, q3, At.ev (by decide) (hk hs) (hk h1) hE' q4, fun j x hx => At.ev (by decide) (hk hs) (hk h1) hE' (q5 j x hx)⟩⟩
end
def SrcIn (G : List Ob) (id : Nat) (v : V) : Prop := ∃ H n a m z, G = bF H id v a m z ∧ SrcOk H id v n a m z
section
variable {id : Nat} {v : V} {G G1 G2 T : List Ob}
theorem SrcIn.lt (h : SrcIn G id v) : id < G.length := by
 obtain ⟨H, n, a, m, z, rfl, hs⟩ := h
 rw [jU]
 exact hs.lt
theorem SrcIn.at (h : SrcIn G id v) : rM G id v := by
 obtain ⟨H, n, a, m, z, rfl, hs⟩ := h
 exact ⟨⟨a, m, z, dE hs.lt⟩, hs.slc⟩
theorem SrcIn.app (h : SrcIn G id v) : SrcIn (G ++ T) id v := by
 obtain ⟨H, n, a, m, z, rfl, hs⟩ := h
 exact ⟨H ++ T, n, a, m, z, Ap hs.lt, hs.app⟩
theorem SrcIn.keep (h : SrcIn G id v) (hl : G.length ≤ G1.length) (hk : ∀ q, q < G.length → G1[q]? = G[q]? ∨ ∃ own cells, G[q]? = some (.mk own 2 cells)) : SrcIn G1 id v := by
 obtain ⟨H, n, a, m, z, rfl, hs⟩ := h
 have hid : id < (bF H id v a m z).length := by rw [jU]; exact hs.lt
 have e : G1[id]? = some (.mk true 4 [v, .int .i64 a, .int .u64 m, .int .i64 z]) := by
  rcases hk id hid with h | ⟨_, _, h⟩
  ·rw [h, dE hs.lt]
  ·rw [dE hs.lt] at h; simp at h
 have e1 : G1 = bF G1 id v a m z := by
  apply List.ext_getElem?
  intro q
  by_cases hq : q = id
  ·subst hq; rw [dE (Nat.lt_of_lt_of_le hid hl), e]
  ·rw [kQ hq]
 obtain ⟨us, hn, hb⟩ := hs.bytes
 refine ⟨G1, n, a, m, z, e1, ⟨Nat.lt_of_lt_of_le hid hl, ⟨us, hn, ?_⟩, hs.at0, hs.at1, hs.m0, hs.m1, hs.z0, hs.z1⟩⟩
 rw [← e1]
 obtain ⟨w, l, hw, hu, hb1, hsl⟩ := aG.1 hb
 refine aG.2 ⟨w, l, hw, hu, hb1, ?_⟩
 rcases hsl with h | ⟨i, off, own, cells, q1, q2, q3, q4⟩
 ·exact .inl h
 ·refine .inr ⟨i, off, own, cells, q1, ?_, q3, fun j x hx => ?_⟩
  ·rcases hk i (List.getElem?_eq_some_iff.1 q2).1 with h | ⟨_, _, h⟩
   ·rw [h]; exact q2
   ·rw [q2] at h; simp at h
  ·have := q4 j x hx
   simpa only [At] using this
theorem SrcIn.gc {r : V} (h : SrcIn G id v) (h1 : SrcIn G1 id v) : SrcIn (eY G G1 r) id v := by
 unfold eY
 split
 ·exact h
 ·exact h1
end
def xu (Q : Ex → St → Prop) : Option St → Prop
 | some σ => Q .norm σ
 | none => False
theorem dM {Q : Ex → St → Prop} {σ : St} : xu Q (some σ) ↔ Q .norm σ := Iff.rfl
theorem dK {Q : Ex → St → Prop} : xu Q none ↔ False := Iff.rfl
theorem dO {C : Ctx} {f id : Nat} {ops : Array Oper} {draw : Bool} {σ : St} {Q : Ex → St → Prop} : WP C f (.region id ops draw) σ Q ↔ xu Q (bI C (callW C) f id ops draw σ) := by
 rw [dH]
 cases bI C (callW C) f id ops draw σ with
 | none => simp [xu]
 | some σ1 => exact ⟨fun ⟨_, h, hq⟩ => by cases h; exact hq, fun h => ⟨σ1, rfl, h⟩⟩
def uS (C : Ctx) (f : Nat) (a b : Code) (σ : St) (Q : Ex → St → Prop) (o : Option V) : Prop := ∃ t, o = some (.bool t) ∧ if t = true then WP C f a σ Q else WP C f b σ Q
theorem fV {C : Ctx} {f : Nat} {c : Operand} {a b : Code} {σ : St} {Q : Ex → St → Prop} : WP C f (.cond c a b) σ Q ↔ uS C f a b σ Q (ev σ c) := gG
theorem dL {C : Ctx} {f : Nat} {a b : Code} {σ : St} {Q : Ex → St → Prop} : uS C f a b σ Q (some (.bool true)) ↔ WP C f a σ Q := by simp [uS]
theorem df {C : Ctx} {f : Nat} {a b : Code} {σ : St} {Q : Ex → St → Prop} : uS C f a b σ Q (some (.bool false)) ↔ WP C f b σ Q := by simp [uS]
theorem dJ {C : Ctx} {f : Nat} {a b : Code} {σ : St} {Q : Ex → St → Prop} {t : Bool} : uS C f a b σ Q (some (.bool t)) ↔ if t = true then WP C f a σ Q else WP C f b σ Q := by simp [uS]
section
variable {σ : St} {C : Ctx}
end
theorem xB {C : Ctx} {f id : Nat} {ops : Array Oper} {h : Hint} {σ : St} {Q : Ex → St → Prop} (X : List Nat) (ho : C.ord f id = some h) (hr : xu Q (dP C (callW C) f ops { h with exc := X } σ)) : xu Q (bI C (callW C) f id ops true σ) := by
 cases hh : dP C (callW C) f ops { h with exc := X } σ with
 | none => rw [hh] at hr; exact hr.elim
 | some x => rw [hh] at hr; rw [kY ho hh]; exact hr
theorem FZ {a b c X : List Nat} {d e : List (Nat × Nat)} {g : List (Nat × List Nat)} {n : Nat} {H H' : List Ob} (hk : ∀ q, q < n → q ∉ X → H'[q]? = H[q]?) : iG ⟨a, b, c, d, e, g, X⟩ n H H' := fun q hq => hk q hq.1 fun hm => by
 have := hq.2
 simp at this
 exact this hm
theorem BH {E : LT} {H H' : List Ob} {s x s' : V} (h : aU E H s x = some (s', H')) : H.length ≤ H'.length := by
 unfold aU at h
 repeat' split at h
 all_goals first
  | (cases h; done)
  | (cases h; simp)
section
variable {id : Nat} {v : V} {G G' K S X : List Ob} {l : List Nat}
theorem Ev.split (hs : SrcIn G id v) (h : Ev id (G ++ S) G') (hl : G'.length = (G ++ S).length) (hs' : SrcIn G' id v) : ∃ K, G' = K ++ S ∧ K.length = G.length ∧ Ev id G K ∧ SrcIn K id v := by
 have hid := hs.lt
 have hlen : G.length ≤ G'.length := by rw [hl]; simp
 have e : G' = G'.take G.length ++ S := by
  apply List.ext_getElem?
  intro q
  by_cases hq : q < G.length
  ·rw [List.getElem?_append_left (by rw [List.length_take]; omega), List.getElem?_take_of_lt hq]
  ·rw [List.getElem?_append_right (by rw [List.length_take]; omega), List.length_take, Nat.min_eq_left hlen]
   by_cases hq2 : q < (G ++ S).length
   ·rw [h.2 q (by omega) hq2, List.getElem?_append_right (by omega)]
   ·rw [List.getElem?_eq_none (by omega), List.getElem?_eq_none (by simp at hq2; omega)]
 have hK : (G'.take G.length).length = G.length := by rw [List.length_take]; omega
 have hE : Ev id G (G'.take G.length) := ⟨by omega, fun q hq hlt => by rw [List.getElem?_take_of_lt hlt, h.2 q hq (by simp; omega), List.getElem?_append_left hlt]⟩
 refine ⟨_, e, hK, hE, ?_⟩
 obtain ⟨H', n', a', m', z', e2, hs2⟩ := hs'
 have hid' : id < G'.length := by omega
 have e3 : (G'.take G.length)[id]? = some (.mk true 4 [v, .int .i64 a', .int .u64 m', .int .i64 z']) := by
  rw [List.getElem?_take_of_lt hid, e2, dE hs2.lt]
 obtain ⟨H0, n0, a0, m0, z0, e4, hs0⟩ := hs
 have e5 : G'.take G.length = bF (G'.take G.length) id v a' m' z' := by
  apply List.ext_getElem?
  intro q
  by_cases hq : q = id
  ·subst hq; rw [dE (by omega), e3]
  ·rw [kQ hq]
 have hb2 : n' = n0 := by
  obtain ⟨us, h1, h2⟩ := hs2.bytes
  obtain ⟨us0, h3, h4⟩ := hs0.bytes
  obtain ⟨w, k, f1, f2, _, f4⟩ := aG.1 h2
  obtain ⟨w0, k0, g1, g2, _, g4⟩ := aG.1 h4
  cases f1; cases g1; cases f2; cases g2
  have p1 := f4.len (e := 0) (s := 0) (b := 0) (z := [])
  have p2 := g4.len (e := 0) (s := 0) (b := 0) (z := [])
  rw [p1] at p2
  simp at p2
  omega
 subst hb2
 refine ⟨G'.take G.length, n', a', m', z', e5, ⟨by omega, ?_, hs2.at0, hs2.at1, hs2.m0, hs2.m1, hs2.z0, hs2.z1⟩⟩
 rw [← e5]
 obtain ⟨us, hn, hb⟩ := hs0.bytes
 refine ⟨us, hn, ?_⟩
 rw [← e4] at hb
 have hsA : rM G id v := SrcIn.at ⟨H0, n', a0, m0, z0, e4, hs0⟩
 exact At.ev (by decide) hsA ⟨⟨a', m', z', e3⟩, hs0.slc⟩ hE hb
theorem SrcIn.of {G0 : List Ob} (hs0 : SrcIn G0 id v) (h : SrcIn G id v) (hE : Ev id G0 G') (hid : G'[id]? = G[id]?) : SrcIn G' id v := by
 have hlt := hs0.lt
 obtain ⟨H2, n2, a, m, z, e2, hs2⟩ := h
 have e3 : G'[id]? = some (.mk true 4 [v, .int .i64 a, .int .u64 m, .int .i64 z]) := by rw [hid, e2, dE hs2.lt]
 have hsA := hs0.at
 obtain ⟨H0, n0, a0, m0, z0, e4, hs1⟩ := hs0
 have hl' : id < G'.length := Nat.lt_of_lt_of_le hlt hE.1
 have e5 : G' = bF G' id v a m z := by
  apply List.ext_getElem?
  intro q
  by_cases hq : q = id
  ·subst hq; rw [dE hl', e3]
  ·rw [kQ hq]
 have hb2 : n2 = n0 := by
  obtain ⟨us, h1, h2⟩ := hs2.bytes
  obtain ⟨us0, h3, h4⟩ := hs1.bytes
  obtain ⟨w, k, f1, f2, _, f4⟩ := aG.1 h2
  obtain ⟨w0, k0, g1, g2, _, g4⟩ := aG.1 h4
  cases f1; cases g1; cases f2; cases g2
  have p1 := f4.len (e := 0) (s := 0) (b := 0) (z := [])
  have p2 := g4.len (e := 0) (s := 0) (b := 0) (z := [])
  rw [p1] at p2
  simp at p2
  omega
 subst hb2
 refine ⟨G', n2, a, m, z, e5, ⟨hl', ?_, hs2.at0, hs2.at1, hs2.m0, hs2.m1, hs2.z0, hs2.z1⟩⟩
 rw [← e5]
 obtain ⟨us, hn, hb⟩ := hs1.bytes
 refine ⟨us, hn, ?_⟩
 rw [← e4] at hb
 exact At.ev (by decide) hsA ⟨⟨a, m, z, e3⟩, hs1.slc⟩ hE hb
theorem Ev.appS (h : Ev id G K) (hl : K.length = G.length) : Ev id (G ++ S) (K ++ S) := ⟨by simp [hl], fun q hq hlt => by
 by_cases h2 : q < G.length
 ·rw [List.getElem?_append_left (by omega), List.getElem?_append_left h2, h.2 q hq h2]
 ·rw [List.getElem?_append_right (by omega), List.getElem?_append_right (by omega), hl]⟩
theorem BI {a b c : List Nat} {d e : List (Nat × Nat)} {g : List (Nat × List Nat)} {n : Nat} (h : Ev id G K) (hl : K.length = G.length) : iG ⟨a, b, c, d, e, g, [id]⟩ n (G ++ S) (K ++ S) := FZ fun q hq hX => by
 have hne : q ≠ id := by simpa using hX
 by_cases h2 : q < G.length
 ·rw [List.getElem?_append_left (by omega), List.getElem?_append_left h2, h.2 q hne h2]
 ·rw [List.getElem?_append_right (by omega), List.getElem?_append_right (by omega), hl]
theorem CS {h : Hint} {n : Nat} : iG h n G G := fun _ _ => rfl
theorem G5 {h : Hint} : iG h G.length G (G ++ S) := fun q hq => List.getElem?_append_left hq.1
theorem uB (hl : K.length = G.length) : fB l G.length (G ++ S) (K ++ X) = K ++ fB l 0 S X := by
 have h1 := lI (H := K) (S := S) (X := X) (l := l)
 rw [← h1, hl]
 apply List.ext_getElem?
 intro i
 rw [ed, ed]
 by_cases hi : i < K.length
 ·rw [List.getElem?_append_left hi]
  cases K[i]? with
  | none => rfl
  | some o => rw [Option.map_some, Option.map_some, if_neg (fun hc => absurd hc.1 (by omega)), if_neg (fun hc => absurd hc.1 (by omega))]
 ·have : (G ++ S).getD i .dead = (K ++ S).getD i .dead := by
   rw [List.getD_eq_getElem?_getD, List.getD_eq_getElem?_getD, List.getElem?_append_right (by omega), List.getElem?_append_right (by omega), hl]
  rw [this]
def RowF (b : Nat) (G : List Ob) (es : Nat) (w : V) (n : Nat) (cs : List V) : Prop := ∃ i, b ≤ i ∧ w = .slc (some (i, 0)) n ∧ G[i]? = some (.mk true es cs) ∧ cs.length = n * es
theorem RowF.init {b es : Nat} (hb : b ≤ G.length) : RowF b (G ++ [.mk true es []]) es (.slc (some (G.length, 0)) 0) 0 [] := ⟨G.length, hb, rfl, get_last, by simp⟩
theorem RowF.ev {b es n : Nat} {w : V} {cs : List V} (h : RowF b G es w n cs) (hE : Ev id G G') (hid : id < b) : RowF b G' es w n cs := by
 obtain ⟨i, h1, h2, h3, h4⟩ := h
 exact ⟨i, h1, h2, by rw [hE.2 i (by omega) (List.getElem?_eq_some_iff.1 h3).1]; exact h3, h4⟩
theorem RowF.one {b es n : Nat} {w : V} {cs : List V} (h : RowF b G es w n cs) : aI w = true ∧ cellsOf w = some [w] := by
 obtain ⟨i, _, rfl, _⟩ := h; exact ⟨rfl, rfl⟩
theorem RowF.len {b es n : Nat} {w : V} {cs : List V} (h : RowF b G es w n cs) {e s b : Nat} {z : List V} : lenV ⟨.slice e, s, b, z⟩ w = some (.int .i64 n) := by
 obtain ⟨i, _, rfl, _⟩ := h; rfl
theorem RowF.notlow {b es n : Nat} {w : V} {cs : List V} {H : List Ob} (h : RowF b G es w n cs) (hH : H.length ≤ b) : ¬ eF H w := by
 obtain ⟨i, h1, rfl, _⟩ := h
 rintro ⟨own, es, cells, h⟩
 have := (List.getElem?_eq_some_iff.1 h).1
 omega
theorem RowF.push {b es n m : Nat} {w x : V} {cs c : List V} {by_ : Nat} {z : List V} (h : RowF b G es w n cs) (hx : ∀ d, aQ ⟨d, es, by_, z⟩ G x = some (c, m)) (hc : c.length = m * es) (hm : m ≠ 0) (h0 : 0 < es) (hz : z.length = es) (hb0 : 0 < by_) (hb1 : by_ ≤ 1000000) (ho : c.all aI = true) (hn : (n + m) * by_ ≤ ax) (hb : b ≤ G.length) :
  ∃ G', (∀ d, aU ⟨d, es, by_, z⟩ G w x = some (.slc (some (G.length, 0)) (n + m), G')) ∧ G'.length = G.length + 1 ∧ (∀ q, q < b → G'[q]? = G[q]?) ∧ RowF b G' es (.slc (some (G.length, 0)) (n + m)) (n + m) (cs ++ c) := by
 obtain ⟨i, h1, rfl, h3, h4⟩ := h
 have hi := (List.getElem?_eq_some_iff.1 h3).1
 refine ⟨_, fun d => dG hz h0 hb0 hb1 h3 h4 (hx d) hm ho hn, by simp, fun q hq => ?_, ⟨G.length, hb, rfl, ?_, by simp [h4, hc, Nat.add_mul]⟩⟩
 ·rw [List.getElem?_append_left (by rw [List.length_set]; omega), List.getElem?_set_ne (by omega)]
 ·have : G.length = (G.set i .dead).length := by simp
  rw [this, get_last]
theorem RowF.push1 {b n : Nat} {w : V} {cs c : List V} {by_ : Nat} {z : List V} (h : RowF b G c.length w n cs) (h0 : 0 < c.length) (hz : z.length = c.length) (hb0 : 0 < by_) (hb1 : by_ ≤ 1000000) (ho : c.all aI = true) (hn : (n + 1) * by_ ≤ ax) (hb : b ≤ G.length) :
  ∃ G', (∀ d, aU ⟨d, c.length, by_, z⟩ (G ++ [.mk true c.length c]) w (.slc (some (G.length, 0)) 1) = some (.slc (some (G.length + 1, 0)) (n + 1), G')) ∧ G'.length = G.length + 2 ∧ (∀ q, q < b → G'[q]? = G[q]?) ∧ RowF b G' c.length (.slc (some (G.length + 1, 0)) (n + 1)) (n + 1) (cs ++ c) := by
 obtain ⟨i, g1, g2, g3, g4⟩ := h
 have h' : RowF b (G ++ [.mk true c.length c]) c.length w n cs := ⟨i, g1, g2, by rw [List.getElem?_append_left (List.getElem?_eq_some_iff.1 g3).1]; exact g3, g4⟩
 obtain ⟨G', q1, q2, q3, q4⟩ := RowF.push h' (x := .slc (some (G.length, 0)) 1) (by_ := by_) (z := z) (c := c) (m := 1) (fun d => jF h0) (by omega) (by omega) h0 hz hb0 hb1 ho hn (by simp; omega)
 simp at q1 q2 q4
 exact ⟨G', q1, q2, fun q hq => by rw [q3 q hq, List.getElem?_append_left (by omega)], q4⟩
def kN (l : List PRdn) : List V := l.flatMap fun r => [.str r.attr, .str r.value]
theorem vJ {l : List PRdn} {r : PRdn} : kN (l ++ [r]) = kN l ++ [.str r.attr, .str r.value] := by simp [kN]
theorem JU {l : List PRdn} {i : Nat} {r : PRdn} (h : l[i]? = some r) : ((kN l).drop (i * 2)).take 2 = [.str r.attr, .str r.value] := by
 induction l generalizing i with
 | nil => simp at h
 | cons x l ih =>
  cases i with
  | zero => simp at h; subst h; simp [kN]
  | succ i =>
   simp at h
   have := ih h
   simp only [kN, List.flatMap_cons] at this ⊢
   rw [show (i + 1) * 2 = 2 + i * 2 by omega, ← List.drop_drop]
   simpa using this
theorem uD {b : Nat} {w : V} {l : List PRdn} (h : RowF b G 2 w l.length (kN l)) (hl : l.length ≤ 1000) (hb : ∀ r ∈ l, r.attr.length ≤ 100 ∧ r.value.length ≤ 100) : aX G w l := by
 obtain ⟨i, h1, rfl, h3, h4⟩ := h
 refine aG.2 ⟨_, _, rfl, rfl, by simp; unfold maxLen; omega, .inr ⟨i, 0, true, _, by simp, h3, by simp [h4, Sh.size, Sh.sizes], fun j x hx => ?_⟩⟩
 rw [List.getElem?_map] at hx
 obtain ⟨y, hy, rfl⟩ := Option.map_eq_some_iff.1 hx
 have := hb y (List.mem_of_getElem? hy)
 have e : ((kN l).drop (0 + j * 2)).take 2 = [.str y.attr, .str y.value] := by rw [Nat.zero_add]; exact JU hy
 exact uo.2 ⟨e, by unfold maxLen; omega, by unfold maxLen; omega⟩
end
end Go.Lite
end
section
namespace Go.Proofs.Try1
open Go Go.Lite
attribute [-simp] dH gG
attribute [local simp] dO fV dM dK dL df
attribute [local simp low] dJ
def Dr (id : Nat) (v : V) (f : Nat) (as' : List V) (G : List Ob) (P : V → List Ob → Prop) : Prop := ∃ q G', callW C f (.ptr (some (id, 0)) :: as') G = some (q, G') ∧ Ev id G G' ∧ SrcIn G' id v ∧ P q G'
theorem Dr.of {id : Nat} {v : V} {f : Nat} {as' : List V} {G : List Ob} {P : V → List Ob → Prop} (h : Ret C f (.ptr (some (id, 0)) :: as') G fun q G' => Ev id G G' ∧ SrcIn G' id v ∧ P q G') : Dr id v f as' G P := by
 obtain ⟨q, G', h1, h2, h3, h4⟩ := h
 exact ⟨q, G', h1, h2, h3, h4⟩
def Dk (id : Nat) (v : V) (f : Nat) (as' : List V) (G S : List Ob) (P : V → Prop) : Prop := ∃ q K, callW C f (.ptr (some (id, 0)) :: as') (G ++ S) = some (q, K ++ S) ∧ K.length = G.length ∧ Ev id G K ∧ SrcIn K id v ∧ P q
section
variable {id : Nat} {v : V} {G S : List Ob}
theorem Nl {H : List Ob} {a m z a' m' : Int} : Ev id (bF H id v a m z) (bF H id v a' m' z) := ⟨by rw [jU, jU]; exact Nat.le_refl _, fun q hq _ => by rw [kQ hq, kQ hq]⟩
theorem Dk.of {f : Nat} {as' : List V} {P : V → Prop} (hs : SrcIn G id v) (h : ∀ {H n a m z}, G ++ S = bF H id v a m z → SrcOk H id v n a m z → ∃ q a' m', callW C f (.ptr (some (id, 0)) :: as') (bF H id v a m z) = some (q, bF H id v a' m' z) ∧ SrcOk H id v n a' m' z ∧ P q) : Dk id v f as' G S P := by
 obtain ⟨H, n, a, m, z, e, hs1⟩ := hs.app (T := S)
 obtain ⟨q, a', m', c, h3, hp⟩ := h e hs1
 obtain ⟨K, eK, hl, hE, hK⟩ := Ev.split hs (G' := bF H id v a' m' z) (by rw [e]; exact Nl) (by rw [e, jU, jU]) ⟨H, n, a', m', z, rfl, h3⟩
 exact ⟨q, K, by rw [e, c, eK], hl, hE, hK, hp⟩
theorem NC (hs : SrcIn G id v) {most : Int} (hm : most ≤ 4611686018427387904) : Dk id v 79 [.int .i64 most] G S fun q => ∃ r : Nat, q = .int .i64 r ∧ (1 < most → (r : Int) < most) ∧ (most ≤ 1 → r = 0) := Dk.of hs fun e hs => by
 obtain ⟨r, a', m', c, h0, h1, h2, h3⟩ := Ty hs hm
 refine ⟨_, a', m', c, h3, r.toNat, ?_, ?_, ?_⟩
 ·rw [show ((r.toNat : Nat) : Int) = r by omega]
 ·intro h; have := h1 h; omega
 ·intro h; have := h2 h; omega
theorem Bz (hs : SrcIn G id v) {most : Int} (hm : most ≤ 4611686018427387904) : Dk id v 81 [.int .i64 most] G S fun q => ∃ b, q = .bool b := Dk.of hs fun e hs => by
 obtain ⟨b, a', m', c, h3⟩ := NL hs hm
 exact ⟨_, a', m', c, h3, b, rfl⟩
theorem H8 (hs : SrcIn G id v) {w : V} {l : List Str} (hl : AStrs (G ++ S) w l) (h0 : 0 < l.length) (h1 : l.length ≤ 1000) : Dk id v 91 [w] G S fun q => ∃ s, q = .str s ∧ s ∈ l := Dk.of hs fun e hs => by
 obtain ⟨s, a', m', c, hm, h3⟩ := Ns hs (by rw [← e]; exact hl) h0 h1
 exact ⟨_, a', m', c, h3, s, rfl, hm⟩
theorem vw {G T : List Ob} {l : List Str} (hl : l.length ≤ 1000) (hb : ∀ s ∈ l, s.length ≤ 100) : AStrs (G ++ .mk true 1 (l.map V.str) :: T) (.slc (some (G.length, 0)) l.length) l := by
 have := (Gs.strs (H := G) (G := G ++ [.mk true 1 (l.map V.str)]) (v := .slc (some (G.length, 0)) (l.map V.str).length) (l := l) ⟨_, G.length, rfl, by simp, get_last, rfl⟩ (by unfold maxLen; omega) (fun s hs => by have := hb s hs; unfold maxLen; omega)).1
 have h2 := ASl.ext (T := T) this
 simpa using h2
theorem kS (hs : SrcIn G id v) (l : List Str) (h0 : 0 < l.length) (h1 : l.length ≤ 1000) (hb : ∀ s ∈ l, s.length ≤ 100) : Dk id v 91 [.slc (some (G.length, 0)) l.length] G (.mk true 1 (l.map V.str) :: S) fun q => ∃ s, q = .str s ∧ s.length ≤ 100 ∧ s ∈ l := by
 obtain ⟨q, K, c, e1, e2, e3, s, hq, hm⟩ := H8 (S := .mk true 1 (l.map V.str) :: S) hs (vw h1 hb) h0 h1
 exact ⟨q, K, c, e1, e2, e3, s, hq, hb s hm, hm⟩
end
theorem vM {id : Nat} {v : V} {G : List Ob} (hs : SrcIn G id v) : Dr id v 78 [] G fun q _ => ∃ s : Str, q = .str s ∧ s.length ≤ 100 := by
 apply Dr.of
 rw [RN]
 obtain ⟨q, K, c, hl, e, s1, s, rfl, hm, _⟩ := kS (S := []) hs [[99, 110], [109, 97, 105, 108], [112, 104, 111, 110, 101], [117, 105, 100]] (by decide) (by decide) (by decide)
 have e' := (e.appS (S := [.mk true 1 [.str [99, 110], .str [109, 97, 105, 108], .str [112, 104, 111, 110, 101], .str [117, 105, 100]]]) hl)
 have e2 := Ev.app.trans e'
 simp at c
 simp [-sU, Ib, Tryz.f78, aB, ay, ak, St.new, c]
 exact ⟨e2.gc, hs.gc s1.app, hm⟩
theorem xq {id : Nat} {v : V} {G : List Ob} (hs : SrcIn G id v) : Dr id v 80 [] G fun q _ => ∃ s : Str, q = .str s ∧ s.length ≤ 100 := by
 apply Dr.of
 rw [TJ]
 obtain ⟨q, K, c, hl, e, s1, s, rfl, hm, _⟩ := kS (S := []) hs [[97, 110, 110], [65, 110, 110], [98, 111, 98], [97, 64, 120], [53], [66, 32, 32, 98], [122, 101, 100]] (by decide) (by decide) (by decide)
 have e' := (e.appS (S := [.mk true 1 [.str [97, 110, 110], .str [65, 110, 110], .str [98, 111, 98], .str [97, 64, 120], .str [53], .str [66, 32, 32, 98], .str [122, 101, 100]]]) hl)
 have e2 := Ev.app.trans e'
 simp at c
 simp [-sU, Ii, Tryz.f80, aB, ay, ak, St.new, c]
 exact ⟨e2.gc, hs.gc s1.app, hm⟩
theorem Lp {id : Nat} {v : V} {G : List Ob} (hs : SrcIn G id v) : Dr id v 246 [] G fun q _ => ∃ a b : Str, q = .agg [.str a, .str b] ∧ a.length ≤ 100 ∧ b.length ≤ 100 := by
 apply Dr.of
 rw [Po]
 obtain ⟨_, K1, c1, l1, e1, s1, a1, rfl, h1, _⟩ := kS (S := []) hs [[99, 110], [111, 117], [100, 99]] (by decide) (by decide) (by decide)
 have f1 := Ev.app.trans (e1.appS (S := [.mk true 1 [.str [99, 110], .str [111, 117], .str [100, 99]]]) l1)
 obtain ⟨_, K2, c2, l2, e2, s2, a2, rfl, h2, _⟩ := kS (S := []) (G := K1 ++ [.mk true 1 [.str [99, 110], .str [111, 117], .str [100, 99]]]) s1.app [[97, 110, 110], [65, 110, 110], [98, 111, 98, 32, 32, 98], [120], [97, 44, 98], [35, 49], [32, 121, 32], [61], [92]] (by decide) (by decide) (by decide)
 generalize hB : List.map V.str [[97, 110, 110], [65, 110, 110], [98, 111, 98, 32, 32, 98], [120], [97, 44, 98], [35, 49], [32, 121, 32], [61], [92]] = B at c2
 have f2 := f1.trans (Ev.app.trans (e2.appS (S := [.mk true 1 B]) l2))
 obtain ⟨_, K3, c3, l3, e3, s3, b, rfl⟩ := Bz (S := []) (G := K2 ++ [.mk true 1 B]) s2.app (most := 30) (by decide)
 have f3 := f2.trans e3
 subst hB
 simp at c1 c2 c3
 cases b with
 | false =>
  simp [uh, Tryz.f246, aB, ay, ak, St.new, c1, c2, c3, aP, ah]
  exact ⟨f3.gc, hs.gc s3, a1, a2, ⟨rfl, rfl⟩, h1, h2⟩
 | true =>
  simp [-AL, uh, Tryz.f246, aB, ay, ak, St.new, c1, c2, c3, aP, ah]
  refine xB [id] AL ?_
  obtain ⟨_, K4, c4, l4, e4, s4, a3, rfl, h3, _⟩ := kS (S := [.dead, .dead]) s3 [[99, 110], [65], []] (by decide) (by decide) (by decide)
  simp at c4
  obtain ⟨_, K5, c5, l5, e5, s5, a4, rfl, h4⟩ := H8 (S := [.mk true 1 [.str [99, 110], .str [65], .str []], .mk true 1 (List.replicate 41 (.int .u8 0)), .mk true 1 (List.map V.str [[], [32], [10], List.replicate 41 0])]) s4 (w := .slc (some (K4.length + 2, 0)) 4) (l := [[], [32], [10], List.replicate 41 0]) (by
   have := vw (G := K4 ++ [.mk true 1 [.str [99, 110], .str [65], .str []], .mk true 1 (List.replicate 41 (.int .u8 0))]) (T := []) (l := [[], [32], [10], List.replicate 41 0]) (by decide) (by decide)
   simpa using this) (by decide) (by decide)
  have k1 : di [0] K3.length (K3 ++ [Ob.mk true 1 [.str [99, 110], .str [65], .str []], .mk true 1 (List.replicate 41 (.int .u8 0)), .dead]) = K3 ++ [.dead, .mk true 1 (List.replicate 41 (.int .u8 0)), .dead] := by rw [lU]; rfl
  have hmm : (41 : Int) ≤ (ax : Int) := by decide
  have hmm' : 41 ≤ ax := by decide
  have x1 : aO (K3 ++ [.dead, .mk true 1 (List.replicate 41 (.int .u8 0)), .dead]) (some (K3.length + 1, 0)) 41 = some (List.replicate 41 (.int .u8 0)) := by
   simp only [aO, iC]
   rfl
  have x2 : List.mapM gK (List.replicate 41 (.int .u8 0)) = some (List.replicate 41 0) := by rfl
  have x3 : isByte ⟨.int .u8, 1, 1, [.int .u8 0]⟩ = true := rfl
  have hid := s3.lt
  have x4 : ¬ (K3.length + 1 = id) := by omega
  have x5 := BI (n := K3.length + 3) (a := [0, 1, 3, 4, 5, 6, 2, 7, 8, 9]) (b := [1, 2]) (c := [5]) (d := [(9, 3)]) (e := [(1, 0), (4, 1), (6, 2)]) (g := [(2, [1, 2]), (5, [0])]) e4 l4 (S := [Ob.mk true 1 [.str [99, 110], .str [65], .str []], .dead, .dead])
  have k2 : di [1, 2] K3.length (K3 ++ [Ob.mk true 1 [.str [99, 110], .str [65], .str []], .mk true 1 (List.replicate 41 (.int .u8 0)), .mk true 1 (List.map V.str [[], [32], [10], List.replicate 41 0])]) = K3 ++ [Ob.mk true 1 [.str [99, 110], .str [65], .str []], .dead, .dead] := by rw [lU]; rfl
  have k3 : fB [1, 2] K3.length (K3 ++ [Ob.mk true 1 [.str [99, 110], .str [65], .str []], .mk true 1 (List.replicate 41 (.int .u8 0)), .mk true 1 (List.map V.str [[], [32], [10], List.replicate 41 0])]) (K4 ++ [Ob.mk true 1 [.str [99, 110], .str [65], .str []], .dead, .dead]) = K4 ++ [Ob.mk true 1 [.str [99, 110], .str [65], .str []], .mk true 1 (List.replicate 41 (.int .u8 0)), .mk true 1 (List.map V.str [[], [32], [10], List.replicate 41 0])] := by rw [uB l4]; rfl
  have k4 : fB [0] K3.length (K3 ++ [Ob.mk true 1 [.str [99, 110], .str [65], .str []], .mk true 1 (List.replicate 41 (.int .u8 0)), .dead]) (K3 ++ [Ob.dead, .mk true 1 (List.replicate 41 (.int .u8 0)), .dead]) = K3 ++ [Ob.mk true 1 [.str [99, 110], .str [65], .str []], .mk true 1 (List.replicate 41 (.int .u8 0)), .dead] := by rw [lI]; rfl
  rw [l4] at c5
  simp [List.replicate] at k1 k2 k3 k4 c5 x1 x2
  simp [dP, uh, Tryz.f246, aB, ay, ak, St.new, aP, ah, ae, List.lookup, List.replicate, lF, lH, ja, lX, oO, hmm, hmm', k1, k2, k3, k4, x1, x2, x3, x4, x5, c4, c5, l4, l5, CS]
  have f5 := (f3.trans (e4.trans e5)).trans (Ev.app (T := [.mk true 1 [.str [99, 110], .str [65], .str []], .mk true 1 (List.replicate 41 (.int .u8 0)), .mk true 1 (List.map V.str [[], [32], [10], List.replicate 41 0])]))
  have s6 : SrcIn (K5 ++ [.mk true 1 [.str [99, 110], .str [65], .str []], .mk true 1 (List.replicate 41 (.int .u8 0)), .mk true 1 (List.map V.str [[], [32], [10], List.replicate 41 0])]) id v := s5.app
  have h4' : a4.length ≤ 100 := by
   simp at h4
   rcases h4 with rfl | rfl | rfl | rfl <;> simp
  simp [List.replicate] at f5 s6
  exact ⟨f5.gc, hs.gc s6, a3, a4, ⟨rfl, rfl⟩, h3, h4'⟩
theorem Me {id : Nat} {v : V} {G : List Ob} (hs : SrcIn G id v) : Dr id v 176 [] G fun q G' => ∃ dn : List PRdn, RowF G.length G' 2 q dn.length (kN dn) ∧ dn.length ≤ 10 ∧ ∀ r ∈ dn, r.attr.length ≤ 100 ∧ r.value.length ≤ 100 := by
 apply Dr.of
 rw [NY]
 have hid := hs.lt
 obtain ⟨_, K1, c1, l1, e1, s1, n, rfl, hn, _⟩ := NC (G := G ++ [.mk true 2 []]) (S := []) hs.app (most := 4) (by decide)
 have hn4 : n < 4 := by have := hn (by decide); omega
 have f1 := Ev.app.trans e1
 simp at c1
 simp [ES, Tryz.f176, aB, ay, ak, St.new, c1]
 have w0 : RowF G.length (G ++ [.mk true 2 []]) 2 (.slc (some (G.length, 0)) 0) 0 (kN []) := RowF.init (Nat.le_refl _)
 refine aH (fun k σ => ∃ (r : Nat → R) (K : List Ob) (w : V) (dn : List PRdn), σ = ⟨r, 0, K⟩ ∧ r 0 = .val (.ptr (some (id, 0))) ∧ r 3 = .val w ∧ r 4 = .val (.int .i64 k) ∧ Ev id G K ∧ SrcIn K id v ∧ RowF G.length K 2 w dn.length (kN dn) ∧ dn.length + k ≤ 3 ∧ ∀ r ∈ dn, r.attr.length ≤ 100 ∧ r.value.length ≤ 100) ?_ n _ ⟨_, K1, _, [], rfl, by simp, by simp, by simp, f1, s1, w0.ev e1 hid, by simp; omega, by simp⟩
 rintro k σ ⟨r, K, w, dn, rfl, r0, r3, r4, hE, hS, hw, hlen, hb⟩
 cases k with
 | zero =>
  obtain ⟨_, K2, c2, l2, e2, s2, t, rfl⟩ := Bz (S := []) hS (most := 30) (by decide)
  simp at c2
  have hE2 := hE.trans e2
  have hw2 := hw.ev e2 hid
  have hwo := hw2.one
  cases t with
  | false =>
   have hg : eY G K2 w = K2 := eP (hw2.notlow (Nat.le_refl _))
   simp [r0, r3, r4, ae, ag, List.lookup, c2, hwo, hg]
   exact ⟨hE2, s2, dn, hw2, by omega, hb⟩
  | true =>
   simp [r0, r3, r4, ae, ag, List.lookup, c2, hwo]
   refine aH (fun k σ => ∃ (r : Nat → R) (K : List Ob) (w : V) (dn : List PRdn), σ = ⟨r, 0, K⟩ ∧ r 0 = .val (.ptr (some (id, 0))) ∧ r 3 = .val w ∧ Ev id G K ∧ SrcIn K id v ∧ RowF G.length K 2 w dn.length (kN dn) ∧ dn.length + k = 7 ∧ ∀ r ∈ dn, r.attr.length ≤ 100 ∧ r.value.length ≤ 100) ?_ (7 - dn.length) _ ⟨_, K2, w, dn, rfl, by simp [r0], by simp [r3], hE2, s2, hw2, by omega, hb⟩
   clear hE hS hw hlen hb r0 r3 r4 c2 l2 e2 s2 hE2 hw2 hwo
   rintro k σ ⟨r, K, w, dn, rfl, r0, r3, hE, hS, hw, hlen, hb⟩
   obtain ⟨_, K2, c2, l2, e2, s2, m, rfl, hm, _⟩ := NC (S := []) hS (most := 3) (by decide)
   have hm3 : m < 3 := by have := hm (by decide); omega
   simp at c2
   have hE2 := hE.trans e2
   have hw2 := hw.ev e2 hid
   have hwo := hw2.one
   have hwr : IntKind.i64.wrap (5 + (m : Int)) = 5 + m := wrap_i64 (by omega) (by omega)
   by_cases g : (dn.length : Int) < 5 + m
   ·cases k with
    | zero => omega
    | succ k =>
     have hlt : G.length ≤ K2.length := hE2.1
     have hmx : (dn.length + 1) * 32 ≤ ax := by unfold ax; omega
     obtain ⟨G', p1, p2, p3, p4⟩ := RowF.push1 (c := [.str [99, 110], .str [120]]) (by_ := 32) (z := [.str [], .str []]) hw2 (by simp) (by simp) (by decide) (by decide) rfl hmx hlt
     simp at p1
     have hE3 : Ev id G G' := ⟨by omega, fun q hq hql => by rw [p3 q hql, hE2.2 q hq hql]⟩
     have hS3 : SrcIn G' id v := SrcIn.of hs s2 hE3 (p3 id hid)
     simp [r0, r3, ae, ag, List.lookup, c2, hw.len, hwr, g, aB, ay, ak, St.new, aP, ah, p1]
     refine ⟨k, by omega, _, _, ⟨rfl, rfl⟩, by simp [r0], _, by simp; rfl, hE3, hS3, dn ++ [⟨[99, 110], [120]⟩], ?_, by simp; omega, fun r hr => ?_⟩
     ·rw [vJ, List.length_append]; exact p4
     ·rcases List.mem_append.1 hr with h | h
      ·exact hb r h
      ·simp at h; subst h; decide
   ·have hg : eY G K2 w = K2 := eP (hw2.notlow (Nat.le_refl _))
    simp [r0, r3, ae, ag, List.lookup, c2, hw.len, hwr, g, hwo, hg]
    exact ⟨hE2, s2, dn, hw2, by omega, hb⟩
 | succ k =>
  have hw1 : IntKind.i64.wrap ((k : Int) + 1 - 1) = k := by rw [wrap_i64 (by omega) (by omega)]; omega
  have hk0 : (0 : Int) < (k : Int) + 1 := by omega
  obtain ⟨_, K2, c2, e2, s2, a, b, rfl, ha, hb2⟩ := Lp hS
  have hE2 := hE.trans e2
  have hw2 := hw.ev e2 hid
  have hlt : G.length ≤ K2.length := hE2.1
  have hmx : (dn.length + 1) * 32 ≤ ax := by unfold ax; omega
  obtain ⟨G', p1, p2, p3, p4⟩ := RowF.push1 (c := [.str a, .str b]) (by_ := 32) (z := [.str [], .str []]) hw2 (by simp) (by simp) (by decide) (by decide) rfl hmx hlt
  simp at p1
  have hE3 : Ev id G G' := ⟨by omega, fun q hq hql => by rw [p3 q hql, hE2.2 q hq hql]⟩
  have hS3 : SrcIn G' id v := SrcIn.of hs s2 hE3 (p3 id hid)
  simp [r0, r3, r4, ae, ag, List.lookup, c2, hw1, hk0, aB, ay, ak, St.new, aP, ah, p1]
  refine ⟨k, by omega, _, _, ⟨rfl, rfl⟩, by simp [r0], _, by simp; rfl, by simp; exact wrap_i64 (by omega) (by omega), hE3, hS3, dn ++ [⟨a, b⟩], ?_, by simp; omega, fun r hr => ?_⟩
  ·rw [vJ, List.length_append]; exact p4
  ·rcases List.mem_append.1 hr with h | h
   ·exact hb r h
   ·simp at h; subst h; exact ⟨ha, hb2⟩
theorem NE {H : List Ob} {n : Nat} (hn : n < 10) : ∃ s : Str, callW C 177 [.int .i64 n] H = some (.str s, H) ∧ s.length ≤ 2 := by
 suffices hs : Ret C 177 [.int .i64 n] H fun q H' => ∃ s : Str, q = .str s ∧ H' = H ∧ s.length ≤ 2 by
  obtain ⟨q, H', hc, s, rfl, rfl, h⟩ := hs
  exact ⟨s, hc, h⟩
 rw [OV]
 by_cases g : n = 0
 ·subst g
  simp [yl, Tryz.f177]
 have g' : ¬ (n : Int) = 0 := by omega
 have g2 : ¬ (n : Int) < 0 := by omega
 simp [yl, Tryz.f177, g, g', g2]
 refine aH (fun k σ => ∃ (r : Nat → R) (T : List Ob) (m : Nat) (s : Str), σ = ⟨r, 0, H ++ T⟩ ∧ r 0 = .val (.int .i64 m) ∧ r 3 = .val (.bool false) ∧ r 4 = .val (.str s) ∧ (k = 0 → m = 0) ∧ (0 < k → 0 < m) ∧ m < 10 ∧ s.length + k ≤ 1) ?_ 1 _ ⟨_, [], n, [], by rw [List.append_nil], by simp, by simp, by simp, by omega, by omega, hn, by simp⟩
 rintro k σ ⟨r, T, m, s, rfl, r0, r3, r4, h1, h2, h3, h4⟩
 cases k with
 | zero =>
  have := h1 rfl
  subst this
  have hl : s.length ≤ 2 := by omega
  simp [r0, r3, r4, hl, ae, ag, List.lookup]
 | succ k =>
  have hm := h2 (by omega)
  have hm0 : ¬ m = 0 := by omega
  have hm0' : ¬ (m : Int) = 0 := by omega
  have e1 : (m : Int).tmod 10 = m := by rw [Int.tmod_eq_emod_of_nonneg (by omega), Int.emod_eq_of_lt (by omega) (by omega)]
  have e2 : (m : Int).tdiv 10 = 0 := by rw [Int.tdiv_eq_ediv_of_nonneg (by omega), Int.ediv_eq_zero_of_lt (by omega) (by omega)]
  have e3 : ¬ (m : Int) < 0 := by omega
  have e4 : IntKind.u8.wrap (IntKind.i64.wrap (48 + (m : Int))) = 48 + m := by
   rw [wrap_i64 (by omega) (by omega)]
   simp only [IntKind.wrap, IntKind.bits, IntKind.signed]
   simp
   omega
  have hs0 : s = [] := List.length_eq_zero_iff.1 (by omega)
  subst hs0
  have x1 : aO (H ++ (T ++ [.mk true 1 [.int .u8 (48 + (m : Int))]])) (some (H.length + T.length, 0)) 1 = some [.int .u8 (48 + (m : Int))] := by
   have : (H ++ (T ++ [Ob.mk true 1 [.int .u8 (48 + (m : Int))]]))[H.length + T.length]? = some (.mk true 1 [.int .u8 (48 + (m : Int))]) := by
    rw [← List.append_assoc, ← List.length_append, get_last]
   simp [aO, this]
  have x3 : isByte ⟨.int .u8, 1, 1, [.int .u8 0]⟩ = true := rfl
  have x2 : ∃ c : UInt8, gK (.int .u8 (48 + (m : Int))) = some c := ⟨_, rfl⟩
  obtain ⟨c, x2⟩ := x2
  simp [r0, r3, r4, hm0, hm0', e1, e2, e3, e4, x1, x2, x3, ae, ag, List.lookup, aB, ay, ak, St.new, aP, ah, Dl, iP, lM, (by decide : 1 ≤ maxStr), wrap_i64 (n := 0) (by decide) (by decide)]
  exact ⟨0, by omega, 0, by omega, by omega, by omega, by omega, by omega⟩
end Go.Proofs.Try1
end
section
namespace Go.Proofs.Try1
open Go Go.Lite
theorem yR {t : Str} {H : List Ob} (ht : t.length ≤ 1000) : callW C 264 [.str t] H = some (.bool (dec (Plain t)), H) := by
 apply Ret.dec
 rw [Jy]
 simp [qG, Tryz.f264]
 refine aH (fun k σ => ∃ (i : Nat) (r : Nat → R), i + k = t.length ∧ σ = ⟨r, 0, H⟩ ∧ r 0 = .val (.str t) ∧ r 3 = .val (.int .i64 i) ∧ ∀ j, j < i → ∀ c, t[j]? = some c → jA c) ?_ t.length _ ⟨0, _, by simp, rfl, by simp, by simp, by simp⟩
 rintro k σ ⟨i, r, hik, rfl, r0, r3, hall⟩
 cases k with
 | zero =>
  have hi : i = t.length := by omega
  subst hi
  simp [r0, r3]
  intro j c hc
  exact hall j (List.getElem?_eq_some_iff.1 hc).1 c hc
 | succ k =>
  have hi : i < t.length := by omega
  obtain ⟨c, hc⟩ : ∃ c, t[i]? = some c := ⟨t[i], by simp [hi]⟩
  have hc' : t[i] = c := (List.getElem?_eq_some_iff.1 hc).2
  have hw : IntKind.i64.wrap ((i : Int) + 1) = ((i : Int) + 1) := wrap_i64 (by omega) (by omega)
  by_cases h1 : (c.toNat : Int) < 32
  ·simp [r0, r3, hi, hc', h1]
   intro hp
   have := (hp i c hc).1
   omega
  ·by_cases h2 : (c.toNat : Int) > 126
   ·simp [r0, r3, hi, hc', h1, h2]
    intro hp
    have := (hp i c hc).2
    omega
   ·simp [r0, r3, hi, hc', h1, h2, hw]
    exact ⟨k, by omega, i + 1, by omega, by omega, lY (P := fun _ c => jA c) hall hc ⟨by omega, by omega⟩⟩
theorem zM {t : Str} {H : List Ob} (ht : t.length ≤ 1000) : callW C 122 [.str t] H = some (.bool (dec (Plain t)), H) := by
 apply Ret.dec
 rw [IL]
 simp [qA, Tryz.f122]
 refine aH (fun k σ => ∃ (i : Nat) (r : Nat → R), i + k = t.length ∧ σ = ⟨r, 0, H⟩ ∧ r 0 = .val (.str t) ∧ r 5 = .val (.int .i64 t.length) ∧ r 6 = .val (.int .i64 i) ∧ ∀ j, j < i → ∀ c, t[j]? = some c → jA c) ?_ t.length _ ⟨0, _, by simp, rfl, by simp, by simp, by simp, by simp⟩
 rintro k σ ⟨i, r, hik, rfl, r0, r5, r6, hall⟩
 cases k with
 | zero =>
  have hi : i = t.length := by omega
  subst hi
  simp [r0, r5, r6]
  intro j c hc
  exact hall j (List.getElem?_eq_some_iff.1 hc).1 c hc
 | succ k =>
  have hi : i < t.length := by omega
  obtain ⟨c, hc⟩ : ∃ c, t[i]? = some c := ⟨t[i], by simp [hi]⟩
  have hc' : t[i] = c := (List.getElem?_eq_some_iff.1 hc).2
  have hw : IntKind.i64.wrap ((i : Int) + 1) = ((i : Int) + 1) := wrap_i64 (by omega) (by omega)
  by_cases h1 : (c.toNat : Int) < 32
  ·simp [r0, r5, r6, hi, hc', h1]
   intro hp
   have := (hp i c hc).1
   omega
  ·by_cases h2 : (c.toNat : Int) > 126
   ·simp [r0, r5, r6, hi, hc', h1, h2]
    intro hp
    have := (hp i c hc).2
    omega
   ·simp [r0, r5, r6, hi, hc', h1, h2, hw]
    exact ⟨k, by omega, i + 1, by omega, by omega, lY (P := fun _ c => jA c) hall hc ⟨by omega, by omega⟩⟩
theorem uX {t : Str} {H : List Ob} : callW C 93 [.str t] H = some (.bool (dec (aF t)), H) := by
 apply Ret.dec
 rw [Nc]
 by_cases g1 : (t.length : Int) < 1
 ·have g2 : ¬ aF t := fun h => by have := h.1; omega
  simp [l9, Tryz.f93, g1, g2]
 by_cases g2 : (t.length : Int) > 20
 ·have g3 : ¬ aF t := fun h => by have := h.2.1; omega
  simp [l9, Tryz.f93, g1, g2, g3]
 simp [l9, Tryz.f93, g1, g2]
 refine aH (fun k σ => ∃ (i : Nat) (r : Nat → R), i + k = t.length ∧ σ = ⟨r, 0, H⟩ ∧ r 0 = .val (.str t) ∧ r 3 = .val (.int .i64 i) ∧ ∀ j, j < i → ∀ c, t[j]? = some c → mZ c ∨ (0 < j ∧ (mV c ∨ c.toNat = 95))) ?_ t.length _ ⟨0, _, by simp, rfl, by simp, by simp, by simp⟩
 rintro k σ ⟨i, r, hik, rfl, r0, r3, hall⟩
 cases k with
 | zero =>
  have hi : i = t.length := by omega
  subst hi
  have hok : aF t := ⟨by omega, by omega, fun j c hc => hall j (List.getElem?_eq_some_iff.1 hc).1 c hc⟩
  simp [r0, r3, hok]
 | succ k =>
  have hi : i < t.length := by omega
  obtain ⟨c, hc⟩ : ∃ c, t[i]? = some c := ⟨t[i], by simp [hi]⟩
  have hc' : t[i] = c := (List.getElem?_eq_some_iff.1 hc).2
  have hw : IntKind.i64.wrap ((i : Int) + 1) = ((i : Int) + 1) := wrap_i64 (by omega) (by omega)
  have hgo : mZ c ∨ (0 < i ∧ (mV c ∨ c.toNat = 95)) → ∃ k', k' < k + 1 ∧ ∃ i', i' + k' = t.length ∧ (i : Int) + 1 = i' ∧ ∀ j, j < i' → ∀ c, t[j]? = some c → mZ c ∨ (0 < j ∧ (mV c ∨ c.toNat = 95)) := fun h =>
   ⟨k, by omega, i + 1, by omega, by omega, lY (P := fun j c => mZ c ∨ (0 < j ∧ (mV c ∨ c.toNat = 95))) hall hc h⟩
  by_cases h1 : mZ c
  ·have h1a : (c.toNat : Int) ≥ 97 := by have := h1.1; omega
   have h1b : (c.toNat : Int) ≤ 122 := by have := h1.2; omega
   simp [r0, r3, hi, hc', h1a, h1b, hw]
   exact hgo (.inl h1)
  have hl : (¬ (c.toNat : Int) ≥ 97) ∨ ((c.toNat : Int) ≥ 97 ∧ ¬ (c.toNat : Int) ≤ 122) := by unfold mZ at h1; omega
  have hno : ¬ (0 < i ∧ (mV c ∨ c.toNat = 95)) → ¬ aF t := fun h hk => (hk.2.2 i c hc).elim h1 h
  by_cases h2 : i = 0
  ·have hno := hno (by omega)
   subst h2
   rcases hl with hl | ⟨hl, hl2⟩
   ·simp [r0, r3, hi, hc', hl, hno]
   ·simp [r0, r3, hi, hc', hl, hl2, hno]
  have h2' : ¬ (i : Int) = 0 := by omega
  by_cases h3 : mV c
  ·have h3a : (c.toNat : Int) ≥ 48 := by have := h3.1; omega
   have h3b : (c.toNat : Int) ≤ 57 := by have := h3.2; omega
   have h3c : ¬ (c.toNat : Int) ≥ 97 := by omega
   simp [r0, r3, hi, hc', h2, h3a, h3b, h3c, hw]
   exact hgo (.inr ⟨by omega, .inl h3⟩)
  have hd : (¬ (c.toNat : Int) ≥ 48) ∨ ((c.toNat : Int) ≥ 48 ∧ ¬ (c.toNat : Int) ≤ 57) := by unfold mV at h3; omega
  by_cases h4 : c.toNat = 95
  ·have := hgo (.inr ⟨by omega, .inr h4⟩)
   simp [r0, r3, hi, hc', h2, h4, hw]
   exact this
  ·have h4' : ¬ (c.toNat : Int) = 95 := by omega
   have hno := hno (fun h => h.2.elim h3 h4)
   rcases hl with hl | ⟨hl, hl2⟩ <;> rcases hd with hd | ⟨hd, hd2⟩
   ·simp [r0, r3, hi, hc', h2, h4', hl, hd, hno]
   ·simp [r0, r3, hi, hc', h2, h4', hl, hd, hd2, hno]
   ·simp [r0, r3, hi, hc', h2, h4', hl, hl2, hd, hno]
   ·simp [r0, r3, hi, hc', h2, h4', hl, hl2, hd, hd2, hno]
def setB (l : Str) : List V := (List.range 256).map fun i => V.bool (l.any fun c => c.toNat == i)
theorem dI {l : Str} : (setB l).length = 256 := by simp [setB]
theorem nX {l : Str} {i : Nat} (h : i < 256) : (setB l)[i]? = some (.bool (l.any fun c => c.toNat == i)) := by
 unfold setB
 rw [List.getElem?_map, List.getElem?_range h]
 rfl
theorem FV {l : Str} {c : UInt8} : (setB l)[c.toNat]? = some (.bool (decide (c ∈ l))) := by
 rw [nX c.toNat_lt]
 congr 2
 rw [Bool.eq_iff_iff]
 simp only [List.any_eq_true, decide_eq_true_eq, beq_iff_eq]
 constructor
 ·rintro ⟨d, hd, he⟩
  rw [← UInt8.toNat_inj.1 he]
  exact hd
 ·intro h
  exact ⟨c, h, rfl⟩
theorem Ha : setB [] = List.replicate 256 (.bool false) := by
 apply List.ext_getElem?
 intro i
 by_cases h : i < 256
 ·rw [nX h, List.getElem?_replicate, if_pos h]
  rfl
 ·rw [List.getElem?_eq_none (by rw [dI]; omega), List.getElem?_eq_none (by rw [List.length_replicate]; omega)]
theorem setOf_snoc {l : Str} {c : UInt8} : (setB l).set c.toNat (.bool true) = setB (l ++ [c]) := by
 apply List.ext_getElem?
 intro i
 have hc := c.toNat_lt
 by_cases h : i < 256
 ·rw [nX h]
  by_cases hi : i = c.toNat
  ·subst hi
   rw [List.getElem?_set_self (by rw [dI]; omega)]
   simp
  ·rw [List.getElem?_set_ne (by omega), nX h]
   congr 2
   have : (c.toNat == i) = false := by simp; omega
   simp [this]
 ·rw [List.getElem?_eq_none (by simp [dI]; omega), List.getElem?_eq_none (by rw [dI]; omega)]
theorem OH {t : Str} {H : List Ob} (ht : ∀ c ∈ t, c.toNat < 128) (hl : t.length ≤ 1000) : callW C 255 [.str t] H = some (.tup [.agg (setB t), .bool true], H) := by
 apply Ret.eq
 rw [Pq]
 simp [EQ, Tryz.f255, -List.reduceReplicate]
 refine aH (fun k σ => ∃ (i : Nat) (r : Nat → R), i + k = t.length ∧ σ = ⟨r, 1, H⟩ ∧ r 0 = .val (.str t) ∧ r 2 = .box 0 (setB (t.take i)) ∧ r 4 = .val (.int .i64 i)) ?_ t.length _ ⟨0, _, by simp, rfl, by simp, by simp [Ha, -List.reduceReplicate], by simp⟩
 rintro k σ ⟨i, r, hik, rfl, r0, r2, r4⟩
 cases k with
 | zero =>
  have hi : i = t.length := by omega
  subst hi
  rw [List.take_length] at r2
  have htk : (setB t).take 256 = setB t := List.take_of_length_le (by rw [dI]; omega)
  have hdr : (setB t).drop 256 = [] := List.drop_of_length_le (by rw [dI]; omega)
  have hall : ∀ x ∈ setB t, aI x = true := fun x hx => by
   simp only [setB, List.mem_map] at hx
   obtain ⟨_, _, rfl⟩ := hx
   rfl
  simp [r0, r2, r4, dI, htk, hdr, if_pos hall, -List.reduceReplicate]
 | succ k =>
  have hi : i < t.length := by omega
  obtain ⟨c, hc⟩ : ∃ c, t[i]? = some c := ⟨t[i], by simp [hi]⟩
  have hc' : t[i] = c := (List.getElem?_eq_some_iff.1 hc).2
  have hw : IntKind.i64.wrap ((i : Int) + 1) = ((i : Int) + 1) := wrap_i64 (by omega) (by omega)
  have h128 : c.toNat < 128 := ht c (List.mem_of_getElem? hc)
  have h1 : ¬ (c.toNat : Int) ≥ 128 := by omega
  have h2 : (c.toNat : Int) < 256 := by omega
  have h3 : c.toNat < 256 := by omega
  have hs : setRange (setB (t.take i)) c.toNat [.bool true] = setB (t.take (i + 1)) := by rw [pM (by rw [dI]; omega), setOf_snoc, fA hc]
  have h4 : c.toNat + 1 ≤ 256 := by omega
  simp [r0, r2, r4, hi, hc', h1, h2, h3, h4, hw, dI, hs, dQ, -setRange, -List.reduceReplicate]
  exact ⟨k, by omega, i + 1, by omega, rfl, by omega⟩
theorem Hw {l : Str} {H : List Ob} {id : Nat} {own : Bool} {c : UInt8} (h : H[id]? = some (.mk own 1 (setB l))) : callW C 296 [.ptr (some (id, 0)), .int .u8 c.toNat] H = some (.bool (decide (c ∈ l)), H) := by
 apply Ret.eq
 rw [N7]
 have h2 : (c.toNat : Int) < 256 := by have := c.toNat_lt; omega
 have ld := dF (o := c.toNat) h FV
 simp [EO, Tryz.f296, dQ, h2, ld, -List.reduceReplicate]
def kset : Str := [97, 98, 99, 100, 101, 102, 103, 104, 105, 106, 107, 108, 109, 110, 111, 112, 113, 114, 115, 116, 117, 118, 119, 120, 121, 122, 48, 49, 50, 51, 52, 53, 54, 55, 56, 57, 95]
theorem uC {c : UInt8} : c ∈ kset ↔ mZ c ∨ mV c ∨ c.toNat = 95 := by
 unfold kset mZ mV
 simp only [List.mem_cons, List.not_mem_nil, or_false, ← UInt8.toNat_inj]
 have h := c.toNat_lt
 simp only [UInt8.toNat_ofNat, Nat.reducePow, Nat.reduceMod]
 omega
def kH (t : Str) : Prop := ∀ c ∈ t, c ∈ kset
theorem NR {t : Str} {H : List Ob} {id : Nat} {own : Bool} (h : H[id]? = some (.mk own 1 (setB kset))) (hl : t.length ≤ 1000) : ∃ s, callW C 257 [.str t, .ptr (some (id, 0))] H = some (.str s, H) ∧ (kH s ↔ kH t) ∧ (s = [] ∨ ¬ kH s) ∧ s.length ≤ 1000 := by
 suffices hs : Ret C 257 [.str t, .ptr (some (id, 0))] H fun q H' => (∃ s, q = .str s ∧ (kH s ↔ kH t) ∧ (s = [] ∨ ¬ kH s) ∧ s.length ≤ 1000) ∧ H' = H by
  obtain ⟨q, H', hc, ⟨s, rfl, hr⟩, rfl⟩ := hs
  exact ⟨s, hc, hr⟩
 rw [NJ]
 simp [Ey, Tryz.f257, -List.reduceReplicate]
 refine aH (fun k σ => ∃ (s : Str) (r : Nat → R), s.length = k ∧ σ = ⟨r, 0, H⟩ ∧ r 0 = .val (.str s) ∧ r 1 = .val (.ptr (some (id, 0))) ∧ (kH s ↔ kH t) ∧ s.length ≤ 1000) ?_ t.length _ ⟨t, _, rfl, rfl, by simp, by simp, Iff.rfl, hl⟩
 rintro k σ ⟨s, r, hk, rfl, r0, r1, hall, hs⟩
 cases k with
 | zero =>
  have hs0 : s = [] := List.length_eq_zero_iff.1 hk
  subst hs0
  simp [r0, r1]
  exact hall
 | succ k =>
  have hp : (0 : Int) < (s.length : Int) := by omega
  have hne : s ≠ [] := by rintro rfl; simp at hk
  obtain ⟨d, hd⟩ : ∃ d, s.getLast hne = d := ⟨_, rfl⟩
  have hd' : s[s.length - 1]? = some d := by rw [← List.getLast?_eq_getElem?, List.getLast?_eq_some_getLast hne, hd]
  have hd2 : s[s.length - 1]'(by omega) = d := (List.getElem?_eq_some_iff.1 hd').2
  have hw1 : IntKind.i64.wrap ((s.length : Int) - 1) = (s.length : Int) - 1 := wrap_i64 (by omega) (by omega)
  have h3 : (1 : Int) ≤ (s.length : Int) := by omega
  have h4 : ((s.length : Int) - 1).toNat = s.length - 1 := by omega
  have h5 : s.length - 1 < s.length := by omega
  have c1 := Hw (c := d) h
  have hdrop : s = s.take (s.length - 1) ++ [d] := by
   have := fA hd'
   rw [show s.length - 1 + 1 = s.length by omega, List.take_length] at this
   exact this
  by_cases hm : d ∈ kset
  ·have h6 : s.length - 1 ≤ s.length := by omega
   simp [r0, r1, hp, hne, hw1, h3, h4, h5, h6, hd2, hd', c1, hm, -List.reduceReplicate]
   refine ⟨by omega, k, by omega, _, by simp; omega, rfl, ?_, by simp; omega⟩
   rw [← hall]
   constructor
   ·intro hA c hc
    rw [hdrop] at hc
    rcases List.mem_append.1 hc with hc | hc
    ·exact hA c hc
    ·simp at hc; rw [hc]; exact hm
   ·intro hA c hc
    exact hA c (List.mem_of_mem_take hc)
  ·have hn : ¬ kH s := fun hA => hm (hA d (List.mem_of_getElem? hd'))
   simp [r0, r1, hp, hne, hw1, h3, h4, h5, hd2, hd', c1, hm, -List.reduceReplicate]
   exact ⟨by omega, hall, hn, hs⟩
theorem Oc {t : Str} {H : List Ob} {id : Nat} {own : Bool} (h : H[id]? = some (.mk own 1 (setB kset))) (hl : t.length ≤ 1000) : ∃ s, callW C 256 [.str t, .ptr (some (id, 0))] H = some (.str s, H) ∧ (kH s ↔ kH t) ∧ (s = [] ∨ ¬ kH s) := by
 suffices hs : Ret C 256 [.str t, .ptr (some (id, 0))] H fun q H' => (∃ s, q = .str s ∧ (kH s ↔ kH t) ∧ (s = [] ∨ ¬ kH s)) ∧ H' = H by
  obtain ⟨q, H', hc, ⟨s, rfl, hr⟩, rfl⟩ := hs
  exact ⟨s, hc, hr⟩
 rw [O9]
 simp [ET, Tryz.f256, -List.reduceReplicate]
 refine aH (fun k σ => ∃ (s : Str) (r : Nat → R), s.length = k ∧ σ = ⟨r, 0, H⟩ ∧ r 0 = .val (.str s) ∧ r 1 = .val (.ptr (some (id, 0))) ∧ (kH s ↔ kH t)) ?_ t.length _ ⟨t, _, rfl, rfl, by simp, by simp, Iff.rfl⟩
 rintro k σ ⟨s, r, hk, rfl, r0, r1, hall⟩
 cases k with
 | zero =>
  have hs0 : s = [] := List.length_eq_zero_iff.1 hk
  subst hs0
  simp [r0, r1]
  exact hall
 | succ k =>
  match s, hk with
  | d :: s, hk =>
  have hk' : s.length = k := by simpa using hk
  have c1 := Hw (c := d) h
  have hp : (0 : Int) < (s.length : Int) + 1 := by omega
  by_cases hm : d ∈ kset
  ·simp [r0, r1, hp, c1, hm, -List.reduceReplicate]
   refine ⟨k, by omega, s, hk', rfl, ?_⟩
   rw [← hall]
   constructor
   ·intro hA c hc
    rcases List.mem_cons.1 hc with rfl | hc
    ·exact hm
    ·exact hA c hc
   ·intro hA c hc
    exact hA c (List.mem_cons_of_mem _ hc)
  ·have hn : ¬ kH (d :: s) := fun hA => hm (hA d List.mem_cons_self)
   simp [r0, r1, hp, c1, hm, -List.reduceReplicate]
   exact ⟨hall, hn⟩
theorem qB {c : UInt8} (h1 : 65 ≤ c.toNat) (h2 : c.toNat ≤ 90) : IntKind.u8.wrap ((c.toNat : Int) + 32) = ((gW c).toNat : Int) := by
 have : gW c = c + 32 := by unfold gW; rw [if_pos ⟨h1, h2⟩]
 rw [this]
 unfold IntKind.wrap
 simp [IntKind.bits, IntKind.signed, UInt8.toNat_add]
theorem lN {c : UInt8} (h1 : 65 ≤ c.toNat) (h2 : c.toNat ≤ 90) : (gW c).toNat = c.toNat + 32 := by
 have : gW c = c + 32 := by unfold gW; rw [if_pos ⟨h1, h2⟩]
 rw [this, UInt8.toNat_add]
 have : c.toNat + 32 < 256 := by omega
 simp
 omega
theorem qy {c : UInt8} (h : ¬ (65 ≤ c.toNat ∧ c.toNat ≤ 90)) : gW c = c := by unfold gW; rw [if_neg h]
theorem kz {c : UInt8} : c = 32 ↔ c.toNat = 32 := ⟨fun h => by rw [h]; rfl, fun h => UInt8.toNat_inj.1 h⟩
theorem jT {t : Str} {i : Nat} {c : UInt8} (h : t[i]? = some c) (f : Str → UInt8 → Str) (b : Str) : (t.take (i + 1)).foldl f b = f ((t.take i).foldl f b) c := by
 rw [fA h, List.foldl_append]
 rfl
theorem bZ {b : Str} {d : UInt8} (h : b.getLast? = some d) : kX b = true ↔ d = 32 := by
 unfold kX
 rw [h]
 simp
theorem jc {b : Str} (h : b ≠ []) : ∃ d, b.getLast? = some d := ⟨b.getLast h, List.getLast?_eq_some_getLast h⟩
theorem iY {t : Str} {H : List Ob} : callW C 187 [.str t] H = some (.str (norm t), H) := by
 apply Ret.eq
 rw [Jn]
 by_cases g1 : (t.length : Int) > 100
 ·have : norm t = [] := by unfold norm; rw [if_neg (by omega)]
  simp [jJ, Tryz.f187, g1, this]
 have hp := yR (t := t) (H := H) (by omega)
 by_cases g2 : Plain t
 rotate_left
 ·rw [ai g2] at hp
  have : norm t = [] := by unfold norm; rw [ai g2]; simp
  simp [jJ, Tryz.f187, g1, hp, this]
 rw [au g2] at hp
 have hn : norm t = kF (t.foldl aN []) := by unfold norm; rw [if_pos ⟨by omega, au g2⟩]
 have hbz : ∀ i, ((t.take i).foldl aN []).length ≤ 100 := fun i => by
  have := jR (t.take i) []
  simp at this
  omega
 simp [jJ, Tryz.f187, g1, hp, aB, ay, ak, St.new]
 refine aH (fun k σ => ∃ (i : Nat) (r : Nat → R) (G : List Ob) (v : V), i + k = t.length ∧ σ = ⟨r, 0, G⟩ ∧ r 0 = .val (.str t) ∧ r 3 = .val v ∧ r 4 = .val (.int .i64 i) ∧ Bs H G v ((t.take i).foldl aN [])) ?_ t.length _ ⟨0, _, _, _, by simp, rfl, by simp, by simp, by simp, Bs.init⟩
 rintro k σ ⟨i, r, G, v, hik, rfl, r0, r3, r4, hB⟩
 have hbl := hbz i
 generalize hb : (t.take i).foldl aN [] = b at hB hbl
 have hw1 : IntKind.i64.wrap ((b.length : Int) - 1) = (b.length : Int) - 1 := wrap_i64 (by omega) (by omega)
 cases k with
 | zero =>
  have hi : i = t.length := by omega
  subst hi
  rw [List.take_length] at hb
  rw [hb] at hn
  obtain ⟨TT, rfl⟩ := hB.ext
  by_cases hb0 : b = []
  ·subst hb0
   obtain ⟨id, rfl, hst, hsl⟩ := hB.cut (n := 0) (Nat.le_refl _)
   simp [r0, r3, r4, hsl, isByte, iK, hn, kF, kX]
  ·obtain ⟨d, hd⟩ := jc hb0
   have hb1 : 0 < b.length := List.length_pos_iff.2 hb0
   have hb2 : 0 < (b.length : Int) := by omega
   have hb3 : (1 : Int) ≤ (b.length : Int) := by omega
   have hb5 : (b.length : Int) - 1 < (b.length : Int) := by omega
   have hb4 : ((b.length : Int) - 1).toNat = b.length - 1 := by omega
   obtain ⟨id, rfl, hld⟩ := hB.last hd
   by_cases hd32 : d = 32
   ·obtain ⟨_, hv, hst, hsl⟩ := hB.cut (n := b.length - 1) (by omega)
    cases hv
    have he : kF b = b.take (b.length - 1) := by unfold kF; rw [if_pos ((bZ hd).2 hd32), List.dropLast_eq_take]
    have hd' : (d.toNat : Int) = 32 := by rw [hd32]; rfl
    simp [r0, r3, r4, hb0, hb1, hb2, hb3, hb4, hb5, hw1, hld, hd', hst, hsl, isByte, iK, hn, he]
   ·obtain ⟨_, hv, hst, hsl⟩ := hB.cut (n := b.length) (Nat.le_refl _)
    cases hv
    have he : kF b = b := by unfold kF; rw [if_neg (fun h => hd32 ((bZ hd).1 h))]
    have hd' : ¬ (d.toNat : Int) = 32 := by have := mt kz.2 hd32; omega
    rw [List.take_length] at hsl
    simp [r0, r3, r4, hb0, hb1, hb2, hb3, hb4, hb5, hw1, hld, hd', hst, hsl, isByte, iK, hn, he]
 | succ k =>
  have hi : i < t.length := by omega
  obtain ⟨c, hc⟩ : ∃ c, t[i]? = some c := ⟨t[i], by simp [hi]⟩
  have hc' : t[i] = c := (List.getElem?_eq_some_iff.1 hc).2
  have hw : IntKind.i64.wrap ((i : Int) + 1) = ((i : Int) + 1) := wrap_i64 (by omega) (by omega)
  have hfs := jT hc aN []
  rw [hb] at hfs
  have hgo : ∀ G' v', Bs H G' v' (aN b c) → ∃ k', k' < k + 1 ∧ ∃ i', i' + k' = t.length ∧ (i : Int) + 1 = i' ∧ Bs H G' v' ((t.take i').foldl aN []) := fun G' v' h =>
   ⟨k, by omega, i + 1, by omega, by omega, by rw [hfs]; exact h⟩
  by_cases hup : 65 ≤ c.toNat ∧ c.toNat ≤ 90
  ·have hu1 : (c.toNat : Int) ≥ 65 := by omega
   have hu2 : (c.toNat : Int) ≤ 90 := by omega
   have hlw := qB hup.1 hup.2
   have hl32 : ¬ ((gW c).toNat : Int) = 32 := by rw [lN hup.1 hup.2]; omega
   have hns : aN b c = b ++ [gW c] := by unfold aN; rw [if_neg (fun h => hl32 (by rw [kz.1 h.1]; rfl))]
   obtain ⟨v', G', ha, hB'⟩ := hB.push (by omega) (c := gW c) (d := .int .u8) (z := [.int .u8 0]) rfl
   rw [← hns] at hB'
   simp [r0, r3, r4, hi, hc', hu1, hu2, hlw, hl32, aB, ay, ak, St.new, eu, ha, hw]
   obtain ⟨k', q1, i', q2, q3, q4⟩ := hgo G' v' hB'
   exact ⟨k', q1, i', q2, _, _, ⟨rfl, rfl⟩, by simp [r0], _, by simp [r3], by simp [q3], q4⟩
  have hlc := qy hup
  have hu : (¬ (c.toNat : Int) ≥ 65) ∨ ((c.toNat : Int) ≥ 65 ∧ ¬ (c.toNat : Int) ≤ 90) := by omega
  by_cases h32 : c = 32
  ·have h32' : (c.toNat : Int) = 32 := by rw [h32]; rfl
   have hu1 : ¬ (c.toNat : Int) ≥ 65 := by omega
   by_cases hb0 : b = []
   ·have hns : aN b c = b := by unfold aN; rw [if_pos ⟨by rw [hlc, h32], .inl hb0⟩]
    rw [hns] at hgo
    have hbl0 : b.length = 0 := by rw [hb0]; rfl
    have := hgo G v hB
    simp [r0, r3, r4, hi, hc', h32', hB.len, hbl0, hw]
    obtain ⟨k', q1, i', q2, q3, q4⟩ := this
    exact ⟨k', q1, i', q2, _, _, ⟨rfl, rfl⟩, by simp [r0], _, by simp [r3], by simp [q3], q4⟩
   ·obtain ⟨d, hd⟩ := jc hb0
    have hb1 : 0 < b.length := List.length_pos_iff.2 hb0
    have hb3 : (1 : Int) ≤ (b.length : Int) := by omega
    have hb5 : (b.length : Int) - 1 < (b.length : Int) := by omega
    have hb4 : ((b.length : Int) - 1).toNat = b.length - 1 := by omega
    obtain ⟨id, hv, hld⟩ := hB.last hd
    have hB0 := hB
    subst hv
    by_cases hd32 : d = 32
    ·have hns : aN b c = b := by unfold aN; rw [if_pos ⟨by rw [hlc, h32], .inr ((bZ hd).2 hd32)⟩]
     rw [hns] at hgo
     have hd' : (d.toNat : Int) = 32 := by rw [hd32]; rfl
     have := hgo G _ hB
     simp [r0, r3, r4, hi, hc', h32', hb0, hb1, hb3, hb4, hb5, hw1, hld, hd', hw]
     obtain ⟨k', q1, i', q2, q3, q4⟩ := this
     exact ⟨k', q1, i', q2, _, _, ⟨rfl, rfl⟩, by simp [r0], _, by simp [r3], by simp [q3], q4⟩
    ·have hns : aN b c = b ++ [c] := by unfold aN; rw [if_neg (fun h => h.2.elim hb0 (fun h => hd32 ((bZ hd).1 h))), hlc]
     have hd' : ¬ (d.toNat : Int) = 32 := by have := mt kz.2 hd32; omega
     obtain ⟨v', G', ha, hB'⟩ := hB.push (by omega) (c := c) (d := .int .u8) (z := [.int .u8 0]) rfl
     rw [← hns] at hB'
     rw [h32'] at ha
     simp [r0, r3, r4, hi, hc', h32', hb0, hb1, hb3, hb4, hb5, hw1, hld, hd', aB, ay, ak, St.new, eu, ha, hw]
     obtain ⟨k', q1, i', q2, q3, q4⟩ := hgo G' v' hB'
     exact ⟨k', q1, i', q2, _, _, ⟨rfl, rfl⟩, by simp [r0], _, by simp [r3], by simp [q3], q4⟩
  ·have h32' : ¬ (c.toNat : Int) = 32 := by have := mt kz.2 h32; omega
   have hns : aN b c = b ++ [c] := by unfold aN; rw [if_neg (fun h => h32 (hlc ▸ h.1)), hlc]
   obtain ⟨v', G', ha, hB'⟩ := hB.push (by omega) (c := c) (d := .int .u8) (z := [.int .u8 0]) rfl
   rw [← hns] at hB'
   have := hgo G' v' hB'
   rcases hu with hu | ⟨hu, hu2⟩
   ·simp [r0, r3, r4, hi, hc', hu, h32', aB, ay, ak, St.new, eu, ha, hw]
    obtain ⟨k', q1, i', q2, q3, q4⟩ := this
    exact ⟨k', q1, i', q2, _, _, ⟨rfl, rfl⟩, by simp [r0], _, by simp [r3], by simp [q3], q4⟩
   ·simp [r0, r3, r4, hi, hc', hu, hu2, h32', aB, ay, ak, St.new, eu, ha, hw]
    obtain ⟨k', q1, i', q2, q3, q4⟩ := this
    exact ⟨k', q1, i', q2, _, _, ⟨rfl, rfl⟩, by simp [r0], _, by simp [r3], by simp [q3], q4⟩
def dh (s w : Str) : Prop := w.length ≤ s.length ∧ s.drop (s.length - w.length) = w
theorem hasSuffix {s w : Str} {H : List Ob} (hs : s.length ≤ 1000000) (hw : w.length ≤ 1000000) : callW C 270 [.str s, .str w] H = some (.bool (dec (dh s w)), H) := by
 apply Ret.dec
 rw [I7]
 by_cases h1 : (s.length : Int) ≥ w.length
 ·have hw1 : IntKind.i64.wrap ((s.length : Int) - w.length) = (s.length : Int) - w.length := wrap_i64 (by omega) (by omega)
  have h2 : (w.length : Int) ≤ (s.length : Int) := h1
  have h3 : ((s.length : Int) - w.length).toNat = s.length - w.length := by omega
  have h4 : (0 : Int) ≤ (s.length : Int) - w.length := by omega
  have h5 : w.length ≤ s.length := by omega
  by_cases h6 : s.drop (s.length - w.length) = w
  ·have hn : dh s w := ⟨h5, h6⟩
   simp [jE, Tryz.f270, h1, h2, h3, h4, h5, hw1, h6, hn]
  ·have hn : ¬ dh s w := fun h => h6 h.2
   simp [jE, Tryz.f270, h1, h2, h3, h4, h5, hw1, h6, hn]
 ·have hn : ¬ dh s w := fun h => h1 (by have := h.1; omega)
  simp [jE, Tryz.f270, h1, hn]
noncomputable def eQ (s w : Str) : Str := if dec (dh s w) = true then s.take (s.length - w.length) else s
theorem nH {s w : Str} {H : List Ob} (hs : s.length ≤ 1000000) (hw : w.length ≤ 1000000) : callW C 212 [.str s, .str w] H = some (.str (eQ s w), H) := by
 apply Ret.eq
 rw [IK]
 have hc := hasSuffix (H := H) hs hw
 by_cases h : dh s w
 ·rw [au h] at hc
  have h0 := h.1
  have hw1 : IntKind.i64.wrap ((s.length : Int) - w.length) = (s.length : Int) - w.length := wrap_i64 (by omega) (by omega)
  have h2 : (w.length : Int) ≤ (s.length : Int) := by omega
  have h3 : ((s.length : Int) - w.length).toNat = s.length - w.length := by omega
  have ht : eQ s w = s.take (s.length - w.length) := by unfold eQ; rw [au h]; rfl
  simp [mG, Tryz.f212, hc, hw1, h2, h3, ht]
 ·rw [ai h] at hc
  have ht : eQ s w = s := by unfold eQ; rw [ai h]; rfl
  simp [mG, Tryz.f212, hc, ht]
theorem pI {s : Str} : eQ s [32] = kF s := by
 have he : dh s [32] ↔ kX s = true := by
  unfold dh kX
  cases hl : s.getLast? with
  | none =>
   have : s = [] := by simpa using hl
   subst this
   simp
  | some d =>
   have hne : s ≠ [] := by rintro rfl; simp at hl
   have h1 : 1 ≤ s.length := List.length_pos_iff.2 hne
   rw [List.getLast?_eq_getElem?] at hl
   have h2 : s.drop (s.length - 1) = [d] := by
    apply List.ext_getElem?
    intro j
    rw [List.getElem?_drop]
    cases j with
    | zero => simpa using hl
    | succ j => simp; omega
   simp [h1, h2]
 unfold eQ kF
 by_cases h : kX s = true
 ·rw [au (he.2 h), if_pos rfl, if_pos h, List.dropLast_eq_take]
  rfl
 ·rw [ai (mt he.1 h), if_neg (by simp), if_neg h]
theorem Di {s : Str} {H : List Ob} (hs : s.length ≤ 1000000) : callW C 123 [.str s, .str [32]] H = some (.str (kF s), H) := by
 apply Ret.eq
 rw [Ip]
 have hc := nH (H := H) hs (w := [32]) (by simp)
 rw [pI] at hc
 simp [qR, Tryz.f123, hc]
theorem ku {t : Str} {H : List Ob} : callW C 36 [.str t] H = some (.str (norm t), H) := by
 apply Ret.eq
 rw [Nv]
 by_cases g1 : (t.length : Int) > 100
 ·have : norm t = [] := by unfold norm; rw [if_neg (by omega)]
  simp [mQ, Tryz.f36, g1, this]
 have hp := zM (t := t) (H := H) (by omega)
 by_cases g2 : Plain t
 rotate_left
 ·rw [ai g2] at hp
  have : norm t = [] := by unfold norm; rw [ai g2]; simp
  simp [mQ, Tryz.f36, g1, hp, this]
 rw [au g2] at hp
 have hn : norm t = kF (t.foldl aN []) := by unfold norm; rw [if_pos ⟨by omega, au g2⟩]
 have hbz : ∀ i, ((t.take i).foldl aN []).length ≤ 100 := fun i => by
  have := jR (t.take i) []
  simp at this
  omega
 simp [mQ, Tryz.f36, g1, hp, aB, ay, ak, St.new]
 refine aH (fun k σ => ∃ (i : Nat) (r : Nat → R) (G : List Ob) (v : V), i + k = t.length ∧ σ = ⟨r, 0, G⟩ ∧ r 0 = .val (.str t) ∧ r 3 = .val v ∧ r 16 = .val (.int .i64 t.length) ∧ r 17 = .val (.int .i64 i) ∧ Bs H G v ((t.take i).foldl aN [])) ?_ t.length _ ⟨0, _, _, _, by simp, rfl, by simp, by simp, by simp, by simp, Bs.init⟩
 rintro k σ ⟨i, r, G, v, hik, rfl, r0, r3, r16, r17, hB⟩
 have hbl := hbz i
 generalize hb : (t.take i).foldl aN [] = b at hB hbl
 have hw1 : IntKind.i64.wrap ((b.length : Int) - 1) = (b.length : Int) - 1 := wrap_i64 (by omega) (by omega)
 cases k with
 | zero =>
  have hi : i = t.length := by omega
  subst hi
  rw [List.take_length] at hb
  rw [hb] at hn
  obtain ⟨TT, rfl⟩ := hB.ext
  obtain ⟨id, rfl, hst, hsl⟩ := hB.cut (n := b.length) (Nat.le_refl _)
  rw [List.take_length] at hsl
  have hts := Di (s := b) (H := H ++ TT) (by omega)
  simp [r0, r3, r16, r17, hsl, isByte, iK, hn, hts]
 | succ k =>
  have hi : i < t.length := by omega
  obtain ⟨c, hc⟩ : ∃ c, t[i]? = some c := ⟨t[i], by simp [hi]⟩
  have hc' : t[i] = c := (List.getElem?_eq_some_iff.1 hc).2
  have hw : IntKind.i64.wrap ((i : Int) + 1) = ((i : Int) + 1) := wrap_i64 (by omega) (by omega)
  have hfs := jT hc aN []
  rw [hb] at hfs
  have hgo : ∀ G' v', Bs H G' v' (aN b c) → ∃ k', k' < k + 1 ∧ ∃ i', i' + k' = t.length ∧ (i : Int) + 1 = i' ∧ Bs H G' v' ((t.take i').foldl aN []) := fun G' v' h =>
   ⟨k, by omega, i + 1, by omega, by omega, by rw [hfs]; exact h⟩
  by_cases hup : 65 ≤ c.toNat ∧ c.toNat ≤ 90
  ·have hu1 : (c.toNat : Int) ≥ 65 := by omega
   have hu2 : (c.toNat : Int) ≤ 90 := by omega
   have hlw := qB hup.1 hup.2
   have hl32 : ¬ ((gW c).toNat : Int) = 32 := by rw [lN hup.1 hup.2]; omega
   have hns : aN b c = b ++ [gW c] := by unfold aN; rw [if_neg (fun h => hl32 (by rw [kz.1 h.1]; rfl))]
   obtain ⟨v', G', ha, hB'⟩ := hB.push (by omega) (c := gW c) (d := .int .u8) (z := [.int .u8 0]) rfl
   rw [← hns] at hB'
   simp [r0, r3, r16, r17, hi, hc', hu1, hu2, hlw, hl32, aB, ay, ak, St.new, eu, ha, hw]
   obtain ⟨k', q1, i', q2, q3, q4⟩ := hgo G' v' hB'
   exact ⟨k', q1, i', q2, _, _, ⟨rfl, rfl⟩, by simp [r0], _, by simp [r3], by simp [r16], by simp [q3], q4⟩
  have hlc := qy hup
  have hu : (¬ (c.toNat : Int) ≥ 65) ∨ ((c.toNat : Int) ≥ 65 ∧ ¬ (c.toNat : Int) ≤ 90) := by omega
  by_cases h32 : c = 32
  ·have h32' : (c.toNat : Int) = 32 := by rw [h32]; rfl
   have hu1 : ¬ (c.toNat : Int) ≥ 65 := by omega
   by_cases hb0 : b = []
   ·have hns : aN b c = b := by unfold aN; rw [if_pos ⟨by rw [hlc, h32], .inl hb0⟩]
    rw [hns] at hgo
    have hbl0 : b.length = 0 := by rw [hb0]; rfl
    simp [r0, r3, r16, r17, hi, hc', h32', hB.len, hbl0, hw]
    obtain ⟨k', q1, i', q2, q3, q4⟩ := hgo G v hB
    exact ⟨k', q1, i', q2, _, _, ⟨rfl, rfl⟩, by simp [r0], _, by simp [r3], by simp [r16], by simp [q3], q4⟩
   ·obtain ⟨d, hd⟩ := jc hb0
    have hb1 : 0 < b.length := List.length_pos_iff.2 hb0
    have hb3 : (1 : Int) ≤ (b.length : Int) := by omega
    have hb5 : (b.length : Int) - 1 < (b.length : Int) := by omega
    have hb4 : ((b.length : Int) - 1).toNat = b.length - 1 := by omega
    obtain ⟨id, hv, hld⟩ := hB.last hd
    subst hv
    by_cases hd32 : d = 32
    ·have hns : aN b c = b := by unfold aN; rw [if_pos ⟨by rw [hlc, h32], .inr ((bZ hd).2 hd32)⟩]
     rw [hns] at hgo
     have hd' : (d.toNat : Int) = 32 := by rw [hd32]; rfl
     simp [r0, r3, r16, r17, hi, hc', h32', hb0, hb1, hb3, hb4, hb5, hw1, hld, hd', hw]
     obtain ⟨k', q1, i', q2, q3, q4⟩ := hgo G _ hB
     exact ⟨k', q1, i', q2, _, _, ⟨rfl, rfl⟩, by simp [r0], _, by simp [r3], by simp [r16], by simp [q3], q4⟩
    ·have hns : aN b c = b ++ [c] := by unfold aN; rw [if_neg (fun h => h.2.elim hb0 (fun h => hd32 ((bZ hd).1 h))), hlc]
     have hd' : ¬ (d.toNat : Int) = 32 := by have := mt kz.2 hd32; omega
     obtain ⟨v', G', ha, hB'⟩ := hB.push (by omega) (c := c) (d := .int .u8) (z := [.int .u8 0]) rfl
     rw [← hns] at hB'
     rw [h32'] at ha
     simp [r0, r3, r16, r17, hi, hc', h32', hb0, hb1, hb3, hb4, hb5, hw1, hld, hd', aB, ay, ak, St.new, eu, ha, hw]
     obtain ⟨k', q1, i', q2, q3, q4⟩ := hgo G' v' hB'
     exact ⟨k', q1, i', q2, _, _, ⟨rfl, rfl⟩, by simp [r0], _, by simp [r3], by simp [r16], by simp [q3], q4⟩
  ·have h32' : ¬ (c.toNat : Int) = 32 := by have := mt kz.2 h32; omega
   have hns : aN b c = b ++ [c] := by unfold aN; rw [if_neg (fun h => h32 (hlc ▸ h.1)), hlc]
   obtain ⟨v', G', ha, hB'⟩ := hB.push (by omega) (c := c) (d := .int .u8) (z := [.int .u8 0]) rfl
   rw [← hns] at hB'
   obtain ⟨k', q1, i', q2, q3, q4⟩ := hgo G' v' hB'
   rcases hu with hu | ⟨hu, hu2⟩
   ·simp [r0, r3, r16, r17, hi, hc', hu, h32', aB, ay, ak, St.new, eu, ha, hw]
    exact ⟨k', q1, i', q2, _, _, ⟨rfl, rfl⟩, by simp [r0], _, by simp [r3], by simp [r16], by simp [q3], q4⟩
   ·simp [r0, r3, r16, r17, hi, hc', hu, hu2, h32', aB, ay, ak, St.new, eu, ha, hw]
    exact ⟨k', q1, i', q2, _, _, ⟨rfl, rfl⟩, by simp [r0], _, by simp [r3], by simp [r16], by simp [q3], q4⟩
theorem qw {t : Str} {H : List Ob} : callW C 185 [.str t] H = some (.bool (dec (aA t)), H) := by
 apply Ret.dec
 rw [IR]
 have hn := iY (t := t) (H := H)
 by_cases g1 : (t.length : Int) ≥ 1
 ·by_cases g2 : (t.length : Int) ≤ 40
  ·by_cases g3 : norm t = []
   ·have hv : ¬ aA t := fun h => h.2.2 g3
    simp [iQ, Tryz.f185, g1, g2, hn, g3, hv]
   ·have hv : aA t := ⟨by omega, by omega, g3⟩
    simp [iQ, Tryz.f185, g1, g2, hn, g3, hv]
  ·have : ¬ aA t := fun h => by have := h.2.1; omega
   simp [iQ, Tryz.f185, g1, g2, this]
 ·have : ¬ aA t := fun h => by have := h.1; omega
  simp [iQ, Tryz.f185, g1, this]
theorem yE {t : Str} {H : List Ob} : callW C 238 [.str t] H = some (.bool (dec (aA t)), H) := by
 apply Ret.dec
 rw [IU]
 have hn := ku (t := t) (H := H)
 by_cases g1 : (t.length : Int) ≥ 1
 ·by_cases g2 : (t.length : Int) ≤ 40
  ·by_cases g3 : norm t = []
   ·have hv : ¬ aA t := fun h => h.2.2 g3
    simp [iL, Tryz.f238, g1, g2, hn, g3, hv]
   ·have hv : aA t := ⟨by omega, by omega, g3⟩
    simp [iL, Tryz.f238, g1, g2, hn, g3, hv]
  ·have : ¬ aA t := fun h => by have := h.2.1; omega
   simp [iL, Tryz.f238, g1, g2, this]
 ·have : ¬ aA t := fun h => by have := h.1; omega
  simp [iL, Tryz.f238, g1, this]
end Go.Proofs.Try1
end
