/- Part 10 of the proof of a law: the interpreter, its soundness, and what functions of the program compute over it. Conditions: none but those that each theorem names. -/
import Derived.Test.YtamgeahibepfnaaGreatDoorM08
import Derived.Test.YtamgeahibepfnaaGreatDoorM09
import Derived.Test.YtamgeahibepfnaaGreatDoorM05
import Derived.Test.YtamgeahibepfnaaGreatDoorM07
import Derived.Test.YtamgeahibepfnaaGreatDoorM06

set_option linter.all false
set_option maxRecDepth 20000
set_option maxHeartbeats 40000000
section
namespace Go.Lite
open Go
def Le (G G' : List Ob) : Prop := ∃ S, G' = G ++ S
def Up (G G' : List Ob) : Prop := ∀ (q : Nat) o, G[q]? = some o → G'[q]? = some o
section
variable {A B D G G' : List Ob} {sh : Sh} {cs : List V} {u : U} {F : List Nat} {b e : Nat}
theorem Le.refl : Le A A := ⟨[], by simp⟩
theorem Le.app {T : List Ob} : Le A (A ++ T) := ⟨T, rfl⟩
theorem Le.trans (h : Le A B) (k : Le B D) : Le A D := by
 obtain ⟨S, rfl⟩ := h
 obtain ⟨T, rfl⟩ := k
 exact ⟨S ++ T, by rw [List.append_assoc]⟩
theorem Le.len (h : Le A B) : A.length ≤ B.length := by obtain ⟨S, rfl⟩ := h; simp
theorem Le.up (h : Le A B) : Up A B := by obtain ⟨S, rfl⟩ := h; exact aZ
theorem Up.refl : Up A A := fun _ _ h => h
theorem Up.trans (h : Up A B) (k : Up B D) : Up A D := fun q o hq => k q o (h q o hq)
theorem At.Up (h : At A sh cs u) (k : Up A B) : At B sh cs u := At.up k sh h
theorem At.Le (h : At A sh cs u) (k : Le A B) : At B sh cs u := At.up k.up sh h
theorem New.Le (h : New b e A sh cs u) (k : Le A B) : New b e B sh cs u := by obtain ⟨S, rfl⟩ := k; exact h.ext
theorem Up.frame (h : ∀ q, q < A.length → B[q]? = A[q]?) : Up A B := fun q o hq => by
 rw [h q (List.getElem?_eq_some_iff.1 hq).1]; exact hq
theorem jC {v : V} (h : aN v = true) : cellsOf v = some [v] := by cases v <;> first | rfl | simp [aN] at h
theorem dm (h : At A sh cs u) : ∀ x ∈ cs, aN x = true ∧ cellsOf x = some [x] := fun x hx => by
 have := List.all_eq_true.1 (At.ones _ h) x hx
 exact ⟨this, jC this⟩
theorem lX {α : Type} {l : List α} (h : l.length = 1) : ∃ a, l = [a] := by
 match l, h with
 | [a], _ => exact ⟨a, rfl⟩
theorem uM {α : Type} {l : List α} (h : l.length = 2) : ∃ a b, l = [a, b] := by
 match l, h with
 | [a, b], _ => exact ⟨a, b, rfl⟩
theorem list4 {α : Type} {l : List α} (h : l.length = 4) : ∃ a b c d, l = [a, b, c, d] := by
 match l, h with
 | [a, b, c, d], _ => exact ⟨a, b, c, d, rfl⟩
end
mutual
def Sh.fan : Sh → Nat
 | .slice e => e.fan
 | .st fs => Sh.fans fs
 | _ => 1
def Sh.fans : List Sh → Nat
 | [] => 0
 | f :: fs => f.fan + Sh.fans fs
end
theorem N8 {f : Nat} {l : List U} (h : ∀ u ∈ l, dF u ≤ f * (1 + wt u)) : aU l ≤ f * (l.length + kU l) := by
 induction l with
 | nil => simp [aU]
 | cons u us ih =>
  have h1 := h u List.mem_cons_self
  have h2 := ih fun w hw => h w (List.mem_cons_of_mem _ hw)
  have e : f * ((u :: us).length + kU (u :: us)) = f * (1 + wt u) + f * (us.length + kU us) := by
   rw [← Nat.mul_add]
   simp only [List.length_cons, kU]
   congr 1
   omega
  simp only [aU]
  omega
theorem Sl.each {H : List Ob} {n : Nat} {R : List V → U → Prop} {v : V} {l : List U} (h : Sl H n R v l) : ∀ u ∈ l, ∃ cs, R cs u := by
 intro u hu
 rcases h with ⟨_, rfl⟩ | ⟨id, off, own, cells, _, _, _, h4⟩
 ·cases hu
 ·obtain ⟨i, hi, rfl⟩ := List.getElem_of_mem hu
  exact ⟨_, h4 i _ (List.getElem?_eq_getElem hi)⟩
mutual
theorem uo {H : List Ob} : ∀ (sh : Sh) {cs : List V} {u : U}, At H sh cs u → dF u ≤ sh.fan * (1 + wt u)
 | .int k, _, _, h => by obtain ⟨n, _, rfl, _⟩ := rC.1 h; simp [dF, Sh.fan, wt]
 | .bool, _, _, h => by obtain ⟨n, _, rfl⟩ := FO.1 h; simp [dF, Sh.fan, wt]
 | .str, _, _, h => by obtain ⟨n, _, rfl, _⟩ := bP.1 h; simp only [dF, Sh.fan, wt]; omega
 | .slice e, _, _, h => by
  obtain ⟨v, l, _, rfl, _, h4⟩ := ak.1 h
  have := N8 (f := e.fan) (l := l) fun u hu => by
   obtain ⟨cs, hc⟩ := h4.each u hu
   exact uo e hc
  simp only [dF, Sh.fan, wt]
  refine Nat.le_trans this (Nat.mul_le_mul_left _ (by omega))
 | .st fs, _, _, h => by
  obtain ⟨us, rfl, h2⟩ := df.1 h
  have := xO fs h2
  simp only [dF, Sh.fan, wt]
  exact this
theorem xO {H : List Ob} : ∀ (fs : List Sh) {cs : List V} {us : List U}, Ats H fs cs us → aU us ≤ Sh.fans fs * (1 + kU us)
 | [], _, _, h => by obtain ⟨_, rfl⟩ := aV.1 h; simp [aU]
 | f :: fs, _, _, h => by
  obtain ⟨c1, c2, u, us', _, rfl, h3, h4⟩ := ai.1 h
  have h5 := uo f h3
  have h6 := xO fs h4
  simp only [aU, Sh.fans, kU]
  have e1 : f.fan * (1 + wt u) ≤ f.fan * (1 + (wt u + kU us')) := Nat.mul_le_mul_left _ (by omega)
  have e2 : Sh.fans fs * (1 + kU us') ≤ Sh.fans fs * (1 + (wt u + kU us')) := Nat.mul_le_mul_left _ (by omega)
  rw [Nat.add_mul]
  omega
end
mutual
theorem LP : ∀ (u : U), dI u ≤ dF u
 | .int _ => by simp [dI]
 | .bool _ => by simp [dI]
 | .str _ => by simp [dI]
 | .lst l => by rw [ik]; exact Nat.le_refl _
 | .st us => by simp only [dI, dF]; exact Ha us
theorem Ha : ∀ (us : List U), qJ us ≤ aU us
 | [] => by simp [qJ]
 | u :: us => by simp only [qJ, aU]; have h1 := LP u; have h2 := Ha us; omega
end
theorem oL {H : List Ob} {sh : Sh} {cs : List V} {u : U} (h : At H sh cs u) (n : Nat) (hn : sh.fan ≤ n) : dI u ≤ n * (1 + wt u) :=
 Nat.le_trans (Nat.le_trans (LP u) (uo sh h)) (Nat.mul_le_mul_right _ hn)
end Go.Lite
end
section
namespace Go.Proofs.Try1
open Go Go.Lite
section
variable {f k b e : Nat} {sh : Sh} {H : List Ob} {cs ds : List V} {u : U}
theorem toN (hf : xq f sh) (h : At H sh cs u) (hw : wt u ≤ 1048576) : ∃ G cs', callW C f [aG sh cs] H = some (aG sh cs', G) ∧ Le H G ∧ New H.length G.length G sh cs' u := by
 obtain ⟨S, cs', F, c1, a1, n1, g1⟩ := hf H cs u h hw
 exact ⟨_, cs', c1, ⟨S, rfl⟩, F, a1, n1, fun q hq => ⟨g1 q hq, AtF.mem _ a1 q hq⟩⟩
theorem eqN (hf : uH f sh) (h : At H sh cs u) (h' : At H sh ds u) : callW C f [aG sh cs, aG sh ds] H = some (.bool true, H) := by
 obtain ⟨t, ht, c⟩ := hf H cs ds u u h h'
 obtain rfl := ht.2 rfl
 exact c
theorem mkN (hf : Ic f sh) (h : New b e H sh cs u) (hk : k + dI u ≤ 50000000) : ∃ G, callW C f [aG sh cs, .int .i64 k] H = some (.int .i64 ((k + dI u : Nat) : Int), G) ∧ G.length = H.length ∧ (∀ q, q < b ∨ e ≤ q → G[q]? = H[q]?) ∧ New b e G sh cs (mkV u k) := by
 obtain ⟨F, h1, h2, h3⟩ := h
 obtain ⟨G, c, l, fr, a⟩ := hf H cs u F k h1 h2 hk
 exact ⟨G, c, l, fun q hq => fr q fun hm => by have := h3 q hm; omega, F, a, h2, h3⟩
end
theorem jJ {α : Type} {f : α → U} {l : List α} {k : Nat} (h : ∀ x ∈ l, dF (f x) ≤ k) : aU (l.map f) ≤ l.length * k := by
 induction l with
 | nil => simp [aU]
 | cons x l ih =>
  have h1 := h x List.mem_cons_self
  have h2 := ih fun y hy => h y (List.mem_cons_of_mem _ hy)
  simp only [List.map_cons, aU, List.length_cons, Nat.add_mul]
  omega
end Go.Proofs.Try1
end
section
namespace Go.Lite
open Go
def MG (Q : Ex → St → Prop) : Option St → Prop
 | some σ => Q .norm σ
 | none => False
theorem qy {Q : Ex → St → Prop} {σ : St} : MG Q (some σ) ↔ Q .norm σ := Iff.rfl
theorem oV {Q : Ex → St → Prop} : MG Q none ↔ False := Iff.rfl
theorem oU {C : Ctx} {f id : Nat} {ops : Array Oper} {draw : Bool} {σ : St} {Q : Ex → St → Prop} : WP C f (.region id ops draw) σ Q ↔ MG Q (dM C (callW C) f id ops draw σ) := by
 rw [lL]
 cases dM C (callW C) f id ops draw σ with
 | none => simp [MG]
 | some σ1 => exact ⟨fun ⟨_, h, hq⟩ => by cases h; exact hq, fun h => ⟨σ1, rfl, h⟩⟩
def y5 (C : Ctx) (f : Nat) (a b : Code) (σ : St) (Q : Ex → St → Prop) (o : Option V) : Prop := ∃ t, o = some (.bool t) ∧ if t = true then WP C f a σ Q else WP C f b σ Q
theorem vP {C : Ctx} {f : Nat} {c : Operand} {a b : Code} {σ : St} {Q : Ex → St → Prop} : WP C f (.cond c a b) σ Q ↔ y5 C f a b σ Q (ev σ c) := rO
theorem pg {C : Ctx} {f : Nat} {a b : Code} {σ : St} {Q : Ex → St → Prop} : y5 C f a b σ Q (some (.bool true)) ↔ WP C f a σ Q := by simp [y5]
theorem mY {C : Ctx} {f : Nat} {a b : Code} {σ : St} {Q : Ex → St → Prop} : y5 C f a b σ Q (some (.bool false)) ↔ WP C f b σ Q := by simp [y5]
theorem qi {C : Ctx} {f : Nat} {a b : Code} {σ : St} {Q : Ex → St → Prop} {t : Bool} : y5 C f a b σ Q (some (.bool t)) ↔ if t = true then WP C f a σ Q else WP C f b σ Q := by simp [y5]
section
variable {σ : St} {C : Ctx}
end
end Go.Lite
end
section
namespace Go.Proofs.Try1
open Go Go.Lite
theorem BI : Ic 108 (.slice shEntry) := by
 intro H cs u F k h hn hk
 obtain ⟨v, l, rfl, rfl, hlen, hv⟩ := aA.1 h
 have hv := (aA.2 ⟨v, l, rfl, rfl, hlen, hv⟩).at
 obtain ⟨_, _, hx1, hx2, _, hv⟩ := ak.1 hv
 cases hx1; cases hx2
 apply Ret.mark
 rw [aeB]
 simp only [dI] at hk
 have hl64 : l.length ≤ 9223372036854775807 := hlen
 simp [Dt, Tryz.f108, aG, -setRange]
 refine aB (fun m σ => ∃ (i : Nat) (r : Nat → R) (G : List Ob), i + m = l.length ∧ σ = ⟨r, 0, G⟩ ∧ r 0 = .val v ∧ r 1 = .val (.int .i64 ((k + aU (l.take i) : Nat) : Int)) ∧ r 5 = .val (.int .i64 i) ∧ G.length = H.length ∧ (∀ q, q ∉ F → G[q]? = H[q]?) ∧ AtF G (.slice shEntry) [v] (.lst (bM (l.take i) k ++ l.drop i)) F) ?_ l.length _ ⟨0, _, H, by simp, rfl, by simp, by simp [aU], by simp, rfl, fun _ _ => rfl, by simpa [bM] using h⟩
 rintro m σ ⟨i, r, G, him, rfl, r0, r1, r5, g1, g2, g3⟩
 cases m with
 | zero =>
  have hi : i = l.length := by omega
  subst hi
  simp at g3
  simp [r0, r1, r5, hv.len, qj g1, dI, mkV]
  exact ⟨g1, g2, g3⟩
 | succ m =>
  have hi : i < l.length := by omega
  obtain ⟨x, hx⟩ : ∃ x, l[i]? = some x := ⟨l[i], by simp [hi]⟩
  have hx0 : (bM (l.take i) k ++ l.drop i)[i]? = some x := by rw [zJ hi, hx]
  have hmk := Aw (k := k) hx
  have hcnt := fV hx
  have hle := dO (l := l) (i := i + 1)
  have hL : (bM (l.take i) k ++ l.drop i).length = l.length := by simp [dV]; omega
  obtain ⟨L, hLd⟩ : ∃ L, L = bM (l.take i) k ++ l.drop i := ⟨_, rfl⟩
  rw [← hLd] at hx0 hmk hL g3
  clear hLd
  obtain ⟨id, off, cells, K, e0, e1, e2, e3, e4, e5, e6, e7, e8⟩ := AtF.elem g3 hn hx0
  clear e1 e2 e4 e5 e7 e8
  rw [hL] at e0
  subst e0
  generalize List.take (shEntry).size (List.drop (off + i * (shEntry).size) cells) = cc at e3
  replace e3 := dY.1 e3
  obtain ⟨us, rfl, e3⟩ := e3
  replace e3 := aC.1 e3
  obtain ⟨c0, d0, u0, rr0, F0, E0, rfl, rfl, rfl, h0, e3⟩ := e3
  replace e3 := aC.1 e3
  obtain ⟨c1, d1, u1, rr1, F1, E1, rfl, rfl, rfl, h1, e3⟩ := e3
  replace e3 := di.1 e3
  obtain ⟨rfl, rfl, rfl⟩ := e3
  have k0 := h0
  replace h0 := aA.1 h0
  obtain ⟨v0, l0, rfl, rfl, w0, hv0⟩ := h0
  have o0 := (ak.1 (AtF.at _ k0))
  obtain ⟨_, _, x1, x2, _, o0⟩ := o0
  cases x1
  cases x2
  have o0 := o0.one
  have k1 := h1
  replace h1 := aA.1 h1
  obtain ⟨v1, l1, rfl, rfl, w1, hv1⟩ := h1
  have o1 := (ak.1 (AtF.at _ k1))
  obtain ⟨_, _, x1, x2, _, o1⟩ := o1
  cases x1
  cases x2
  have o1 := o1.one
  simp only [dF, iT, jF, Nat.add_zero] at hcnt
  obtain ⟨kk, hkk⟩ : ∃ kk, kk = k + aU (l.take i) := ⟨_, rfl⟩
  rw [← hkk] at r1
  obtain ⟨id0, off0, cells0, w0, K0, ev0, eg0, ei0, ek0, ew0, ea0, en0, es0, er0, et0⟩ := AtF.field [] g3 hn (i := i) (us1 := []) (u := (.lst l0)) (us2 := [(.lst l1)]) hx0 rfl rfl
  simp only [V.slc.injEq, Option.some.injEq, Prod.mk.injEq] at ev0
  obtain ⟨⟨rfl, rfl⟩, _⟩ := ev0
  simp only [shEntry, Sh.size_st, Sh.sizes_cons, Sh.sizes_nil, Sh.size_str, Sh.size_slice, Sh.size_int, Sh.size_bool, List.cons_append, List.nil_append, Nat.reduceAdd, Nat.add_zero] at eg0 ew0 et0 er0
  obtain ⟨G0, q0, ln0, fr0, ma0⟩ := Fp G [w0] _ K0 kk ea0 en0 (by simp only [ik, dF]; omega)
  simp only [aG, List.headD_cons] at q0
  have ld0 := aY eg0 ew0
  have A0 := er0 G0 (.lst (bM l0 kk)) (fun q _ hq => fr0 q hq) ma0
  have ln0 : G0.length = H.length := by rw [ln0]; first | exact g1 | exact ln-1
  have fr0 : ∀ q, q ∉ F → G0[q]? = H[q]? := fun q hq => by rw [fr0 q fun h => hq (es0 q h)]; first | exact g2 q hq | exact fr0 q hq
  obtain ⟨kk0, hkk0⟩ : ∃ n, n = kk + dF (.lst l0) := ⟨_, rfl⟩
  rw [ik, ← hkk0] at q0
  simp only [dF] at hkk0
  have hx0_ : (L.set i (.st [(.lst (bM l0 kk)), (.lst l1)]))[i]? = some (.st [(.lst (bM l0 kk)), (.lst l1)]) := List.getElem?_set_self (by omega)
  obtain ⟨id1, off1, cells1, w1, K1, ev1, eg1, ei1, ek1, ew1, ea1, en1, es1, er1, et1⟩ := AtF.field [(.slice shRdn)] A0 hn (i := i) (us1 := [(.lst (bM l0 kk))]) (u := (.lst l1)) (us2 := []) hx0_ rfl rfl
  simp only [V.slc.injEq, Option.some.injEq, Prod.mk.injEq] at ev1
  obtain ⟨⟨rfl, rfl⟩, _⟩ := ev1
  simp only [shEntry, Sh.size_st, Sh.sizes_cons, Sh.sizes_nil, Sh.size_str, Sh.size_slice, Sh.size_int, Sh.size_bool, List.cons_append, List.nil_append, Nat.reduceAdd, Nat.add_zero] at eg1 ew1 et1 er1
  obtain ⟨G1, q1, ln1, fr1, ma1⟩ := OD G0 [w1] _ K1 kk0 ea1 en1 (by simp only [ik, dF]; omega)
  simp only [aG, List.headD_cons] at q1
  have ld1 := aY eg1 ew1
  have A1 := er1 G1 (.lst (bM l1 kk0)) (fun q _ hq => fr1 q hq) ma1
  have ln1 : G1.length = H.length := by rw [ln1]; first | exact g1 | exact ln0
  have fr1 : ∀ q, q ∉ F → G1[q]? = H[q]? := fun q hq => by rw [fr1 q fun h => hq (es1 q h)]; first | exact g2 q hq | exact fr0 q hq
  obtain ⟨kk1, hkk1⟩ : ∃ n, n = kk0 + dF (.lst l1) := ⟨_, rfl⟩
  rw [ik, ← hkk1] at q1
  simp only [dF] at hkk1
  rw [List.set_set] at A1
  have hx1_ : (L.set i (.st [(.lst (bM l0 kk)), (.lst (bM l1 kk0))]))[i]? = some (.st [(.lst (bM l0 kk)), (.lst (bM l1 kk0))]) := List.getElem?_set_self (by omega)
  have hks : k + aU (l.take (i + 1)) = kk1 := by omega
  rw [show L.set i (.st [(.lst (bM l0 kk)), (.lst (bM l1 kk0))]) = _ from (by simp only [hkk0, hkk1, hkk]; exact hmk)] at A1
  have hw : IntKind.i64.wrap ((i : Int) + 1) = ((i : Int) + 1) := wrap_i64 (by omega) (by omega)
  have hix : i + 1 ≤ l.length := hi
  simp [r0, r1, r5, hi, hw, q0, ld0, q1, ld1, -setRange]
  exact ⟨m, by omega, i + 1, by omega, _, _, ⟨rfl, rfl⟩, by simp [r0], by simp; omega, by simp, ln1, fr1, A1⟩
theorem xR : uj 111 (.slice shEntry) := by
 intro H cs u k h hk
 obtain ⟨v, l', rfl, hu, hlen, hv⟩ := ak.1 h
 obtain ⟨l, rfl, rfl⟩ := qo hu
 apply Ret.eq
 rw [YG]
 simp only [dI] at hk ⊢
 have hl64 : (bM l k).length ≤ 9223372036854775807 := hlen
 rw [dV] at hl64
 have hvl := fun {e s b : Nat} {z : List V} => hv.len (e := e) (s := s) (b := b) (z := z)
 simp only [dV] at hvl
 simp [FH, Tryz.f111, aG]
 refine aB (fun m σ => ∃ (i kk : Nat) (r : Nat → R), i + m = l.length ∧ kk = k + aU (l.take i) ∧ σ = ⟨r, 0, H⟩ ∧ r 0 = .val v ∧ r 1 = .val (.int .i64 kk) ∧ r 5 = .val (.int .i64 i)) ?_ l.length _ ⟨0, k, _, by simp, by simp [aU], rfl, by simp, by simp, by simp⟩
 rintro m σ ⟨i, kk, r, him, hkk, rfl, r0, r1, r5⟩
 cases m with
 | zero =>
  have hi : i = l.length := by omega
  subst hi
  rw [List.take_length] at hkk
  simp [r0, r1, r5, hvl, hkk]
 | succ m =>
  have hi : i < l.length := by omega
  obtain ⟨x, hx⟩ : ∃ x, l[i]? = some x := ⟨l[i], by simp [hi]⟩
  obtain ⟨eid, o, own, cells, e1, e2, e3, e0⟩ := hv.idx (qK hx) (by decide)
  rw [← hkk] at e0
  have hcnt := fV hx
  have hle := dO (l := l) (i := i + 1)
  have hid : eid < H.length := (List.getElem?_eq_some_iff.1 e2).1
  have hw : IntKind.i64.wrap ((i : Int) + 1) = ((i : Int) + 1) := wrap_i64 (by omega) (by omega)
  obtain ⟨us0, hu0, E0⟩ := df.1 e0
  obtain ⟨us0, rfl, rfl⟩ := Ef hu0
  obtain ⟨c0, d0, u0, rr0, hc0, hu, h0, E1⟩ := ai.1 E0
  obtain ⟨u0, us0, rfl, rfl, rfl⟩ := iG hu
  have k0 := h0
  obtain ⟨v0, l0, rfl, hs, _, _⟩ := ak.1 h0
  obtain ⟨m0, rfl, rfl⟩ := rX hs
  obtain ⟨kk1, hkk1⟩ : ∃ n, n = kk + dF (.lst m0) := ⟨_, rfl⟩
  rw [← hkk1] at E1
  obtain ⟨c1, d1, u1, rr1, rfl, hu, h1, E2⟩ := ai.1 E1
  obtain ⟨u1, us0, rfl, rfl, rfl⟩ := iG hu
  have k1 := h1
  obtain ⟨v1, l1, rfl, hs, _, _⟩ := ak.1 h1
  obtain ⟨m1, rfl, rfl⟩ := rX hs
  obtain ⟨kk2, hkk2⟩ : ∃ n, n = kk1 + dF (.lst m1) := ⟨_, rfl⟩
  rw [← hkk2] at E2
  obtain ⟨rfl, hun⟩ := aV.1 E2
  obtain rfl := vN hun
  simp only [List.cons_append, List.nil_append, List.append_nil] at hc0
  simp only [yT, iT, jF, wL, uC, rG, Nat.add_zero] at hcnt hkk1 hkk2
  have ld0 := aY e2 (by simpa using bF hc0 (j := 0) rfl)
  have q0 := NV H [v0] (.lst m0) kk k0 (by rw [ik]; omega)
  rw [ik, ← hkk1] at q0
  simp only [aG, List.headD_cons] at q0
  have p0 : ¬ ((kk1 : Int) < 0) := by omega
  have ld1 := aY e2 (by simpa using bF hc0 (j := 1) rfl)
  have q1 := Jg H [v1] (.lst m1) kk1 k1 (by rw [ik]; omega)
  rw [ik, ← hkk2] at q1
  simp only [aG, List.headD_cons] at q1
  have p1 : ¬ ((kk2 : Int) < 0) := by omega
  rw [show (shEntry).size = 2 from rfl] at e1
  simp [r0, r1, r5, hi, hvl, e1, hid, hw, ld0, q0, p0, ld1, q1, p1]
  exact ⟨m, by omega, i + 1, by omega, by omega, by omega⟩
theorem Me : Ic 40 cu := by
 intro H cs u F k h hn hk
 replace h := dY.1 h
 obtain ⟨us, rfl, h⟩ := h
 replace h := aC.1 h
 obtain ⟨c0, d0, u0, rr0, F0, E0, rfl, rfl, rfl, h0, h⟩ := h
 replace h := aC.1 h
 obtain ⟨c1, d1, u1, rr1, F1, E1, rfl, rfl, rfl, h1, h⟩ := h
 replace h := di.1 h
 obtain ⟨rfl, rfl, rfl⟩ := h
 have k0 := h0
 replace h0 := aA.1 h0
 obtain ⟨v0, l0, rfl, rfl, w0, hv0⟩ := h0
 have o0 := (ak.1 (AtF.at _ k0))
 obtain ⟨_, _, x1, x2, _, o0⟩ := o0
 cases x1
 cases x2
 have o0 := o0.one
 have k1 := h1
 replace h1 := aA.1 h1
 obtain ⟨v1, l1, rfl, rfl, w1, hv1⟩ := h1
 have o1 := (ak.1 (AtF.at _ k1))
 obtain ⟨_, _, x1, x2, _, o1⟩ := o1
 cases x1
 cases x2
 have o1 := o1.one
 simp only [uI, lN, nO, zN, qN, wS, Nat.zero_add] at hk
 simp only [List.nil_append, List.append_nil] at hn
 have hn0 := hn
 obtain ⟨nd0, hn0, dj0⟩ := List.nodup_append.1 hn0
 have nd1 := hn0
 obtain ⟨H0, q0, len0, fr0, k0'⟩ := Ny H _ _ _ (k) k0 nd0 (by omega)
 simp only [aG, List.headD_cons, List.append_nil, List.cons_append, List.nil_append, Int.natCast_add] at q0
 have k1 := AtF.frame _ (H' := H0) (fun q hq2 => fr0 q (fun hq1 => dj0 q hq1 q hq2 rfl)) k1
 obtain ⟨H1, q1, len1, fr1, k1'⟩ := BI H0 _ _ _ (k + dI (.lst l0)) k1 nd1 (by omega)
 simp only [aG, List.headD_cons, List.append_nil, List.cons_append, List.nil_append, Int.natCast_add] at q1
 have k0' := AtF.frame _ (H' := H1) (fun q hq2 => fr1 q (fun hq1 => dj0 q hq2 q hq1 rfl)) k0'
 have hK : k + dI (U.st [(.lst l0), (.lst l1)]) = k + dI (.lst l0) + dI (.lst l1) := by simp only [uI, lN, nO, zN, qN, wS, Nat.zero_add]; omega
 have hA : AtF H1 cu _ _ _ := dY.2 ⟨_, rfl, aC.2 ⟨[_], _, _, _, F0, _, rfl, rfl, rfl, k0', aC.2 ⟨[_], _, _, _, F1, _, rfl, rfl, rfl, k1', di.2 ⟨rfl, rfl, rfl⟩⟩⟩⟩
 simp only [List.append_nil, List.nil_append, List.cons_append] at hA
 have hl : H1.length = H.length := by rw [len1, len0]
 have hfr : ∀ q, q ∉ F0 ++ (F1) → H1[q]? = H[q]? := by
  intro q hq
  try simp only [List.mem_append, not_or] at hq
  rw [fr1 q hq.2, fr0 q hq.1]
 apply Ret.mark
 rw [ajh, hK]
 simp [Jk, Tryz.f40, aG, qj hl, q0, q1, o0, o1]
 exact ⟨hl, by simpa using hfr, hA⟩
theorem NU : uj 110 cu := by
 intro H cs u k h hk
 obtain ⟨us, hu, h⟩ := df.1 h
 obtain ⟨us, rfl, rfl⟩ := OO hu
 obtain ⟨c0, d0, u0, r0, rfl, hu, h0, h⟩ := ai.1 h
 obtain ⟨u0, us, rfl, rfl, rfl⟩ := nR hu
 obtain ⟨c1, d1, u1, r1, rfl, hu, h1, h⟩ := ai.1 h
 obtain ⟨u1, us, rfl, rfl, rfl⟩ := nR hu
 obtain ⟨rfl, hu⟩ := aV.1 h
 obtain rfl := Hf hu
 have k0 := h0
 obtain ⟨v0, l0, rfl, hu, _, hv0⟩ := ak.1 h0
 have o0 := hv0.one
 obtain ⟨m0, rfl, rfl⟩ := qo hu
 have k1 := h1
 obtain ⟨v1, l1, rfl, hu, _, hv1⟩ := ak.1 h1
 have o1 := hv1.one
 obtain ⟨m1, rfl, rfl⟩ := qo hu
 simp only [uI, lN, nO, zN, qN, wS, Nat.zero_add, Nat.add_zero] at *
 have q0 := IP H _ _ (k) k0 (by omega)
 simp only [aG, List.headD_cons, List.append_nil, List.cons_append, List.nil_append, Int.natCast_add] at q0
 have p0 : ¬ (((k + dI (.lst m0) : Nat) : Int) < 0) := by omega
 simp only [Int.natCast_add] at p0
 have q1 := xR H _ _ (k + dI (.lst m0)) k1 (by omega)
 simp only [aG, List.headD_cons, List.append_nil, List.cons_append, List.nil_append, Int.natCast_add] at q1
 have p1 : ¬ (((k + dI (.lst m0) + dI (.lst m1) : Nat) : Int) < 0) := by omega
 simp only [Int.natCast_add] at p1
 have hK : k + (dI (.lst m0) + (dI (.lst m1))) = k + dI (.lst m0) + dI (.lst m1) := by omega
 rw [hK]
 apply Ret.eq
 rw [afi]
 simp [CP, Tryz.f110, aG, q0, p0, q1, p1, o0, o1]
theorem EG {t : Str} {H : List Ob} (ht : t.length ≤ 1000) : callW C 324 [.str t] H = some (.bool (dec (Plain t)), H) := by
 apply Ret.dec
 rw [PP]
 simp [pU, Tryz.f324]
 refine aB (fun k σ => ∃ (i : Nat) (r : Nat → R), i + k = t.length ∧ σ = ⟨r, 0, H⟩ ∧ r 0 = .val (.str t) ∧ r 3 = .val (.int .i64 i) ∧ ∀ j, j < i → ∀ c, t[j]? = some c → kY c) ?_ t.length _ ⟨0, _, by simp, rfl, by simp, by simp, by simp⟩
 rintro k σ ⟨i, r, hik, rfl, r0, r3, hall⟩
 cases k with
 | zero =>
  have hi : i = t.length := by omega
  subst hi
  simp [r0, r3]
  intro j c hc
  exact hall j (List.getElem?_eq_some_iff.1 hc).1 c hc
 | succ k =>
  have hi : i < t.length := by omega
  obtain ⟨c, hc⟩ : ∃ c, t[i]? = some c := ⟨t[i], by simp [hi]⟩
  have hc' : t[i] = c := (List.getElem?_eq_some_iff.1 hc).2
  have hw : IntKind.i64.wrap ((i : Int) + 1) = ((i : Int) + 1) := wrap_i64 (by omega) (by omega)
  by_cases h1 : (c.toNat : Int) < 32
  ·simp [r0, r3, hi, hc', h1]
   intro hp
   have := (hp i c hc).1
   omega
  ·by_cases h2 : (c.toNat : Int) > 126
   ·simp [r0, r3, hi, hc', h1, h2]
    intro hp
    have := (hp i c hc).2
    omega
   ·simp [r0, r3, hi, hc', h1, h2, hw]
    exact ⟨k, by omega, i + 1, by omega, by omega, nS (P := fun _ c => kY c) hall hc ⟨by omega, by omega⟩⟩
theorem DF {t : Str} {H : List Ob} (ht : t.length ≤ 1000) : callW C 289 [.str t] H = some (.bool (dec (Plain t)), H) := by
 apply Ret.dec
 rw [Rf]
 simp [oD, Tryz.f289]
 refine aB (fun k σ => ∃ (i : Nat) (r : Nat → R), i + k = t.length ∧ σ = ⟨r, 0, H⟩ ∧ r 0 = .val (.str t) ∧ r 5 = .val (.int .i64 t.length) ∧ r 6 = .val (.int .i64 i) ∧ ∀ j, j < i → ∀ c, t[j]? = some c → kY c) ?_ t.length _ ⟨0, _, by simp, rfl, by simp, by simp, by simp, by simp⟩
 rintro k σ ⟨i, r, hik, rfl, r0, r5, r6, hall⟩
 cases k with
 | zero =>
  have hi : i = t.length := by omega
  subst hi
  simp [r0, r5, r6]
  intro j c hc
  exact hall j (List.getElem?_eq_some_iff.1 hc).1 c hc
 | succ k =>
  have hi : i < t.length := by omega
  obtain ⟨c, hc⟩ : ∃ c, t[i]? = some c := ⟨t[i], by simp [hi]⟩
  have hc' : t[i] = c := (List.getElem?_eq_some_iff.1 hc).2
  have hw : IntKind.i64.wrap ((i : Int) + 1) = ((i : Int) + 1) := wrap_i64 (by omega) (by omega)
  by_cases h1 : (c.toNat : Int) < 32
  ·simp [r0, r5, r6, hi, hc', h1]
   intro hp
   have := (hp i c hc).1
   omega
  ·by_cases h2 : (c.toNat : Int) > 126
   ·simp [r0, r5, r6, hi, hc', h1, h2]
    intro hp
    have := (hp i c hc).2
    omega
   ·simp [r0, r5, r6, hi, hc', h1, h2, hw]
    exact ⟨k, by omega, i + 1, by omega, by omega, nS (P := fun _ c => kY c) hall hc ⟨by omega, by omega⟩⟩
theorem zD {t : Str} {H : List Ob} : callW C 77 [.str t] H = some (.bool (dec (aX t)), H) := by
 apply Ret.dec
 rw [Vm]
 by_cases g1 : (t.length : Int) < 1
 ·have g2 : ¬ aX t := fun h => by have := h.1; omega
  simp [lY, Tryz.f77, g1, g2]
 by_cases g2 : (t.length : Int) > 20
 ·have g3 : ¬ aX t := fun h => by have := h.2.1; omega
  simp [lY, Tryz.f77, g1, g2, g3]
 simp [lY, Tryz.f77, g1, g2]
 refine aB (fun k σ => ∃ (i : Nat) (r : Nat → R), i + k = t.length ∧ σ = ⟨r, 0, H⟩ ∧ r 0 = .val (.str t) ∧ r 3 = .val (.int .i64 i) ∧ ∀ j, j < i → ∀ c, t[j]? = some c → qP c ∨ (0 < j ∧ (qC c ∨ c.toNat = 95))) ?_ t.length _ ⟨0, _, by simp, rfl, by simp, by simp, by simp⟩
 rintro k σ ⟨i, r, hik, rfl, r0, r3, hall⟩
 cases k with
 | zero =>
  have hi : i = t.length := by omega
  subst hi
  have hok : aX t := ⟨by omega, by omega, fun j c hc => hall j (List.getElem?_eq_some_iff.1 hc).1 c hc⟩
  simp [r0, r3, hok]
 | succ k =>
  have hi : i < t.length := by omega
  obtain ⟨c, hc⟩ : ∃ c, t[i]? = some c := ⟨t[i], by simp [hi]⟩
  have hc' : t[i] = c := (List.getElem?_eq_some_iff.1 hc).2
  have hw : IntKind.i64.wrap ((i : Int) + 1) = ((i : Int) + 1) := wrap_i64 (by omega) (by omega)
  have hgo : qP c ∨ (0 < i ∧ (qC c ∨ c.toNat = 95)) → ∃ k', k' < k + 1 ∧ ∃ i', i' + k' = t.length ∧ (i : Int) + 1 = i' ∧ ∀ j, j < i' → ∀ c, t[j]? = some c → qP c ∨ (0 < j ∧ (qC c ∨ c.toNat = 95)) := fun h =>
   ⟨k, by omega, i + 1, by omega, by omega, nS (P := fun j c => qP c ∨ (0 < j ∧ (qC c ∨ c.toNat = 95))) hall hc h⟩
  by_cases h1 : qP c
  ·have h1a : (c.toNat : Int) ≥ 97 := by have := h1.1; omega
   have h1b : (c.toNat : Int) ≤ 122 := by have := h1.2; omega
   simp [r0, r3, hi, hc', h1a, h1b, hw]
   exact hgo (.inl h1)
  have hl : (¬ (c.toNat : Int) ≥ 97) ∨ ((c.toNat : Int) ≥ 97 ∧ ¬ (c.toNat : Int) ≤ 122) := by unfold qP at h1; omega
  have hno : ¬ (0 < i ∧ (qC c ∨ c.toNat = 95)) → ¬ aX t := fun h hk => (hk.2.2 i c hc).elim h1 h
  by_cases h2 : i = 0
  ·have hno := hno (by omega)
   subst h2
   rcases hl with hl | ⟨hl, hl2⟩
   ·simp [r0, r3, hi, hc', hl, hno]
   ·simp [r0, r3, hi, hc', hl, hl2, hno]
  have h2' : ¬ (i : Int) = 0 := by omega
  by_cases h3 : qC c
  ·have h3a : (c.toNat : Int) ≥ 48 := by have := h3.1; omega
   have h3b : (c.toNat : Int) ≤ 57 := by have := h3.2; omega
   have h3c : ¬ (c.toNat : Int) ≥ 97 := by omega
   simp [r0, r3, hi, hc', h2, h3a, h3b, h3c, hw]
   exact hgo (.inr ⟨by omega, .inl h3⟩)
  have hd : (¬ (c.toNat : Int) ≥ 48) ∨ ((c.toNat : Int) ≥ 48 ∧ ¬ (c.toNat : Int) ≤ 57) := by unfold qC at h3; omega
  by_cases h4 : c.toNat = 95
  ·have := hgo (.inr ⟨by omega, .inr h4⟩)
   simp [r0, r3, hi, hc', h2, h4, hw]
   exact this
  ·have h4' : ¬ (c.toNat : Int) = 95 := by omega
   have hno := hno (fun h => h.2.elim h3 h4)
   rcases hl with hl | ⟨hl, hl2⟩ <;> rcases hd with hd | ⟨hd, hd2⟩
   ·simp [r0, r3, hi, hc', h2, h4', hl, hd, hno]
   ·simp [r0, r3, hi, hc', h2, h4', hl, hd, hd2, hno]
   ·simp [r0, r3, hi, hc', h2, h4', hl, hl2, hd, hno]
   ·simp [r0, r3, hi, hc', h2, h4', hl, hl2, hd, hd2, hno]
def setB (l : Str) : List V := (List.range 256).map fun i => V.bool (l.any fun c => c.toNat == i)
theorem fA {l : Str} : (setB l).length = 256 := by simp [setB]
theorem rJ {l : Str} {i : Nat} (h : i < 256) : (setB l)[i]? = some (.bool (l.any fun c => c.toNat == i)) := by
 unfold setB
 rw [List.getElem?_map, List.getElem?_range h]
 rfl
theorem MK {l : Str} {c : UInt8} : (setB l)[c.toNat]? = some (.bool (decide (c ∈ l))) := by
 rw [rJ c.toNat_lt]
 congr 2
 rw [Bool.eq_iff_iff]
 simp only [List.any_eq_true, decide_eq_true_eq, beq_iff_eq]
 constructor
 ·rintro ⟨d, hd, he⟩
  rw [← UInt8.toNat_inj.1 he]
  exact hd
 ·intro h
  exact ⟨c, h, rfl⟩
theorem MR : setB [] = List.replicate 256 (.bool false) := by
 apply List.ext_getElem?
 intro i
 by_cases h : i < 256
 ·rw [rJ h, List.getElem?_replicate, if_pos h]
  rfl
 ·rw [List.getElem?_eq_none (by rw [fA]; omega), List.getElem?_eq_none (by rw [List.length_replicate]; omega)]
theorem setOf_snoc {l : Str} {c : UInt8} : (setB l).set c.toNat (.bool true) = setB (l ++ [c]) := by
 apply List.ext_getElem?
 intro i
 have hc := c.toNat_lt
 by_cases h : i < 256
 ·rw [rJ h]
  by_cases hi : i = c.toNat
  ·subst hi
   rw [List.getElem?_set_self (by rw [fA]; omega)]
   simp
  ·rw [List.getElem?_set_ne (by omega), rJ h]
   congr 2
   have : (c.toNat == i) = false := by simp; omega
   simp [this]
 ·rw [List.getElem?_eq_none (by simp [fA]; omega), List.getElem?_eq_none (by rw [fA]; omega)]
theorem acn {t : Str} {H : List Ob} (ht : ∀ c ∈ t, c.toNat < 128) (hl : t.length ≤ 1000) : callW C 266 [.str t] H = some (.tup [.agg (setB t), .bool true], H) := by
 apply Ret.eq
 rw [Xa]
 simp [D6, Tryz.f266, -List.reduceReplicate]
 refine aB (fun k σ => ∃ (i : Nat) (r : Nat → R), i + k = t.length ∧ σ = ⟨r, 1, H⟩ ∧ r 0 = .val (.str t) ∧ r 2 = .box 0 (setB (t.take i)) ∧ r 4 = .val (.int .i64 i)) ?_ t.length _ ⟨0, _, by simp, rfl, by simp, by simp [MR, -List.reduceReplicate], by simp⟩
 rintro k σ ⟨i, r, hik, rfl, r0, r2, r4⟩
 cases k with
 | zero =>
  have hi : i = t.length := by omega
  subst hi
  rw [List.take_length] at r2
  have htk : (setB t).take 256 = setB t := List.take_of_length_le (by rw [fA]; omega)
  have hdr : (setB t).drop 256 = [] := List.drop_of_length_le (by rw [fA]; omega)
  have hall : ∀ x ∈ setB t, aN x = true := fun x hx => by
   simp only [setB, List.mem_map] at hx
   obtain ⟨_, _, rfl⟩ := hx
   rfl
  simp [r0, r2, r4, fA, htk, hdr, if_pos hall, -List.reduceReplicate]
 | succ k =>
  have hi : i < t.length := by omega
  obtain ⟨c, hc⟩ : ∃ c, t[i]? = some c := ⟨t[i], by simp [hi]⟩
  have hc' : t[i] = c := (List.getElem?_eq_some_iff.1 hc).2
  have hw : IntKind.i64.wrap ((i : Int) + 1) = ((i : Int) + 1) := wrap_i64 (by omega) (by omega)
  have h128 : c.toNat < 128 := ht c (List.mem_of_getElem? hc)
  have h1 : ¬ (c.toNat : Int) ≥ 128 := by omega
  have h2 : (c.toNat : Int) < 256 := by omega
  have h3 : c.toNat < 256 := by omega
  have hs : setRange (setB (t.take i)) c.toNat [.bool true] = setB (t.take (i + 1)) := by rw [lu (by rw [fA]; omega), setOf_snoc, dh hc]
  have h4 : c.toNat + 1 ≤ 256 := by omega
  simp [r0, r2, r4, hi, hc', h1, h2, h3, h4, hw, fA, hs, gW, -setRange, -List.reduceReplicate]
  exact ⟨k, by omega, i + 1, by omega, rfl, by omega⟩
theorem OJ {l : Str} {H : List Ob} {id : Nat} {own : Bool} {c : UInt8} (h : H[id]? = some (.mk own 1 (setB l))) : callW C 329 [.ptr (some (id, 0)), .int .u8 c.toNat] H = some (.bool (decide (c ∈ l)), H) := by
 apply Ret.eq
 rw [XE]
 have h2 : (c.toNat : Int) < 256 := by have := c.toNat_lt; omega
 have ld := aY (o := c.toNat) h MK
 simp [Fz, Tryz.f329, gW, h2, ld, -List.reduceReplicate]
def kset : Str := [97, 98, 99, 100, 101, 102, 103, 104, 105, 106, 107, 108, 109, 110, 111, 112, 113, 114, 115, 116, 117, 118, 119, 120, 121, 122, 48, 49, 50, 51, 52, 53, 54, 55, 56, 57, 95]
theorem zB {c : UInt8} : c ∈ kset ↔ qP c ∨ qC c ∨ c.toNat = 95 := by
 unfold kset qP qC
 simp only [List.mem_cons, List.not_mem_nil, or_false, ← UInt8.toNat_inj]
 have h := c.toNat_lt
 simp only [UInt8.toNat_ofNat, Nat.reducePow, Nat.reduceMod]
 omega
def mJ (t : Str) : Prop := ∀ c ∈ t, c ∈ kset
theorem aee {t : Str} {H : List Ob} {id : Nat} {own : Bool} (h : H[id]? = some (.mk own 1 (setB kset))) (hl : t.length ≤ 1000) : ∃ s, callW C 268 [.str t, .ptr (some (id, 0))] H = some (.str s, H) ∧ (mJ s ↔ mJ t) ∧ (s = [] ∨ ¬ mJ s) ∧ s.length ≤ 1000 := by
 suffices hs : Ret C 268 [.str t, .ptr (some (id, 0))] H fun q H' => (∃ s, q = .str s ∧ (mJ s ↔ mJ t) ∧ (s = [] ∨ ¬ mJ s) ∧ s.length ≤ 1000) ∧ H' = H by
  obtain ⟨q, H', hc, ⟨s, rfl, hr⟩, rfl⟩ := hs
  exact ⟨s, hc, hr⟩
 rw [Xb]
 simp [Dj, Tryz.f268, -List.reduceReplicate]
 refine aB (fun k σ => ∃ (s : Str) (r : Nat → R), s.length = k ∧ σ = ⟨r, 0, H⟩ ∧ r 0 = .val (.str s) ∧ r 1 = .val (.ptr (some (id, 0))) ∧ (mJ s ↔ mJ t) ∧ s.length ≤ 1000) ?_ t.length _ ⟨t, _, rfl, rfl, by simp, by simp, Iff.rfl, hl⟩
 rintro k σ ⟨s, r, hk, rfl, r0, r1, hall, hs⟩
 cases k with
 | zero =>
  have hs0 : s = [] := List.length_eq_zero_iff.1 hk
  subst hs0
  simp [r0, r1]
  exact hall
 | succ k =>
  have hp : (0 : Int) < (s.length : Int) := by omega
  have hne : s ≠ [] := by rintro rfl; simp at hk
  obtain ⟨d, hd⟩ : ∃ d, s.getLast hne = d := ⟨_, rfl⟩
  have hd' : s[s.length - 1]? = some d := by rw [← List.getLast?_eq_getElem?, List.getLast?_eq_some_getLast hne, hd]
  have hd2 : s[s.length - 1]'(by omega) = d := (List.getElem?_eq_some_iff.1 hd').2
  have hw1 : IntKind.i64.wrap ((s.length : Int) - 1) = (s.length : Int) - 1 := wrap_i64 (by omega) (by omega)
  have h3 : (1 : Int) ≤ (s.length : Int) := by omega
  have h4 : ((s.length : Int) - 1).toNat = s.length - 1 := by omega
  have h5 : s.length - 1 < s.length := by omega
  have c1 := OJ (c := d) h
  have hdrop : s = s.take (s.length - 1) ++ [d] := by
   have := dh hd'
   rw [show s.length - 1 + 1 = s.length by omega, List.take_length] at this
   exact this
  by_cases hm : d ∈ kset
  ·have h6 : s.length - 1 ≤ s.length := by omega
   simp [r0, r1, hp, hne, hw1, h3, h4, h5, h6, hd2, hd', c1, hm, -List.reduceReplicate]
   refine ⟨by omega, k, by omega, _, by simp; omega, rfl, ?_, by simp; omega⟩
   rw [← hall]
   constructor
   ·intro hA c hc
    rw [hdrop] at hc
    rcases List.mem_append.1 hc with hc | hc
    ·exact hA c hc
    ·simp at hc; rw [hc]; exact hm
   ·intro hA c hc
    exact hA c (List.mem_of_mem_take hc)
  ·have hn : ¬ mJ s := fun hA => hm (hA d (List.mem_of_getElem? hd'))
   simp [r0, r1, hp, hne, hw1, h3, h4, h5, hd2, hd', c1, hm, -List.reduceReplicate]
   exact ⟨by omega, hall, hn, hs⟩
theorem acj {t : Str} {H : List Ob} {id : Nat} {own : Bool} (h : H[id]? = some (.mk own 1 (setB kset))) (hl : t.length ≤ 1000) : ∃ s, callW C 267 [.str t, .ptr (some (id, 0))] H = some (.str s, H) ∧ (mJ s ↔ mJ t) ∧ (s = [] ∨ ¬ mJ s) := by
 suffices hs : Ret C 267 [.str t, .ptr (some (id, 0))] H fun q H' => (∃ s, q = .str s ∧ (mJ s ↔ mJ t) ∧ (s = [] ∨ ¬ mJ s)) ∧ H' = H by
  obtain ⟨q, H', hc, ⟨s, rfl, hr⟩, rfl⟩ := hs
  exact ⟨s, hc, hr⟩
 rw [YT]
 simp [DN, Tryz.f267, -List.reduceReplicate]
 refine aB (fun k σ => ∃ (s : Str) (r : Nat → R), s.length = k ∧ σ = ⟨r, 0, H⟩ ∧ r 0 = .val (.str s) ∧ r 1 = .val (.ptr (some (id, 0))) ∧ (mJ s ↔ mJ t)) ?_ t.length _ ⟨t, _, rfl, rfl, by simp, by simp, Iff.rfl⟩
 rintro k σ ⟨s, r, hk, rfl, r0, r1, hall⟩
 cases k with
 | zero =>
  have hs0 : s = [] := List.length_eq_zero_iff.1 hk
  subst hs0
  simp [r0, r1]
  exact hall
 | succ k =>
  match s, hk with
  | d :: s, hk =>
  have hk' : s.length = k := by simpa using hk
  have c1 := OJ (c := d) h
  have hp : (0 : Int) < (s.length : Int) + 1 := by omega
  by_cases hm : d ∈ kset
  ·simp [r0, r1, hp, c1, hm, -List.reduceReplicate]
   refine ⟨k, by omega, s, hk', rfl, ?_⟩
   rw [← hall]
   constructor
   ·intro hA c hc
    rcases List.mem_cons.1 hc with rfl | hc
    ·exact hm
    ·exact hA c hc
   ·intro hA c hc
    exact hA c (List.mem_cons_of_mem _ hc)
  ·have hn : ¬ mJ (d :: s) := fun hA => hm (hA d List.mem_cons_self)
   simp [r0, r1, hp, c1, hm, -List.reduceReplicate]
   exact ⟨hall, hn⟩
theorem vJ {c : UInt8} (h1 : 65 ≤ c.toNat) (h2 : c.toNat ≤ 90) : IntKind.u8.wrap ((c.toNat : Int) + 32) = ((jl c).toNat : Int) := by
 have : jl c = c + 32 := by unfold jl; rw [if_pos ⟨h1, h2⟩]
 rw [this]
 unfold IntKind.wrap
 simp [IntKind.bits, IntKind.signed, UInt8.toNat_add]
theorem oh {c : UInt8} (h1 : 65 ≤ c.toNat) (h2 : c.toNat ≤ 90) : (jl c).toNat = c.toNat + 32 := by
 have : jl c = c + 32 := by unfold jl; rw [if_pos ⟨h1, h2⟩]
 rw [this, UInt8.toNat_add]
 have : c.toNat + 32 < 256 := by omega
 simp
 omega
theorem uU {c : UInt8} (h : ¬ (65 ≤ c.toNat ∧ c.toNat ≤ 90)) : jl c = c := by unfold jl; rw [if_neg h]
theorem lZ {c : UInt8} : c = 32 ↔ c.toNat = 32 := ⟨fun h => by rw [h]; rfl, fun h => UInt8.toNat_inj.1 h⟩
theorem mf {t : Str} {i : Nat} {c : UInt8} (h : t[i]? = some c) (f : Str → UInt8 → Str) (b : Str) : (t.take (i + 1)).foldl f b = f ((t.take i).foldl f b) c := by
 rw [dh h, List.foldl_append]
 rfl
theorem dZ {b : Str} {d : UInt8} (h : b.getLast? = some d) : mX b = true ↔ d = 32 := by
 unfold mX
 rw [h]
 simp
theorem kw {b : Str} (h : b ≠ []) : ∃ d, b.getLast? = some d := ⟨b.getLast h, List.getLast?_eq_some_getLast h⟩
theorem ku {t : Str} {H : List Ob} : callW C 250 [.str t] H = some (.str (norm t), H) := by
 apply Ret.eq
 rw [O3]
 by_cases g1 : (t.length : Int) > 100
 ·have : norm t = [] := by unfold norm; rw [if_neg (by omega)]
  simp [jQ, Tryz.f250, g1, this]
 have hp := EG (t := t) (H := H) (by omega)
 by_cases g2 : Plain t
 rotate_left
 ·rw [au g2] at hp
  have : norm t = [] := by unfold norm; rw [au g2]; simp
  simp [jQ, Tryz.f250, g1, hp, this]
 rw [aj g2] at hp
 have hn : norm t = lW (t.foldl bu []) := by unfold norm; rw [if_pos ⟨by omega, aj g2⟩]
 have hbz : ∀ i, ((t.take i).foldl bu []).length ≤ 100 := fun i => by
  have := lK (t.take i) []
  simp at this
  omega
 simp [jQ, Tryz.f250, g1, hp, aI, aH, ax, St.new]
 refine aB (fun k σ => ∃ (i : Nat) (r : Nat → R) (G : List Ob) (v : V), i + k = t.length ∧ σ = ⟨r, 0, G⟩ ∧ r 0 = .val (.str t) ∧ r 3 = .val v ∧ r 4 = .val (.int .i64 i) ∧ Bs H G v ((t.take i).foldl bu [])) ?_ t.length _ ⟨0, _, _, _, by simp, rfl, by simp, by simp, by simp, Bs.init⟩
 rintro k σ ⟨i, r, G, v, hik, rfl, r0, r3, r4, hB⟩
 have hbl := hbz i
 generalize hb : (t.take i).foldl bu [] = b at hB hbl
 have hw1 : IntKind.i64.wrap ((b.length : Int) - 1) = (b.length : Int) - 1 := wrap_i64 (by omega) (by omega)
 cases k with
 | zero =>
  have hi : i = t.length := by omega
  subst hi
  rw [List.take_length] at hb
  rw [hb] at hn
  obtain ⟨TT, rfl⟩ := hB.ext
  by_cases hb0 : b = []
  ·subst hb0
   obtain ⟨id, rfl, hst, hsl⟩ := hB.cut (n := 0) (Nat.le_refl _)
   simp [r0, r3, r4, hsl, isByte, jU, hn, lW, mX]
  ·obtain ⟨d, hd⟩ := kw hb0
   have hb1 : 0 < b.length := List.length_pos_iff.2 hb0
   have hb2 : 0 < (b.length : Int) := by omega
   have hb3 : (1 : Int) ≤ (b.length : Int) := by omega
   have hb5 : (b.length : Int) - 1 < (b.length : Int) := by omega
   have hb4 : ((b.length : Int) - 1).toNat = b.length - 1 := by omega
   obtain ⟨id, rfl, hld⟩ := hB.last hd
   by_cases hd32 : d = 32
   ·obtain ⟨_, hv, hst, hsl⟩ := hB.cut (n := b.length - 1) (by omega)
    cases hv
    have he : lW b = b.take (b.length - 1) := by unfold lW; rw [if_pos ((dZ hd).2 hd32), List.dropLast_eq_take]
    have hd' : (d.toNat : Int) = 32 := by rw [hd32]; rfl
    simp [r0, r3, r4, hb0, hb1, hb2, hb3, hb4, hb5, hw1, hld, hd', hst, hsl, isByte, jU, hn, he]
   ·obtain ⟨_, hv, hst, hsl⟩ := hB.cut (n := b.length) (Nat.le_refl _)
    cases hv
    have he : lW b = b := by unfold lW; rw [if_neg (fun h => hd32 ((dZ hd).1 h))]
    have hd' : ¬ (d.toNat : Int) = 32 := by have := mt lZ.2 hd32; omega
    rw [List.take_length] at hsl
    simp [r0, r3, r4, hb0, hb1, hb2, hb3, hb4, hb5, hw1, hld, hd', hst, hsl, isByte, jU, hn, he]
 | succ k =>
  have hi : i < t.length := by omega
  obtain ⟨c, hc⟩ : ∃ c, t[i]? = some c := ⟨t[i], by simp [hi]⟩
  have hc' : t[i] = c := (List.getElem?_eq_some_iff.1 hc).2
  have hw : IntKind.i64.wrap ((i : Int) + 1) = ((i : Int) + 1) := wrap_i64 (by omega) (by omega)
  have hfs := mf hc bu []
  rw [hb] at hfs
  have hgo : ∀ G' v', Bs H G' v' (bu b c) → ∃ k', k' < k + 1 ∧ ∃ i', i' + k' = t.length ∧ (i : Int) + 1 = i' ∧ Bs H G' v' ((t.take i').foldl bu []) := fun G' v' h =>
   ⟨k, by omega, i + 1, by omega, by omega, by rw [hfs]; exact h⟩
  by_cases hup : 65 ≤ c.toNat ∧ c.toNat ≤ 90
  ·have hu1 : (c.toNat : Int) ≥ 65 := by omega
   have hu2 : (c.toNat : Int) ≤ 90 := by omega
   have hlw := vJ hup.1 hup.2
   have hl32 : ¬ ((jl c).toNat : Int) = 32 := by rw [oh hup.1 hup.2]; omega
   have hns : bu b c = b ++ [jl c] := by unfold bu; rw [if_neg (fun h => hl32 (by rw [lZ.1 h.1]; rfl))]
   obtain ⟨v', G', ha, hB'⟩ := hB.push (by omega) (c := jl c) (d := .int .u8) (z := [.int .u8 0]) rfl
   rw [← hns] at hB'
   simp [r0, r3, r4, hi, hc', hu1, hu2, hlw, hl32, aI, aH, ax, St.new, gy, ha, hw]
   obtain ⟨k', q1, i', q2, q3, q4⟩ := hgo G' v' hB'
   exact ⟨k', q1, i', q2, _, _, ⟨rfl, rfl⟩, by simp [r0], _, by simp [r3], by simp [q3], q4⟩
  have hlc := uU hup
  have hu : (¬ (c.toNat : Int) ≥ 65) ∨ ((c.toNat : Int) ≥ 65 ∧ ¬ (c.toNat : Int) ≤ 90) := by omega
  by_cases h32 : c = 32
  ·have h32' : (c.toNat : Int) = 32 := by rw [h32]; rfl
   have hu1 : ¬ (c.toNat : Int) ≥ 65 := by omega
   by_cases hb0 : b = []
   ·have hns : bu b c = b := by unfold bu; rw [if_pos ⟨by rw [hlc, h32], .inl hb0⟩]
    rw [hns] at hgo
    have hbl0 : b.length = 0 := by rw [hb0]; rfl
    have := hgo G v hB
    simp [r0, r3, r4, hi, hc', h32', hB.len, hbl0, hw]
    obtain ⟨k', q1, i', q2, q3, q4⟩ := this
    exact ⟨k', q1, i', q2, _, _, ⟨rfl, rfl⟩, by simp [r0], _, by simp [r3], by simp [q3], q4⟩
   ·obtain ⟨d, hd⟩ := kw hb0
    have hb1 : 0 < b.length := List.length_pos_iff.2 hb0
    have hb3 : (1 : Int) ≤ (b.length : Int) := by omega
    have hb5 : (b.length : Int) - 1 < (b.length : Int) := by omega
    have hb4 : ((b.length : Int) - 1).toNat = b.length - 1 := by omega
    obtain ⟨id, hv, hld⟩ := hB.last hd
    have hB0 := hB
    subst hv
    by_cases hd32 : d = 32
    ·have hns : bu b c = b := by unfold bu; rw [if_pos ⟨by rw [hlc, h32], .inr ((dZ hd).2 hd32)⟩]
     rw [hns] at hgo
     have hd' : (d.toNat : Int) = 32 := by rw [hd32]; rfl
     have := hgo G _ hB
     simp [r0, r3, r4, hi, hc', h32', hb0, hb1, hb3, hb4, hb5, hw1, hld, hd', hw]
     obtain ⟨k', q1, i', q2, q3, q4⟩ := this
     exact ⟨k', q1, i', q2, _, _, ⟨rfl, rfl⟩, by simp [r0], _, by simp [r3], by simp [q3], q4⟩
    ·have hns : bu b c = b ++ [c] := by unfold bu; rw [if_neg (fun h => h.2.elim hb0 (fun h => hd32 ((dZ hd).1 h))), hlc]
     have hd' : ¬ (d.toNat : Int) = 32 := by have := mt lZ.2 hd32; omega
     obtain ⟨v', G', ha, hB'⟩ := hB.push (by omega) (c := c) (d := .int .u8) (z := [.int .u8 0]) rfl
     rw [← hns] at hB'
     rw [h32'] at ha
     simp [r0, r3, r4, hi, hc', h32', hb0, hb1, hb3, hb4, hb5, hw1, hld, hd', aI, aH, ax, St.new, gy, ha, hw]
     obtain ⟨k', q1, i', q2, q3, q4⟩ := hgo G' v' hB'
     exact ⟨k', q1, i', q2, _, _, ⟨rfl, rfl⟩, by simp [r0], _, by simp [r3], by simp [q3], q4⟩
  ·have h32' : ¬ (c.toNat : Int) = 32 := by have := mt lZ.2 h32; omega
   have hns : bu b c = b ++ [c] := by unfold bu; rw [if_neg (fun h => h32 (hlc ▸ h.1)), hlc]
   obtain ⟨v', G', ha, hB'⟩ := hB.push (by omega) (c := c) (d := .int .u8) (z := [.int .u8 0]) rfl
   rw [← hns] at hB'
   have := hgo G' v' hB'
   rcases hu with hu | ⟨hu, hu2⟩
   ·simp [r0, r3, r4, hi, hc', hu, h32', aI, aH, ax, St.new, gy, ha, hw]
    obtain ⟨k', q1, i', q2, q3, q4⟩ := this
    exact ⟨k', q1, i', q2, _, _, ⟨rfl, rfl⟩, by simp [r0], _, by simp [r3], by simp [q3], q4⟩
   ·simp [r0, r3, r4, hi, hc', hu, hu2, h32', aI, aH, ax, St.new, gy, ha, hw]
    obtain ⟨k', q1, i', q2, q3, q4⟩ := this
    exact ⟨k', q1, i', q2, _, _, ⟨rfl, rfl⟩, by simp [r0], _, by simp [r3], by simp [q3], q4⟩
def eH (s w : Str) : Prop := w.length ≤ s.length ∧ s.drop (s.length - w.length) = w
theorem hasSuffix {s w : Str} {H : List Ob} (hs : s.length ≤ 1000000) (hw : w.length ≤ 1000000) : callW C 359 [.str s, .str w] H = some (.bool (dec (eH s w)), H) := by
 apply Ret.dec
 rw [Pz]
 by_cases h1 : (s.length : Int) ≥ w.length
 ·have hw1 : IntKind.i64.wrap ((s.length : Int) - w.length) = (s.length : Int) - w.length := wrap_i64 (by omega) (by omega)
  have h2 : (w.length : Int) ≤ (s.length : Int) := h1
  have h3 : ((s.length : Int) - w.length).toNat = s.length - w.length := by omega
  have h4 : (0 : Int) ≤ (s.length : Int) - w.length := by omega
  have h5 : w.length ≤ s.length := by omega
  by_cases h6 : s.drop (s.length - w.length) = w
  ·have hn : eH s w := ⟨h5, h6⟩
   simp [jW, Tryz.f359, h1, h2, h3, h4, h5, hw1, h6, hn]
  ·have hn : ¬ eH s w := fun h => h6 h.2
   simp [jW, Tryz.f359, h1, h2, h3, h4, h5, hw1, h6, hn]
 ·have hn : ¬ eH s w := fun h => h1 (by have := h.1; omega)
  simp [jW, Tryz.f359, h1, hn]
noncomputable def gV (s w : Str) : Str := if dec (eH s w) = true then s.take (s.length - w.length) else s
theorem ru {s w : Str} {H : List Ob} (hs : s.length ≤ 1000000) (hw : w.length ≤ 1000000) : callW C 338 [.str s, .str w] H = some (.str (gV s w), H) := by
 apply Ret.eq
 rw [Rl]
 have hc := hasSuffix (H := H) hs hw
 by_cases h : eH s w
 ·rw [aj h] at hc
  have h0 := h.1
  have hw1 : IntKind.i64.wrap ((s.length : Int) - w.length) = (s.length : Int) - w.length := wrap_i64 (by omega) (by omega)
  have h2 : (w.length : Int) ≤ (s.length : Int) := by omega
  have h3 : ((s.length : Int) - w.length).toNat = s.length - w.length := by omega
  have ht : gV s w = s.take (s.length - w.length) := by unfold gV; rw [aj h]; rfl
  simp [lC, Tryz.f338, hc, hw1, h2, h3, ht]
 ·rw [au h] at hc
  have ht : gV s w = s := by unfold gV; rw [au h]; rfl
  simp [lC, Tryz.f338, hc, ht]
theorem uk {s : Str} : gV s [32] = lW s := by
 have he : eH s [32] ↔ mX s = true := by
  unfold eH mX
  cases hl : s.getLast? with
  | none =>
   have : s = [] := by simpa using hl
   subst this
   simp
  | some d =>
   have hne : s ≠ [] := by rintro rfl; simp at hl
   have h1 : 1 ≤ s.length := List.length_pos_iff.2 hne
   rw [List.getLast?_eq_getElem?] at hl
   have h2 : s.drop (s.length - 1) = [d] := by
    apply List.ext_getElem?
    intro j
    rw [List.getElem?_drop]
    cases j with
    | zero => simpa using hl
    | succ j => simp; omega
   simp [h1, h2]
 unfold gV lW
 by_cases h : mX s = true
 ·rw [aj (he.2 h), if_pos rfl, if_pos h, List.dropLast_eq_take]
  rfl
 ·rw [au (mt he.1 h), if_neg (by simp), if_neg h]
theorem Jl {s : Str} {H : List Ob} (hs : s.length ≤ 1000000) : callW C 290 [.str s, .str [32]] H = some (.str (lW s), H) := by
 apply Ret.eq
 rw [PT]
 have hc := ru (H := H) hs (w := [32]) (by simp)
 rw [uk] at hc
 simp [qh, Tryz.f290, hc]
theorem kC {t : Str} {H : List Ob} : callW C 211 [.str t] H = some (.str (norm t), H) := by
 apply Ret.eq
 rw [RY]
 by_cases g1 : (t.length : Int) > 100
 ·have : norm t = [] := by unfold norm; rw [if_neg (by omega)]
  simp [jV, Tryz.f211, g1, this]
 have hp := DF (t := t) (H := H) (by omega)
 by_cases g2 : Plain t
 rotate_left
 ·rw [au g2] at hp
  have : norm t = [] := by unfold norm; rw [au g2]; simp
  simp [jV, Tryz.f211, g1, hp, this]
 rw [aj g2] at hp
 have hn : norm t = lW (t.foldl bu []) := by unfold norm; rw [if_pos ⟨by omega, aj g2⟩]
 have hbz : ∀ i, ((t.take i).foldl bu []).length ≤ 100 := fun i => by
  have := lK (t.take i) []
  simp at this
  omega
 simp [jV, Tryz.f211, g1, hp, aI, aH, ax, St.new]
 refine aB (fun k σ => ∃ (i : Nat) (r : Nat → R) (G : List Ob) (v : V), i + k = t.length ∧ σ = ⟨r, 0, G⟩ ∧ r 0 = .val (.str t) ∧ r 3 = .val v ∧ r 16 = .val (.int .i64 t.length) ∧ r 17 = .val (.int .i64 i) ∧ Bs H G v ((t.take i).foldl bu [])) ?_ t.length _ ⟨0, _, _, _, by simp, rfl, by simp, by simp, by simp, by simp, Bs.init⟩
 rintro k σ ⟨i, r, G, v, hik, rfl, r0, r3, r16, r17, hB⟩
 have hbl := hbz i
 generalize hb : (t.take i).foldl bu [] = b at hB hbl
 have hw1 : IntKind.i64.wrap ((b.length : Int) - 1) = (b.length : Int) - 1 := wrap_i64 (by omega) (by omega)
 cases k with
 | zero =>
  have hi : i = t.length := by omega
  subst hi
  rw [List.take_length] at hb
  rw [hb] at hn
  obtain ⟨TT, rfl⟩ := hB.ext
  obtain ⟨id, rfl, hst, hsl⟩ := hB.cut (n := b.length) (Nat.le_refl _)
  rw [List.take_length] at hsl
  have hts := Jl (s := b) (H := H ++ TT) (by omega)
  simp [r0, r3, r16, r17, hsl, isByte, jU, hn, hts]
 | succ k =>
  have hi : i < t.length := by omega
  obtain ⟨c, hc⟩ : ∃ c, t[i]? = some c := ⟨t[i], by simp [hi]⟩
  have hc' : t[i] = c := (List.getElem?_eq_some_iff.1 hc).2
  have hw : IntKind.i64.wrap ((i : Int) + 1) = ((i : Int) + 1) := wrap_i64 (by omega) (by omega)
  have hfs := mf hc bu []
  rw [hb] at hfs
  have hgo : ∀ G' v', Bs H G' v' (bu b c) → ∃ k', k' < k + 1 ∧ ∃ i', i' + k' = t.length ∧ (i : Int) + 1 = i' ∧ Bs H G' v' ((t.take i').foldl bu []) := fun G' v' h =>
   ⟨k, by omega, i + 1, by omega, by omega, by rw [hfs]; exact h⟩
  by_cases hup : 65 ≤ c.toNat ∧ c.toNat ≤ 90
  ·have hu1 : (c.toNat : Int) ≥ 65 := by omega
   have hu2 : (c.toNat : Int) ≤ 90 := by omega
   have hlw := vJ hup.1 hup.2
   have hl32 : ¬ ((jl c).toNat : Int) = 32 := by rw [oh hup.1 hup.2]; omega
   have hns : bu b c = b ++ [jl c] := by unfold bu; rw [if_neg (fun h => hl32 (by rw [lZ.1 h.1]; rfl))]
   obtain ⟨v', G', ha, hB'⟩ := hB.push (by omega) (c := jl c) (d := .int .u8) (z := [.int .u8 0]) rfl
   rw [← hns] at hB'
   simp [r0, r3, r16, r17, hi, hc', hu1, hu2, hlw, hl32, aI, aH, ax, St.new, gy, ha, hw]
   obtain ⟨k', q1, i', q2, q3, q4⟩ := hgo G' v' hB'
   exact ⟨k', q1, i', q2, _, _, ⟨rfl, rfl⟩, by simp [r0], _, by simp [r3], by simp [r16], by simp [q3], q4⟩
  have hlc := uU hup
  have hu : (¬ (c.toNat : Int) ≥ 65) ∨ ((c.toNat : Int) ≥ 65 ∧ ¬ (c.toNat : Int) ≤ 90) := by omega
  by_cases h32 : c = 32
  ·have h32' : (c.toNat : Int) = 32 := by rw [h32]; rfl
   have hu1 : ¬ (c.toNat : Int) ≥ 65 := by omega
   by_cases hb0 : b = []
   ·have hns : bu b c = b := by unfold bu; rw [if_pos ⟨by rw [hlc, h32], .inl hb0⟩]
    rw [hns] at hgo
    have hbl0 : b.length = 0 := by rw [hb0]; rfl
    simp [r0, r3, r16, r17, hi, hc', h32', hB.len, hbl0, hw]
    obtain ⟨k', q1, i', q2, q3, q4⟩ := hgo G v hB
    exact ⟨k', q1, i', q2, _, _, ⟨rfl, rfl⟩, by simp [r0], _, by simp [r3], by simp [r16], by simp [q3], q4⟩
   ·obtain ⟨d, hd⟩ := kw hb0
    have hb1 : 0 < b.length := List.length_pos_iff.2 hb0
    have hb3 : (1 : Int) ≤ (b.length : Int) := by omega
    have hb5 : (b.length : Int) - 1 < (b.length : Int) := by omega
    have hb4 : ((b.length : Int) - 1).toNat = b.length - 1 := by omega
    obtain ⟨id, hv, hld⟩ := hB.last hd
    subst hv
    by_cases hd32 : d = 32
    ·have hns : bu b c = b := by unfold bu; rw [if_pos ⟨by rw [hlc, h32], .inr ((dZ hd).2 hd32)⟩]
     rw [hns] at hgo
     have hd' : (d.toNat : Int) = 32 := by rw [hd32]; rfl
     simp [r0, r3, r16, r17, hi, hc', h32', hb0, hb1, hb3, hb4, hb5, hw1, hld, hd', hw]
     obtain ⟨k', q1, i', q2, q3, q4⟩ := hgo G _ hB
     exact ⟨k', q1, i', q2, _, _, ⟨rfl, rfl⟩, by simp [r0], _, by simp [r3], by simp [r16], by simp [q3], q4⟩
    ·have hns : bu b c = b ++ [c] := by unfold bu; rw [if_neg (fun h => h.2.elim hb0 (fun h => hd32 ((dZ hd).1 h))), hlc]
     have hd' : ¬ (d.toNat : Int) = 32 := by have := mt lZ.2 hd32; omega
     obtain ⟨v', G', ha, hB'⟩ := hB.push (by omega) (c := c) (d := .int .u8) (z := [.int .u8 0]) rfl
     rw [← hns] at hB'
     rw [h32'] at ha
     simp [r0, r3, r16, r17, hi, hc', h32', hb0, hb1, hb3, hb4, hb5, hw1, hld, hd', aI, aH, ax, St.new, gy, ha, hw]
     obtain ⟨k', q1, i', q2, q3, q4⟩ := hgo G' v' hB'
     exact ⟨k', q1, i', q2, _, _, ⟨rfl, rfl⟩, by simp [r0], _, by simp [r3], by simp [r16], by simp [q3], q4⟩
  ·have h32' : ¬ (c.toNat : Int) = 32 := by have := mt lZ.2 h32; omega
   have hns : bu b c = b ++ [c] := by unfold bu; rw [if_neg (fun h => h32 (hlc ▸ h.1)), hlc]
   obtain ⟨v', G', ha, hB'⟩ := hB.push (by omega) (c := c) (d := .int .u8) (z := [.int .u8 0]) rfl
   rw [← hns] at hB'
   obtain ⟨k', q1, i', q2, q3, q4⟩ := hgo G' v' hB'
   rcases hu with hu | ⟨hu, hu2⟩
   ·simp [r0, r3, r16, r17, hi, hc', hu, h32', aI, aH, ax, St.new, gy, ha, hw]
    exact ⟨k', q1, i', q2, _, _, ⟨rfl, rfl⟩, by simp [r0], _, by simp [r3], by simp [r16], by simp [q3], q4⟩
   ·simp [r0, r3, r16, r17, hi, hc', hu, hu2, h32', aI, aH, ax, St.new, gy, ha, hw]
    exact ⟨k', q1, i', q2, _, _, ⟨rfl, rfl⟩, by simp [r0], _, by simp [r3], by simp [r16], by simp [q3], q4⟩
theorem EU {t : Str} {H : List Ob} : callW C 184 [.str t] H = some (.bool (dec (bf t)), H) := by
 apply Ret.dec
 rw [Pv]
 have hn := ku (t := t) (H := H)
 by_cases g1 : (t.length : Int) ≥ 1
 ·by_cases g2 : (t.length : Int) ≤ 40
  ·by_cases g3 : norm t = []
   ·have hv : ¬ bf t := fun h => h.2.2 g3
    simp [je, Tryz.f184, g1, g2, hn, g3, hv]
   ·have hv : bf t := ⟨by omega, by omega, g3⟩
    simp [je, Tryz.f184, g1, g2, hn, g3, hv]
  ·have : ¬ bf t := fun h => by have := h.2.1; omega
   simp [je, Tryz.f184, g1, g2, this]
 ·have : ¬ bf t := fun h => by have := h.1; omega
  simp [je, Tryz.f184, g1, this]
theorem DD {t : Str} {H : List Ob} : callW C 207 [.str t] H = some (.bool (dec (bf t)), H) := by
 apply Ret.dec
 rw [PO]
 have hn := kC (t := t) (H := H)
 by_cases g1 : (t.length : Int) ≥ 1
 ·by_cases g2 : (t.length : Int) ≤ 40
  ·by_cases g3 : norm t = []
   ·have hv : ¬ bf t := fun h => h.2.2 g3
    simp [jc, Tryz.f207, g1, g2, hn, g3, hv]
   ·have hv : bf t := ⟨by omega, by omega, g3⟩
    simp [jc, Tryz.f207, g1, g2, hn, g3, hv]
  ·have : ¬ bf t := fun h => by have := h.2.1; omega
   simp [jc, Tryz.f207, g1, g2, this]
 ·have : ¬ bf t := fun h => by have := h.1; omega
  simp [jc, Tryz.f207, g1, this]
theorem Hz {H : List Ob} {v : V} {l : List PRdn} (h : bH H v l) : callW C 90 [v] H = some (.bool (dec (DnOk l)), H) := by
 apply Ret.dec
 rw [ajY]
 have hb : l.length ≤ 9223372036854775807 := h.bound
 simp [I4, Tryz.f90]
 refine aB (fun k σ => ∃ (i : Nat) (r : Nat → R), i + k = l.length ∧ σ = ⟨r, 0, H⟩ ∧ r 0 = .val v ∧ r 3 = .val (.int .i64 i) ∧ ∀ j x, j < i → l[j]? = some x → aX x.attr ∧ bf x.value) ?_ l.length _ ⟨0, _, by simp, rfl, by simp, by simp, by simp⟩
 rintro k σ ⟨i, r, hik, rfl, r0, r3, hall⟩
 cases k with
 | zero =>
  have hi : i = l.length := by omega
  subst hi
  have hx := fF (P := fun j (x : PRdn) => aX x.attr ∧ bf x.value) hall
  by_cases g : l.length ≤ 6
  ·have g' : (l.length : Int) ≤ 6 := by omega
   have hv : DnOk l := ⟨hx, g⟩
   simp [r0, r3, h.len, g', hv]
  ·have g' : ¬ (l.length : Int) ≤ 6 := by omega
   have hv : ¬ DnOk l := fun h => g h.2
   simp [r0, r3, h.len, g', hv]
 | succ k =>
  have hi : i < l.length := by omega
  obtain ⟨x, hx⟩ : ∃ c, l[i]? = some c := ⟨l[i], by simp [hi]⟩
  have hw : IntKind.i64.wrap ((i : Int) + 1) = ((i : Int) + 1) := wrap_i64 (by omega) (by omega)
  obtain ⟨id, o, e1, l0, l1, _, _⟩ := qV h hx
  have c1 := zD (t := x.attr) (H := H)
  by_cases g1 : aX x.attr
  ·rw [aj g1] at c1
   have c2 := EU (t := x.value) (H := H)
   by_cases g2 : bf x.value
   ·rw [aj g2] at c2
    simp [r0, r3, hi, h.len, e1, l0, l1, c1, c2, hw]
    exact ⟨k, by omega, i + 1, by omega, by omega, dC (P := fun j (x : PRdn) => aX x.attr ∧ bf x.value) hall hx ⟨g1, g2⟩⟩
   ·rw [au g2] at c2
    have hn : ¬ DnOk l := fun hd => g2 (hd.1 i x hx).2
    simp [r0, r3, hi, h.len, e1, l0, l1, c1, c2, hn]
  ·rw [au g1] at c1
   have hn : ¬ DnOk l := fun hd => g1 (hd.1 i x hx).1
   simp [r0, r3, hi, h.len, e1, l0, l1, c1, hn]
theorem zg {H : List Ob} {v : V} {l : List Str} {t : Str} (h : AStrs H v l) : callW C 132 [v, .str t] H = some (.bool (dec (t ∈ l)), H) := by
 apply Ret.dec
 rw [YE]
 have hb : l.length ≤ 9223372036854775807 := h.bound
 simp [FP, Tryz.f132]
 refine aB (fun k σ => ∃ (i : Nat) (r : Nat → R), i + k = l.length ∧ σ = ⟨r, 0, H⟩ ∧ r 0 = .val v ∧ r 1 = .val (.str t) ∧ r 5 = .val (.int .i64 i) ∧ ∀ j x, j < i → l[j]? = some x → x ≠ t) ?_ l.length _ ⟨0, _, by simp, rfl, by simp, by simp, by simp, by simp⟩
 rintro k σ ⟨i, r, hik, rfl, r0, r1, r5, hall⟩
 cases k with
 | zero =>
  have hi : i = l.length := by omega
  subst hi
  have hx := fF (P := fun j (x : Str) => x ≠ t) hall
  have hn : t ∉ l := fun hm => by
   obtain ⟨j, hj, e⟩ := List.getElem_of_mem hm
   exact hx j _ (List.getElem?_eq_getElem hj) e
  simp [r0, r1, r5, h.len, hn]
 | succ k =>
  have hi : i < l.length := by omega
  obtain ⟨x, hx⟩ : ∃ c, l[i]? = some c := ⟨l[i], by simp [hi]⟩
  have hw : IntKind.i64.wrap ((i : Int) + 1) = ((i : Int) + 1) := wrap_i64 (by omega) (by omega)
  obtain ⟨id, o, e1, l0, _⟩ := dG h hx
  by_cases g1 : x = t
  ·have hm : t ∈ l := g1 ▸ List.mem_of_getElem? hx
   subst g1
   simp [r0, r1, r5, hi, h.len, e1, l0, hm]
  ·simp [r0, r1, r5, hi, h.len, e1, l0, g1, hw]
   exact ⟨k, by omega, i + 1, by omega, by omega, dC (P := fun j (x : Str) => x ≠ t) hall hx g1⟩
theorem aa7 {H : List Ob} {v v' : V} {l : List PAttr} {t : Str} (h : bK H v l) (ho : cellsOf v' = some [v']) : ∃ r : Int, callW C 249 [.agg [v', v], .str t] H = some (.int .i64 r, H) ∧ FirstAt PAttr.name l t r := by
 suffices hs : Ret C 249 [.agg [v', v], .str t] H fun q H' => (∃ r : Int, q = .int .i64 r ∧ FirstAt PAttr.name l t r) ∧ H' = H by
  obtain ⟨q, H', hc, ⟨r, rfl, hr⟩, rfl⟩ := hs
  exact ⟨r, hc, hr⟩
 rw [abw]
 have hb : l.length ≤ 9223372036854775807 := h.bound
 simp [CE, Tryz.f249]
 refine aB (fun k σ => ∃ (i : Nat) (r : Nat → R), i + k = l.length ∧ σ = ⟨r, 1, H⟩ ∧ r 1 = .val (.str t) ∧ r 2 = .box 0 [v', v] ∧ r 5 = .val (.int .i64 i) ∧ ∀ j x, j < i → l[j]? = some x → x.name ≠ t) ?_ l.length _ ⟨0, _, by simp, rfl, by simp, by simp, by simp, by simp⟩
 rintro k σ ⟨i, r, hik, rfl, r1, r2, r5, hall⟩
 cases k with
 | zero =>
  have hi : i = l.length := by omega
  subst hi
  have hx := fF (P := fun j (x : PAttr) => x.name ≠ t) hall
  simp [r1, r2, r5, h.len]
  exact .inr ⟨hx, rfl⟩
 | succ k =>
  have hi : i < l.length := by omega
  obtain ⟨x, hx⟩ : ∃ c, l[i]? = some c := ⟨l[i], by simp [hi]⟩
  have hw : IntKind.i64.wrap ((i : Int) + 1) = ((i : Int) + 1) := wrap_i64 (by omega) (by omega)
  obtain ⟨id, o, w, e1, l0, l1, _⟩ := fB h hx
  by_cases g1 : x.name = t
  ·simp [r1, r2, r5, hi, h.len, e1, l0, g1]
   exact .inl ⟨i, x, hx, g1, hall, rfl⟩
  ·simp [r1, r2, r5, hi, h.len, e1, l0, g1, hw]
   exact ⟨k, by omega, i + 1, by omega, by omega, dC (P := fun j (x : PAttr) => x.name ≠ t) hall hx g1⟩
theorem Nv {H : List Ob} {v : V} {l : List PClass} {t : Str} (h : aW H v l) : ∃ r : Int, callW C 323 [v, .str t] H = some (.int .i64 r, H) ∧ FirstAt PClass.name l t r := by
 suffices hs : Ret C 323 [v, .str t] H fun q H' => (∃ r : Int, q = .int .i64 r ∧ FirstAt PClass.name l t r) ∧ H' = H by
  obtain ⟨q, H', hc, ⟨r, rfl, hr⟩, rfl⟩ := hs
  exact ⟨r, hc, hr⟩
 rw [afD]
 have hb : l.length ≤ 9223372036854775807 := h.bound
 simp [FZ, Tryz.f323]
 refine aB (fun k σ => ∃ (i : Nat) (r : Nat → R), i + k = l.length ∧ σ = ⟨r, 0, H⟩ ∧ r 0 = .val v ∧ r 1 = .val (.str t) ∧ r 5 = .val (.int .i64 i) ∧ ∀ j x, j < i → l[j]? = some x → x.name ≠ t) ?_ l.length _ ⟨0, _, by simp, rfl, by simp, by simp, by simp, by simp⟩
 rintro k σ ⟨i, r, hik, rfl, r0, r1, r5, hall⟩
 cases k with
 | zero =>
  have hi : i = l.length := by omega
  subst hi
  have hx := fF (P := fun j (x : PClass) => x.name ≠ t) hall
  simp [r0, r1, r5, h.len]
  exact .inr ⟨hx, rfl⟩
 | succ k =>
  have hi : i < l.length := by omega
  obtain ⟨x, hx⟩ : ∃ c, l[i]? = some c := ⟨l[i], by simp [hi]⟩
  have hw : IntKind.i64.wrap ((i : Int) + 1) = ((i : Int) + 1) := wrap_i64 (by omega) (by omega)
  obtain ⟨id, o, w1, w2, w3, e1, l0, _⟩ := gK h hx
  by_cases g1 : x.name = t
  ·simp [r0, r1, r5, hi, h.len, e1, l0, g1]
   exact .inl ⟨i, x, hx, g1, hall, rfl⟩
  ·simp [r0, r1, r5, hi, h.len, e1, l0, g1, hw]
   exact ⟨k, by omega, i + 1, by omega, by omega, dC (P := fun j (x : PClass) => x.name ≠ t) hall hx g1⟩
theorem UV {H : List Ob} {v v' : V} {l : List PAttr} {t : Str} (h : bK H v l) (ho : cellsOf v' = some [v']) (ho' : aN v' = true) : ∃ w, callW C 280 [.agg [v', v], .str t] H = some (w, H) ∧ AStrs H w (valsOf l t) := by
 obtain ⟨r, hc, hr⟩ := aa7 (t := t) h ho
 suffices hs : Ret C 280 [.agg [v', v], .str t] H fun q H' => AStrs H q (valsOf l t) ∧ H' = H by
  obtain ⟨q, H', hc, hr, rfl⟩ := hs
  exact ⟨q, hc, hr⟩
 rw [agy]
 rcases hr.pos with ⟨k, a, h1, rfl, h2⟩ | ⟨rfl, h2⟩
 ·obtain ⟨id, o, w, e1, l0, l1, _, hw, _⟩ := fB h h1
  have hv : valsOf l t = a.vals := by unfold valsOf; rw [h2]
  have hk : ¬ ((k : Int) < 0) := by omega
  simp [yO, Tryz.f280, hc, hk, e1, l1, hv]
  exact hw
 ·have hv : valsOf l t = [] := by unfold valsOf; rw [h2]
  simp [yO, Tryz.f280, hc, hv]
  exact ak.2 ⟨_, _, rfl, rfl, by simp, .inl ⟨rfl, rfl⟩⟩
theorem wrap_one : IntKind.i64.wrap 1 = 1 := rfl
attribute [simp] wrap_one
theorem iJ {a b : Str} (h : cO a b) : Op.bytesLess a b = true := h
theorem iH {a b : Str} (h : ¬ cO a b) : Op.bytesLess a b = false := by
 cases hb : Op.bytesLess a b with
 | false => rfl
 | true => exact absurd hb h
theorem qB {H : List Ob} {id o : Nat} {v : V} (h : ∀ T : LT, T.one → ∀ r c, loadAt T ⟨r, c, H⟩ (.hp id o) = some v) : id < H.length := by
 have := h ⟨.str, 1, 16, [.str []]⟩ Fg (fun _ => .val .undef) 0
 unfold loadAt cellsAt at this
 rw [if_neg (by decide)] at this
 cases hg : H[id]? with
 | none => simp only [hg] at this; cases this
 | some o => exact (List.getElem?_eq_some_iff.1 hg).1
theorem ED {H : List Ob} {v : V} {l : List Str} (h : AStrs H v l) : callW C 59 [v] H = some (.bool (dec (eG l)), H) := by
 apply Ret.dec
 rw [ajp]
 have hb : l.length ≤ 9223372036854775807 := h.bound
 simp [JL, Tryz.f59]
 refine aB (fun k σ => ∃ (i : Nat) (r : Nat → R), i + k = l.length ∧ σ = ⟨r, 0, H⟩ ∧ r 0 = .val v ∧ r 3 = .val (.int .i64 i) ∧ ∀ j x, j < i → l[j]? = some x → aX x ∧ bV (fun x => x) l j x) ?_ l.length _ ⟨0, _, by simp, rfl, by simp, by simp, by simp⟩
 rintro k σ ⟨i, r, hik, rfl, r0, r3, hall⟩
 cases k with
 | zero =>
  have hi : i = l.length := by omega
  subst hi
  have hx : eG l := fF (P := fun j (x : Str) => aX x ∧ bV (fun x => x) l j x) hall
  simp [r0, r3, h.len, hx]
 | succ k =>
  have hi : i < l.length := by omega
  obtain ⟨x, hx⟩ : ∃ c, l[i]? = some c := ⟨l[i], by simp [hi]⟩
  have hw : IntKind.i64.wrap ((i : Int) + 1) = ((i : Int) + 1) := wrap_i64 (by omega) (by omega)
  obtain ⟨id, o, e1, l0, _⟩ := dG h hx
  have c1 := zD (t := x) (H := H)
  have hstep := fun h => dC (P := fun j (x : Str) => aX x ∧ bV (fun x => x) l j x) hall hx h
  by_cases g1 : aX x
  ·rw [aj g1] at c1
   by_cases hi0 : i = 0
   ·have := hstep ⟨g1, fun y hy => by omega⟩
    subst hi0
    simp at e1
    simp [r0, r3, hi, h.len, e1, l0, c1, ae]
    exact ⟨k, by omega, 1, by omega, by omega, this⟩
   ·have hip : 0 < i := by omega
    obtain ⟨y, hy⟩ : ∃ c, l[i - 1]? = some c := ⟨l[i - 1]'(by omega), by simp⟩
    obtain ⟨id', o', e1', l0', _⟩ := dG h hy
    have hw1 : IntKind.i64.wrap ((i : Int) - 1) = ((i - 1 : Nat) : Int) := by rw [wrap_i64 (by omega) (by omega)]; omega
    by_cases g2 : cO y x
    ·have := hstep ⟨g1, fun z _ hz => by rw [hy] at hz; cases hz; exact g2⟩
     simp [r0, r3, hi, h.len, e1, l0, c1, e1', l0', hw, hw1, hip, iJ g2, ae]
     exact ⟨k, by omega, i + 1, by omega, by omega, this⟩
    ·have hn : ¬ eG l := fun hd => g2 ((hd i x hx).2 y hip hy)
     simp [r0, r3, hi, h.len, e1, l0, c1, e1', l0', hw, hw1, hip, iH g2, ae, hn]
  ·rw [au g1] at c1
   have hn : ¬ eG l := fun hd => g1 (hd i x hx).1
   simp [r0, r3, hi, h.len, e1, l0, c1, hn, ae]
theorem PE {H : List Ob} {v : V} {l : List Str} (h : AStrs H v l) : callW C 227 [v] H = some (.bool (dec (bT l)), H) := by
 apply Ret.dec
 rw [adL]
 have hb : l.length ≤ 9223372036854775807 := h.bound
 simp [En, Tryz.f227]
 refine aB (fun k σ => ∃ (i : Nat) (r : Nat → R), i + k = l.length ∧ σ = ⟨r, 0, H⟩ ∧ r 0 = .val v ∧ r 3 = .val (.int .i64 i) ∧ ∀ j x, j < i → l[j]? = some x → bf x ∧ bV norm l j x) ?_ l.length _ ⟨0, _, by simp, rfl, by simp, by simp, by simp⟩
 rintro k σ ⟨i, r, hik, rfl, r0, r3, hall⟩
 cases k with
 | zero =>
  have hi : i = l.length := by omega
  subst hi
  have hx := fF (P := fun j (x : Str) => bf x ∧ bV norm l j x) hall
  by_cases g1 : 1 ≤ l.length
  ·have g1' : (1 : Int) ≤ (l.length : Int) := by omega
   by_cases g2 : l.length ≤ 4
   ·have g2' : (l.length : Int) ≤ 4 := by omega
    have hv : bT l := ⟨hx, g1, g2⟩
    simp [r0, r3, h.len, g1', g2', hv]
   ·have g2' : ¬ (l.length : Int) ≤ 4 := by omega
    have hv : ¬ bT l := fun h => g2 h.2.2
    simp [r0, r3, h.len, g1', g2', hv]
  ·have g1' : ¬ (1 : Int) ≤ (l.length : Int) := by omega
   have hv : ¬ bT l := fun h => g1 h.2.1
   simp [r0, r3, h.len, g1', hv]
 | succ k =>
  have hi : i < l.length := by omega
  obtain ⟨x, hx⟩ : ∃ c, l[i]? = some c := ⟨l[i], by simp [hi]⟩
  have hw : IntKind.i64.wrap ((i : Int) + 1) = ((i : Int) + 1) := wrap_i64 (by omega) (by omega)
  obtain ⟨id, o, e1, l0, _⟩ := dG h hx
  have c1 := EU (t := x) (H := H)
  have c2 := ku (t := x) (H := H)
  have hstep := fun h => dC (P := fun j (x : Str) => bf x ∧ bV norm l j x) hall hx h
  by_cases g1 : bf x
  ·rw [aj g1] at c1
   by_cases hi0 : i = 0
   ·have := hstep ⟨g1, fun y hy => by omega⟩
    subst hi0
    simp at e1
    simp [r0, r3, hi, h.len, e1, l0, c1]
    exact ⟨k, by omega, 1, by omega, by omega, this⟩
   ·have hip : 0 < i := by omega
    obtain ⟨y, hy⟩ : ∃ c, l[i - 1]? = some c := ⟨l[i - 1]'(by omega), by simp⟩
    obtain ⟨id', o', e1', l0', _⟩ := dG h hy
    have c3 := ku (t := y) (H := H)
    have hw1 : IntKind.i64.wrap ((i : Int) - 1) = ((i - 1 : Nat) : Int) := by rw [wrap_i64 (by omega) (by omega)]; omega
    have hlo := qB l0
    by_cases g2 : cO (norm y) (norm x)
    ·have := hstep ⟨g1, fun z _ hz => by rw [hy] at hz; cases hz; exact g2⟩
     simp [r0, r3, hi, h.len, e1, l0, c1, c2, c3, e1', l0', hw, hw1, hip, hlo, iJ g2]
     exact ⟨k, by omega, i + 1, by omega, by omega, this⟩
    ·have hn : ¬ bT l := fun hd => g2 ((hd.1 i x hx).2 y hip hy)
     simp [r0, r3, hi, h.len, e1, l0, c1, c2, c3, e1', l0', hw, hw1, hip, hlo, iH g2, hn]
  ·rw [au g1] at c1
   have hn : ¬ bT l := fun hd => g1 (hd.1 i x hx).1
   simp [r0, r3, hi, h.len, e1, l0, c1, hn]
theorem Uy {H : List Ob} {v : V} {l : List PAttr} (h : bK H v l) : callW C 135 [v] H = some (.bool (dec (jb l)), H) := by
 apply Ret.dec
 rw [VZ]
 have hb : l.length ≤ 9223372036854775807 := h.bound
 simp [DT, Tryz.f135]
 refine aB (fun k σ => ∃ (i : Nat) (r : Nat → R), i + k = l.length ∧ σ = ⟨r, 0, H⟩ ∧ r 0 = .val v ∧ r 3 = .val (.int .i64 i) ∧ ∀ j x, j < i → l[j]? = some x → aX x.name ∧ bV PAttr.name l j x ∧ bT x.vals) ?_ l.length _ ⟨0, _, by simp, rfl, by simp, by simp, by simp⟩
 rintro k σ ⟨i, r, hik, rfl, r0, r3, hall⟩
 cases k with
 | zero =>
  have hi : i = l.length := by omega
  subst hi
  have hx := fF (P := fun j (x : PAttr) => aX x.name ∧ bV PAttr.name l j x ∧ bT x.vals) hall
  by_cases g : l.length ≤ 8
  ·have g' : (l.length : Int) ≤ 8 := by omega
   have hv : jb l := ⟨hx, g⟩
   simp [r0, r3, h.len, g', hv]
  ·have g' : ¬ (l.length : Int) ≤ 8 := by omega
   have hv : ¬ jb l := fun h => g h.2
   simp [r0, r3, h.len, g', hv]
 | succ k =>
  have hi : i < l.length := by omega
  obtain ⟨x, hx⟩ : ∃ c, l[i]? = some c := ⟨l[i], by simp [hi]⟩
  have hw : IntKind.i64.wrap ((i : Int) + 1) = ((i : Int) + 1) := wrap_i64 (by omega) (by omega)
  obtain ⟨id, o, w, e1, l0, l1, _, hvs, _⟩ := fB h hx
  have c1 := zD (t := x.name) (H := H)
  have c2 := PE hvs
  have hstep := fun h => dC (P := fun j (x : PAttr) => aX x.name ∧ bV PAttr.name l j x ∧ bT x.vals) hall hx h
  by_cases g1 : aX x.name
  rotate_left
  ·rw [au g1] at c1
   have hn : ¬ jb l := fun hd => g1 (hd.1 i x hx).1
   simp [r0, r3, hi, h.len, e1, l0, c1, hn, ae]
  rw [aj g1] at c1
  by_cases hi0 : i = 0
  ·have hpv : bV PAttr.name l i x := fun y hy => by omega
   by_cases g3 : bT x.vals
   ·rw [aj g3] at c2
    have := hstep ⟨g1, hpv, g3⟩
    subst hi0
    simp at e1
    simp [r0, r3, hi, h.len, e1, l0, l1, c1, c2, ae]
    exact ⟨k, by omega, 1, by omega, by omega, this⟩
   ·rw [au g3] at c2
    have hn : ¬ jb l := fun hd => g3 (hd.1 i x hx).2.2
    subst hi0
    simp at e1
    simp [r0, r3, hi, h.len, e1, l0, l1, c1, c2, ae, hn]
  ·have hip : 0 < i := by omega
   obtain ⟨y, hy⟩ : ∃ c, l[i - 1]? = some c := ⟨l[i - 1]'(by omega), by simp⟩
   obtain ⟨id', o', w', e1', l0', _⟩ := fB h hy
   have hw1 : IntKind.i64.wrap ((i : Int) - 1) = ((i - 1 : Nat) : Int) := by rw [wrap_i64 (by omega) (by omega)]; omega
   by_cases g2 : cO y.name x.name
   ·have hpv : bV PAttr.name l i x := fun z _ hz => by rw [hy] at hz; cases hz; exact g2
    by_cases g3 : bT x.vals
    ·rw [aj g3] at c2
     have := hstep ⟨g1, hpv, g3⟩
     simp [r0, r3, hi, h.len, e1, l0, l1, c1, c2, e1', l0', hw, hw1, hip, iJ g2, ae]
     exact ⟨k, by omega, i + 1, by omega, by omega, this⟩
    ·rw [au g3] at c2
     have hn : ¬ jb l := fun hd => g3 (hd.1 i x hx).2.2
     simp [r0, r3, hi, h.len, e1, l0, l1, c1, c2, e1', l0', hw, hw1, hip, iJ g2, ae, hn]
   ·have hn : ¬ jb l := fun hd => g2 ((hd.1 i x hx).2.1 y hip hy)
    simp [r0, r3, hi, h.len, e1, l0, c1, e1', l0', hw, hw1, hip, iH g2, ae, hn]
theorem TD {H : List Ob} {v w : V} {e : PEntry} (h1 : bH H v e.dn) (h2 : bK H w e.attrs) : callW C 58 [.agg [v, w]] H = some (.bool (dec (EntryOk e)), H) := by
 apply Ret.dec
 rw [alJ]
 have c1 := Hz h1
 have c2 := Uy h2
 by_cases g0 : 0 < e.dn.length
 rotate_left
 ·have hn : ¬ EntryOk e := fun h => g0 h.1
  have g0' : e.dn.length = 0 := by omega
  simp [xn, Tryz.f58, h1.len, g0', hn, h1.one, h2.one]
 by_cases g1 : DnOk e.dn
 rotate_left
 ·rw [au g1] at c1
  have hn : ¬ EntryOk e := fun h => g1 h.2.1
  simp [xn, Tryz.f58, h1.len, g0, c1, hn, h1.one, h2.one]
 rw [aj g1] at c1
 by_cases g2 : jb e.attrs
 ·rw [aj g2] at c2
  have hn : EntryOk e := ⟨g0, g1, g2⟩
  simp [xn, Tryz.f58, h1.len, g0, c1, c2, hn, h1.one, h2.one]
 ·rw [au g2] at c2
  have hn : ¬ EntryOk e := fun h => g2 h.2.2
  simp [xn, Tryz.f58, h1.len, g0, c1, c2, hn, h1.one, h2.one]
theorem BN {H : List Ob} {v : V} {l : List Str} (h : AStrs H v l) : callW C 132 [v, .str [99, 108, 97, 115, 115]] H = some (.bool (dec (gz ∈ l)), H) := zg h
theorem Ui {H : List Ob} {w1 w2 w3 : V} {c : PClass} (h1 : AStrs H w1 c.must) (h2 : AStrs H w2 c.may) (h3 : AStrs H w3 c.single) : callW C 247 [.agg [.str c.name, w1, w2, w3]] H = some (.bool (dec (ClassOk c)), H) := by
 apply Ret.dec
 rw [Zu]
 have c0 := zD (t := c.name) (H := H)
 have c1 := ED h1
 have c2 := ED h2
 have c3 := ED h3
 by_cases g0 : aX c.name
 rotate_left
 ·rw [au g0] at c0
  have hn : ¬ ClassOk c := fun h => g0 h.name
  simp [kF, Tryz.f247, c0, hn, h1.one, h2.one, h3.one]
 rw [aj g0] at c0
 by_cases g1 : (c.must.length : Int) > 10
 ·have hn : ¬ ClassOk c := fun h => by have := h.l1; omega
  simp [kF, Tryz.f247, c0, h1.len, g1, hn, h1.one, h2.one, h3.one]
 by_cases g2 : (c.may.length : Int) > 10
 ·have hn : ¬ ClassOk c := fun h => by have := h.l2; omega
  simp [kF, Tryz.f247, c0, h1.len, h2.len, g1, g2, hn, h1.one, h2.one, h3.one]
 by_cases g3 : (c.single.length : Int) > 10
 ·have hn : ¬ ClassOk c := fun h => by have := h.l3; omega
  simp [kF, Tryz.f247, c0, h1.len, h2.len, h3.len, g1, g2, g3, hn, h1.one, h2.one, h3.one]
 by_cases g4 : eG c.must
 rotate_left
 ·rw [au g4] at c1
  have hn : ¬ ClassOk c := fun h => g4 h.n1
  simp [kF, Tryz.f247, c0, c1, h1.len, h2.len, h3.len, g1, g2, g3, hn, h1.one, h2.one, h3.one]
 rw [aj g4] at c1
 by_cases g5 : eG c.may
 rotate_left
 ·rw [au g5] at c2
  have hn : ¬ ClassOk c := fun h => g5 h.n2
  simp [kF, Tryz.f247, c0, c1, c2, h1.len, h2.len, h3.len, g1, g2, g3, hn, h1.one, h2.one, h3.one]
 rw [aj g5] at c2
 by_cases g6 : eG c.single
 rotate_left
 ·rw [au g6] at c3
  have hn : ¬ ClassOk c := fun h => g6 h.n3
  simp [kF, Tryz.f247, c0, c1, c2, c3, h1.len, h2.len, h3.len, g1, g2, g3, hn, h1.one, h2.one, h3.one]
 rw [aj g6] at c3
 simp [kF, Tryz.f247, c0, c1, c2, c3, h1.len, h2.len, h3.len, g1, g2, g3, h1.one, h2.one, h3.one]
 refine aB (fun k σ => ∃ (i : Nat) (r : Nat → R), i + k = c.must.length ∧ σ = ⟨r, 1, H⟩ ∧ r 1 = .box 0 [.str c.name, w1, w2, w3] ∧ r 3 = .val (.int .i64 i) ∧ ∀ j x, j < i → c.must[j]? = some x → x ∉ c.may) ?_ c.must.length _ ⟨0, _, by simp, rfl, by simp, by simp, by simp⟩
 rintro k σ ⟨i, r, hik, rfl, r1, r3, hall⟩
 cases k with
 | succ k =>
  have hi : i < c.must.length := by omega
  obtain ⟨x, hx⟩ : ∃ y, c.must[i]? = some y := ⟨c.must[i], by simp [hi]⟩
  have hw : IntKind.i64.wrap ((i : Int) + 1) = ((i : Int) + 1) := wrap_i64 (by omega) (by omega)
  obtain ⟨id, o, e1, l0, _⟩ := dG h1 hx
  have c4 := zg (t := x) h2
  by_cases g7 : x ∈ c.may
  ·rw [aj g7] at c4
   have hn : ¬ ClassOk c := fun h => h.apart x (List.mem_of_getElem? hx) g7
   simp [r1, r3, hi, h1.len, e1, l0, c4, ae, hn]
  ·rw [au g7] at c4
   simp [r1, r3, hi, h1.len, e1, l0, c4, ae, hw]
   exact ⟨k, by omega, i + 1, by omega, by omega, dC (P := fun j (x : Str) => x ∉ c.may) hall hx g7⟩
 | zero =>
 have hi : i = c.must.length := by omega
 subst hi
 have hap : ∀ t ∈ c.must, t ∉ c.may := fun t ht => by
  obtain ⟨j, hj, rfl⟩ := List.getElem_of_mem ht
  exact hall j _ hj (List.getElem?_eq_getElem hj)
 simp [r1, r3, h1.len]
 refine aB (fun k σ => ∃ (i : Nat) (r : Nat → R), i + k = c.single.length ∧ σ = ⟨r, 1, H⟩ ∧ r 1 = .box 0 [.str c.name, w1, w2, w3] ∧ r 4 = .val (.int .i64 i) ∧ ∀ j x, j < i → c.single[j]? = some x → x ∈ c.may ∨ x ∈ c.must) ?_ c.single.length _ ⟨0, _, by simp, rfl, by simp [r1], by simp, by simp⟩
 clear hik r1 r3 hall r
 rintro k σ ⟨i, r, hik, rfl, r1, r4, hall⟩
 cases k with
 | succ k =>
  have hi : i < c.single.length := by omega
  obtain ⟨x, hx⟩ : ∃ y, c.single[i]? = some y := ⟨c.single[i], by simp [hi]⟩
  have hw : IntKind.i64.wrap ((i : Int) + 1) = ((i : Int) + 1) := wrap_i64 (by omega) (by omega)
  obtain ⟨id, o, e1, l0, _⟩ := dG h3 hx
  have c4 := zg (t := x) h2
  have c5 := zg (t := x) h1
  have hstep := fun h => dC (P := fun j (x : Str) => x ∈ c.may ∨ x ∈ c.must) hall hx h
  by_cases g7 : x ∈ c.may
  ·rw [aj g7] at c4
   have := hstep (.inl g7)
   simp [r1, r4, hi, h3.len, e1, l0, c4, ae, hw]
   exact ⟨k, by omega, i + 1, by omega, by omega, this⟩
  ·rw [au g7] at c4
   by_cases g8 : x ∈ c.must
   ·rw [aj g8] at c5
    have := hstep (.inr g8)
    simp [r1, r4, hi, h3.len, e1, l0, c4, c5, ae, hw]
    exact ⟨k, by omega, i + 1, by omega, by omega, this⟩
   ·rw [au g8] at c5
    have hn : ¬ ClassOk c := fun h => (h.known x (List.mem_of_getElem? hx)).elim g7 g8
    simp [r1, r4, hi, h3.len, e1, l0, c4, c5, ae, hn]
 | zero =>
 have hi : i = c.single.length := by omega
 subst hi
 have hkn : ∀ t ∈ c.single, t ∈ c.may ∨ t ∈ c.must := fun t ht => by
  obtain ⟨j, hj, rfl⟩ := List.getElem_of_mem ht
  exact hall j _ hj (List.getElem?_eq_getElem hj)
 have c6 := BN h1
 have c7 := BN h2
 by_cases g7 : gz ∈ c.must
 ·rw [aj g7] at c6
  have hn : ¬ ClassOk c := fun h => h.noMust g7
  simp [r1, r4, h3.len, c6, hn]
 ·rw [au g7] at c6
  by_cases g8 : gz ∈ c.may
  ·rw [aj g8] at c7
   have hn : ¬ ClassOk c := fun h => h.noMay g8
   simp [r1, r4, h3.len, c6, c7, hn]
  ·rw [au g8] at c7
   have hn : ClassOk c := ⟨g0, by omega, by omega, by omega, g4, g5, g6, hap, hkn, g7, g8⟩
   simp [r1, r4, h3.len, c6, c7, hn]
theorem OB {H : List Ob} {v : V} {l : List PClass} (h : aW H v l) : callW C 159 [v] H = some (.bool (dec (eU l)), H) := by
 apply Ret.dec
 rw [Yk]
 have hb : l.length ≤ 9223372036854775807 := h.bound
 simp [FD, Tryz.f159]
 refine aB (fun k σ => ∃ (i : Nat) (r : Nat → R), i + k = l.length ∧ σ = ⟨r, 0, H⟩ ∧ r 0 = .val v ∧ r 3 = .val (.int .i64 i) ∧ ∀ j x, j < i → l[j]? = some x → ClassOk x ∧ bV PClass.name l j x) ?_ l.length _ ⟨0, _, by simp, rfl, by simp, by simp, by simp⟩
 rintro k σ ⟨i, r, hik, rfl, r0, r3, hall⟩
 cases k with
 | zero =>
  have hi : i = l.length := by omega
  subst hi
  have hx := fF (P := fun j (x : PClass) => ClassOk x ∧ bV PClass.name l j x) hall
  by_cases g : l.length ≤ 6
  ·have g' : (l.length : Int) ≤ 6 := by omega
   have hv : eU l := ⟨hx, g⟩
   simp [r0, r3, h.len, g', hv]
  ·have g' : ¬ (l.length : Int) ≤ 6 := by omega
   have hv : ¬ eU l := fun h => g h.2
   simp [r0, r3, h.len, g', hv]
 | succ k =>
  have hi : i < l.length := by omega
  obtain ⟨x, hx⟩ : ∃ c, l[i]? = some c := ⟨l[i], by simp [hi]⟩
  have hw : IntKind.i64.wrap ((i : Int) + 1) = ((i : Int) + 1) := wrap_i64 (by omega) (by omega)
  obtain ⟨id, o, w1, w2, w3, e1, l0, l4, q1, q2, q3, _⟩ := gK h hx
  have c1 := Ui q1 q2 q3
  have hstep := fun h => dC (P := fun j (x : PClass) => ClassOk x ∧ bV PClass.name l j x) hall hx h
  by_cases g1 : ClassOk x
  ·rw [aj g1] at c1
   by_cases hi0 : i = 0
   ·have := hstep ⟨g1, fun y hy => by omega⟩
    subst hi0
    simp at e1
    simp [r0, r3, hi, h.len, e1, l4, c1, ae]
    exact ⟨k, by omega, 1, by omega, by omega, this⟩
   ·have hip : 0 < i := by omega
    obtain ⟨y, hy⟩ : ∃ c, l[i - 1]? = some c := ⟨l[i - 1]'(by omega), by simp⟩
    obtain ⟨id', o', _, _, _, e1', l0', _⟩ := gK h hy
    have hw1 : IntKind.i64.wrap ((i : Int) - 1) = ((i - 1 : Nat) : Int) := by rw [wrap_i64 (by omega) (by omega)]; omega
    by_cases g2 : cO y.name x.name
    ·have := hstep ⟨g1, fun z _ hz => by rw [hy] at hz; cases hz; exact g2⟩
     simp [r0, r3, hi, h.len, e1, l0, l4, c1, e1', l0', hw, hw1, hip, iJ g2, ae]
     exact ⟨k, by omega, i + 1, by omega, by omega, this⟩
    ·have hn : ¬ eU l := fun hd => g2 ((hd.1 i x hx).2 y hip hy)
     simp [r0, r3, hi, h.len, e1, l0, l4, c1, e1', l0', hw, hw1, hip, iH g2, ae, hn]
  ·rw [au g1] at c1
   have hn : ¬ eU l := fun hd => g1 (hd.1 i x hx).1
   simp [r0, r3, hi, h.len, e1, l4, c1, hn, ae]
def jk (H : List Ob) (m : Option PClass) (cs : List V) (ok : Bool) : Prop :=
 (ok = true ∧ ∃ c w1 w2 w3, m = some c ∧ cs = [.str c.name, w1, w2, w3] ∧ AStrs H w1 c.must ∧ AStrs H w2 c.may ∧ AStrs H w3 c.single) ∨ (ok = false ∧ m = none ∧ cs = [.str [], .slc none 0, .slc none 0, .slc none 0])
theorem RG {H : List Ob} {v v' : V} {l : List PAttr} (h : bK H v l) (ho : cellsOf v' = some [v']) (ho' : aN v' = true) : ∃ w, callW C 280 [.agg [v', v], .str [99, 108, 97, 115, 115]] H = some (w, H) ∧ AStrs H w (valsOf l gz) := UV h ho ho'
theorem Vf {H T : List Ob} {vl vd va : V} {l : List PClass} {as' : List PAttr} (hl : aW H vl l) (ha : bK H va as') (ho : cellsOf vd = some [vd]) (ho' : aN vd = true) :
  ∃ cs ok, callW C 248 [vl, .agg [vd, va]] (H ++ T) = some (.tup [.agg cs, .bool ok], H ++ T) ∧ jk H (jf l as') cs ok := by
 suffices hs : Ret C 248 [vl, .agg [vd, va]] (H ++ T) fun q H' => (∃ cs ok, q = .tup [.agg cs, .bool ok] ∧ jk H (jf l as') cs ok) ∧ H' = H ++ T by
  obtain ⟨q, H', hc, ⟨cs, ok, rfl, hr⟩, rfl⟩ := hs
  exact ⟨cs, ok, hc, hr⟩
 rw [ab9]
 obtain ⟨w, c1, hw⟩ := RG (ha.ext (T := T)) ho ho'
 have hone := ha.one
 by_cases g1 : (valsOf as' gz).length = 1
 rotate_left
 ·have hm : jf l as' = none := by
   unfold jf
   split
   ·rename_i v hv; rw [hv] at g1; exact absurd rfl g1
   ·rfl
  have g1' : ¬ ((valsOf as' gz).length : Int) = 1 := by omega
  simp [vV, Tryz.f248, c1, hw.len, g1', ho, ho', hone, aS, aH]
  exact .inr ⟨rfl, hm, rfl⟩
 obtain ⟨s, hs⟩ : ∃ s, valsOf as' gz = [s] := by
  match h : valsOf as' gz, g1 with
  | [s], _ => exact ⟨s, rfl⟩
 rw [hs] at hw
 obtain ⟨id, o, e1, l0, _⟩ := dG hw (i := 0) (s := s) rfl
 simp only [Int.ofNat_eq_natCast, Int.natCast_zero] at e1
 have c2 := ku (t := s) (H := H ++ T)
 obtain ⟨r, c3, hr⟩ := Nv (t := norm s) (hl.ext (T := T))
 have hm : jf l as' = bz PClass.name l (norm s) := by unfold jf; rw [hs]
 rcases hr.pos with ⟨k, a, h1, rfl, h2⟩ | ⟨rfl, h2⟩
 ·obtain ⟨id2, o2, w1, w2, w3, f1, l4, q1, q2, q3⟩ := qm hl h1
  have l4 := l4 T
  have hk : ¬ ((k : Int) < 0) := by omega
  simp [vV, Tryz.f248, c1, hw.len, e1, l0, c2, c3, hk, f1, l4, ho, ho', hone, q1.one, q2.one, q3.one]
  exact .inl ⟨rfl, a, w1, w2, w3, by rw [hm, h2], rfl, q1, q2, q3⟩
 ·simp [vV, Tryz.f248, c1, hw.len, e1, l0, c2, c3, ho, ho', hone, aS, aH]
  exact .inr ⟨rfl, by rw [hm, h2], rfl⟩
theorem Gv {l : List Str} {i : Nat} {x : Str} (h : l[i]? = some x) (p : Str → Bool) : (l.take (i + 1)).filter p = (l.take i).filter p ++ if p x then [x] else [] := by
 rw [dh h, List.filter_append]
 cases hp : p x <;> simp [hp]
theorem VW {t : Str} {H : List Ob} (h0 : t ≠ []) (hl : t.length ≤ 1000) : ∃ q, callW C 180 [.str t, .str kset] H = some (.str q, H) ∧ (q = [] ↔ mJ t) := by
 suffices hs : Ret C 180 [.str t, .str kset] H fun q H' => (∃ s, q = .str s ∧ (s = [] ↔ mJ t)) ∧ H' = H by
  obtain ⟨q, H', hc, ⟨s, rfl, hr⟩, rfl⟩ := hs
  exact ⟨s, hc, hr⟩
 rw [abJ]
 have hk0 : kset ≠ [] := by decide
 have hk1 : (kset.length : Int) = 37 := by decide
 have c1 := acn (t := kset) (H := H) (fun c hc => by
  rcases zB.1 hc with h | h | h
  ·have := h.2; omega
  ·have := h.2; omega
  ·omega) (by decide)
 have hz : setRange (List.replicate 256 (V.bool false)) 0 (setB kset) = setB kset := by
  unfold setRange
  rw [List.take_zero, List.nil_append, Nat.zero_add, fA, List.drop_of_length_le (by rw [List.length_replicate]; omega), List.append_nil]
 have hall : (setB kset).all aN = true := by
  rw [List.all_eq_true]
  intro x hx
  simp only [setB, List.mem_map] at hx
  obtain ⟨_, _, rfl⟩ := hx
  rfl
 have st := EW (H := H ++ [.mk true 1 (List.replicate 256 (.bool false))]) (id := H.length) (o := 0) (l := setB kset) (cells := List.replicate 256 (.bool false)) (es := 1) get_last (by rw [fA, List.length_replicate]; omega) (by intro h; have := fA (l := kset); rw [h] at this; cases this) hall
 rw [fA, hz, qO] at st
 have hob : (H ++ [Ob.mk true 1 (setB kset)])[H.length]? = some (.mk true 1 (setB kset)) := get_last
 obtain ⟨s, c2, q1, q2, q3⟩ := aee (t := t) hob hl
 obtain ⟨s', c3, q4, q5⟩ := acj (t := s) hob q3
 have hres : s' = [] ↔ mJ t := by
  rw [← q1, ← q4]
  constructor
  ·rintro rfl; intro c hc; cases hc
  ·intro h
   rcases q5 with h' | h'
   ·exact h'
   ·exact absurd h h'
 simp [DZ, Tryz.f180, h0, hk0, hk1, c1, aP, st, c2, c3, -List.reduceReplicate, -setRange]
 exact hres
theorem PG {t : Str} {c : UInt8} {s : Str} (h : t = c :: s) : aX t ↔ t.length ≤ 20 ∧ qP c ∧ mJ t := by
 subst h
 constructor
 ·rintro ⟨_, h1, h2⟩
  refine ⟨h1, ?_, fun d hd => ?_⟩
  ·rcases h2 0 c rfl with h | ⟨h, _⟩
   ·exact h
   ·omega
  ·obtain ⟨i, hi, rfl⟩ := List.getElem_of_mem hd
   rw [zB]
   rcases h2 i _ (List.getElem?_eq_getElem hi) with h | ⟨_, h | h⟩
   ·exact .inl h
   ·exact .inr (.inl h)
   ·exact .inr (.inr h)
 ·rintro ⟨h1, h2, h3⟩
  refine ⟨by simp, h1, fun i d hd => ?_⟩
  cases i with
  | zero => cases hd; exact .inl h2
  | succ i =>
   rcases zB.1 (h3 d (List.mem_of_getElem? hd)) with h | h | h
   ·exact .inl h
   ·exact .inr ⟨by omega, .inl h⟩
   ·exact .inr ⟨by omega, .inr h⟩
theorem FT {t : Str} {H : List Ob} : callW C 83 [.str t] H = some (.bool (dec (aX t)), H) := by
 apply Ret.dec
 rw [amn]
 match t with
 | [] =>
  have hn : ¬ aX [] := fun h => by have := h.1; simp at this
  simp [qH, Tryz.f83, hn]
 | c :: s =>
 have hi := PG (t := c :: s) rfl
 have g0 : (1 : Int) ≤ (s.length : Int) + 1 := by omega
 by_cases g1 : ((c :: s).length : Int) ≤ 20
 rotate_left
 ·have hn : ¬ aX (c :: s) := fun h => by have := h.2.1; omega
  simp only [List.length_cons, Int.natCast_add, Int.natCast_one] at g1
  simp [qH, Tryz.f83, g0, g1, hn]
 obtain ⟨q, hc, hq⟩ := VW (t := c :: s) (H := H) (by simp) (by omega)
 simp only [kset] at hc
 have g1' := g1
 simp only [List.length_cons, Int.natCast_add, Int.natCast_one] at g1
 by_cases g2 : (c.toNat : Int) ≥ 97
 rotate_left
 ·have hn : ¬ aX (c :: s) := fun h => by have := (hi.1 h).2.1.1; omega
  simp [qH, Tryz.f83, g0, g1, g2, hn]
 by_cases g3 : (c.toNat : Int) ≤ 122
 rotate_left
 ·have hn : ¬ aX (c :: s) := fun h => by have := (hi.1 h).2.1.2; omega
  simp [qH, Tryz.f83, g0, g1, g2, g3, hn]
 by_cases g4 : q = []
 ·have hn : aX (c :: s) := hi.2 ⟨by omega, ⟨by omega, by omega⟩, hq.1 g4⟩
  simp [qH, Tryz.f83, g0, g1, g2, g3, hc, g4, hn]
 ·have hn : ¬ aX (c :: s) := fun h => g4 (hq.2 (hi.1 h).2.2)
  simp [qH, Tryz.f83, g0, g1, g2, g3, hc, g4, hn]
theorem KX {a b : Str} {H : List Ob} : callW C 114 [.agg [.str a, .str b]] H = some (.bool (dec (aX a ∧ bf b)), H) := by
 apply Ret.dec
 rw [aac]
 have c1 := FT (t := a) (H := H)
 have c2 := DD (t := b) (H := H)
 by_cases g1 : aX a
 ·rw [aj g1] at c1
  by_cases g2 : bf b
  ·rw [aj g2] at c2
   simp [wu, Tryz.f114, c1, c2, g1, g2]
  ·rw [au g2] at c2
   simp [wu, Tryz.f114, c1, c2, g1, g2]
 ·rw [au g1] at c1
  simp [wu, Tryz.f114, c1, g1]
theorem Pq {a b : Str} {H : List Ob} : callW C 232 [.agg [.str a, .str b]] H = some (.bool (!dec (aX a ∧ bf b)), H) := by
 apply Ret.eq
 rw [adk]
 have c1 := KX (a := a) (b := b) (H := H)
 simp [Ez, Tryz.f232, c1]
theorem Qc {H : List Ob} {v : V} {l : List PRdn} (h : bH H v l) : ∃ r : Int, callW C 308 [v, .fn 232 [] []] H = some (.int .i64 r, H) ∧ (0 ≤ r ↔ ¬ ∀ (j : Nat) x, l[j]? = some x → aX x.attr ∧ bf x.value) := by
 suffices hs : Ret C 308 [v, .fn 232 [] []] H fun q H' => (∃ r : Int, q = .int .i64 r ∧ (0 ≤ r ↔ ¬ ∀ (j : Nat) x, l[j]? = some x → aX x.attr ∧ bf x.value)) ∧ H' = H by
  obtain ⟨q, H', hc, ⟨r, rfl, hr⟩, rfl⟩ := hs
  exact ⟨r, hc, hr⟩
 rw [YM]
 have hb : l.length ≤ 9223372036854775807 := h.bound
 simp [Dy, Tryz.f308, h.len]
 refine aB (fun k σ => ∃ (i : Nat) (r : Nat → R), i + k = l.length ∧ σ = ⟨r, 0, H⟩ ∧ r 0 = .val v ∧ r 1 = .val (.fn 232 [] []) ∧ r 7 = .val (.int .i64 l.length) ∧ r 8 = .val (.int .i64 i) ∧ ∀ j x, j < i → l[j]? = some x → aX x.attr ∧ bf x.value) ?_ l.length _ ⟨0, _, by simp, rfl, by simp, by simp, by simp, by simp, by simp⟩
 rintro k σ ⟨i, r, hik, rfl, r0, r1, r7, r8, hall⟩
 cases k with
 | zero =>
  have hi : i = l.length := by omega
  subst hi
  have hx := fF (P := fun j (x : PRdn) => aX x.attr ∧ bf x.value) hall
  simp [r0, r1, r7, r8]
  exact fun j x hj => hx j x hj
 | succ k =>
  have hi : i < l.length := by omega
  obtain ⟨x, hx⟩ : ∃ c, l[i]? = some c := ⟨l[i], by simp [hi]⟩
  have hw : IntKind.i64.wrap ((i : Int) + 1) = ((i : Int) + 1) := wrap_i64 (by omega) (by omega)
  obtain ⟨id, o, e1, l0, l1, l2, _⟩ := qV h hx
  have c1 := Pq (a := x.attr) (b := x.value) (H := H)
  by_cases g1 : aX x.attr ∧ bf x.value
  ·rw [aj g1] at c1
   simp at c1
   simp [r0, r1, r7, r8, hi, e1, l2, c1, hw]
   exact ⟨k, by omega, i + 1, by omega, by omega, dC (P := fun j (x : PRdn) => aX x.attr ∧ bf x.value) hall hx g1⟩
  ·rw [au g1] at c1
   simp at c1
   simp [r0, r1, r7, r8, hi, e1, l2, c1, hw]
   exact ⟨i, x, hx, fun h1 h2 => g1 ⟨h1, h2⟩⟩
theorem Ve {H : List Ob} {v : V} {l : List PRdn} (h : bH H v l) : callW C 140 [v] H = some (.bool (dec (DnOk l)), H) := by
 obtain ⟨r, c1, hr⟩ := Qc h
 have c2 : callW C 231 [v, .fn 232 [] []] H = some (.bool (decide (0 ≤ r)), H) := by
  apply Ret.eq
  rw [aax]
  simp [CS, Tryz.f231, c1]
 apply Ret.dec
 rw [WJ]
 by_cases g1 : (l.length : Int) ≤ 6
 ·by_cases g2 : 0 ≤ r
  ·have hn : ¬ DnOk l := fun h => hr.1 g2 h.1
   simp [vG, Tryz.f140, h.len, g1, c2, g2, hn]
  ·have hn : DnOk l := ⟨Classical.byContradiction fun h => g2 (hr.2 h), by omega⟩
   simp [vG, Tryz.f140, h.len, g1, c2, g2, hn]
 ·have hn : ¬ DnOk l := fun h => g1 (by have := h.2; omega)
  simp [vG, Tryz.f140, h.len, g1, hn]
end Go.Proofs.Try1
end
