/- Part 15 of the proof of a law: the interpreter, its soundness, and what functions of the program compute over it. Conditions: none but those that each theorem names. -/
import Derived.Test.YtipjjjlomghdfaaGreatDoorR14
import Derived.Test.YtipjjjlomghdfaaGreatDoorR08
import Derived.Test.YtipjjjlomghdfaaGreatDoorR13
import Derived.Test.YtipjjjlomghdfaaGreatDoorR10
import Derived.Test.YtipjjjlomghdfaaGreatDoorR12

set_option linter.all false
set_option maxRecDepth 20000
set_option maxHeartbeats 40000000
section
namespace Go.Lite
open Go
def srcH (H : List Ob) (id : Nat) (v : V) (a m z : Int) : List Ob := H.set id (.mk true 4 [v, .int .i64 a, .int .u64 m, .int .i64 z])
section
variable {H T : List Ob} {id : Nat} {v : V} {a m z a' m' z' : Int}
theorem srcH_at (h : id < H.length) : (srcH H id v a m z)[id]? = some (.mk true 4 [v, .int .i64 a, .int .u64 m, .int .i64 z]) := List.getElem?_set_self h
theorem srcH_ne {q : Nat} (h : q ≠ id) : (srcH H id v a m z)[q]? = H[q]? := List.getElem?_set_ne fun e => h e.symm
theorem srcH_app (h : id < H.length) : srcH H id v a m z ++ T = srcH (H ++ T) id v a m z := by
 unfold srcH; rw [set_app h]
end
def strFirst : Sh → Bool
 | .st (.str :: _) => true
 | _ => false
mutual
def okS : Sh → Bool
 | .slice e => (e.size != 4 || strFirst e) && okS e
 | .st fs => okSs fs
 | _ => true
def okSs : List Sh → Bool
 | [] => true
 | f :: fs => okS f && okSs fs
end
section
variable {H : List Ob} {id : Nat} {v : V} {a m z a' m' z' : Int}
mutual
theorem At.src (hid : id < H.length) (hv : ∃ p n, v = .slc p n) : ∀ (sh : Sh) {cs : List V} {u : U}, okS sh = true → At (srcH H id v a m z) sh cs u → At (srcH H id v a' m' z') sh cs u
 | .int k, _, _, _, h => by simpa only [At] using h
 | .bool, _, _, _, h => by simpa only [At] using h
 | .str, _, _, _, h => by simpa only [At] using h
 | .slice e, _, _, ho, h => by
  simp only [okS, Bool.and_eq_true, Bool.or_eq_true, bne_iff_ne, ne_eq] at ho
  simp only [At] at h ⊢
  obtain ⟨w, l, h1, h2, h3, h4⟩ := h
  refine ⟨w, l, h1, h2, h3, ?_⟩
  rcases h4 with h4 | ⟨i, off, own, cells, h5, h6, h7, h8⟩
  ·exact .inl h4
  ·by_cases hi : i = id
   ·subst hi
    rw [srcH_at hid] at h6
    simp only [Option.some.injEq, Ob.mk.injEq] at h6
    obtain ⟨rfl, h6, rfl⟩ := h6
    have hs := ho.1.resolve_left fun hn => hn h6.symm
    refine .inr ⟨i, off, true, [v, .int .i64 a', .int .u64 m', .int .i64 z'], h5, by rw [srcH_at hid, h6], by simpa using h7, fun j x hx => ?_⟩
    exfalso
    have hj := (List.getElem?_eq_some_iff.1 hx).1
    rw [← h6] at h7 h8
    simp only [List.length_cons, List.length_nil] at h7
    have hl : l.length = 1 := by omega
    have ho0 : off = 0 := by omega
    have hj0 : j = 0 := by omega
    subst ho0 hj0
    have := h8 0 x hx
    obtain ⟨p, n, rfl⟩ := hv
    match e, hs, this with
    | .st (.str :: fs), _, this =>
     obtain ⟨us, _, h9⟩ := At_st.1 this
     obtain ⟨c1, c2, u1, us1, hc, _, h10, _⟩ := Ats_cons.1 h9
     obtain ⟨s, rfl, _⟩ := At_str.1 h10
     simp at hc
   ·refine .inr ⟨i, off, own, cells, h5, by rw [srcH_ne hi] at h6 ⊢; exact h6, h7, fun j x hx => At.src hid hv e ho.2 (h8 j x hx)⟩
 | .st fs, _, _, ho, h => by
  simp only [okS] at ho
  simp only [At] at h ⊢
  obtain ⟨us, h1, h2⟩ := h
  exact ⟨us, h1, Ats.src hid hv fs ho h2⟩
theorem Ats.src (hid : id < H.length) (hv : ∃ p n, v = .slc p n) : ∀ (fs : List Sh) {cs : List V} {us : List U}, okSs fs = true → Ats (srcH H id v a m z) fs cs us → Ats (srcH H id v a' m' z') fs cs us
 | [], _, _, _, h => by simpa only [Ats] using h
 | f :: fs, _, _, ho, h => by
  simp only [okSs, Bool.and_eq_true] at ho
  simp only [Ats] at h ⊢
  obtain ⟨c1, c2, u, us', h1, h2, h3, h4⟩ := h
  exact ⟨c1, c2, u, us', h1, h2, At.src hid hv f ho.1 h3, Ats.src hid hv fs ho.2 h4⟩
end
theorem At.srcApp {T : List Ob} (hid : id < H.length) (hv : ∃ p n, v = .slc p n) {sh : Sh} {cs : List V} {u : U} (ho : okS sh = true) (h : At (srcH H id v a m z) sh cs u) : At (srcH (H ++ T) id v a' m' z') sh cs u := by
 have := At.ext (T := T) (At.src (a' := a') (m' := m') (z' := z') hid hv sh ho h)
 rwa [srcH_app hid] at this
structure SrcOk (H : List Ob) (id : Nat) (v : V) (n : Nat) (a m z : Int) : Prop where
 lt : id < H.length
 bytes : ∃ us : List U, us.length = n ∧ At (srcH H id v a m z) (.slice (.int .u8)) [v] (.lst us)
 at0 : 0 ≤ a
 at1 : a ≤ n
 m0 : 0 ≤ m
 m1 : m < 18446744073709551616
 z0 : 0 ≤ z
 z1 : z ≤ 12
theorem SrcOk.slc {n : Nat} (h : SrcOk H id v n a m z) : ∃ p k, v = .slc p k := by
 obtain ⟨us, _, hb⟩ := h.bytes
 obtain ⟨w, l, e, _, _, hs⟩ := At_slice.1 hb
 cases e
 rcases hs with ⟨rfl, _⟩ | ⟨i, off, own, cells, rfl, _⟩ <;> exact ⟨_, _, rfl⟩
theorem SrcOk.to {n : Nat} (h : SrcOk H id v n a m z) (h0 : 0 ≤ a') (h1 : a' ≤ n) (h2 : 0 ≤ m') (h3 : m' < 18446744073709551616) : SrcOk H id v n a' m' z := by
 obtain ⟨us, hl, hb⟩ := h.bytes
 exact ⟨h.lt, ⟨us, hl, At.src h.lt h.slc _ (by simp [okS, Sh.size]) hb⟩, h0, h1, h2, h3, h.z0, h.z1⟩
theorem SrcOk.app {n : Nat} {T : List Ob} (h : SrcOk H id v n a m z) : SrcOk (H ++ T) id v n a m z := by
 obtain ⟨us, hl, hb⟩ := h.bytes
 exact ⟨by have := h.lt; simp; omega, ⟨us, hl, At.srcApp h.lt h.slc (by simp [okS, Sh.size]) hb⟩, h.at0, h.at1, h.m0, h.m1, h.z0, h.z1⟩
def Drew (H : List Ob) (id : Nat) (v : V) (n : Nat) (z : Int) (H' : List Ob) : Prop := ∃ T a m, H' = srcH (H ++ T) id v a m z ∧ SrcOk (H ++ T) id v n a m z
theorem Drew.up {n : Nat} {H' : List Ob} (hs : SrcOk H id v n a m z) (h : Drew H id v n z H') {sh : Sh} {cs : List V} {u : U} (ho : okS sh = true) (hat : At (srcH H id v a m z) sh cs u) : At H' sh cs u := by
 obtain ⟨T, a', m', rfl, _⟩ := h
 exact At.srcApp hs.lt hs.slc ho hat
theorem Drew.trans {n : Nat} {H1 H2 : List Ob} (h : Drew H id v n z H1) (k : ∀ T a m, H1 = srcH (H ++ T) id v a m z → SrcOk (H ++ T) id v n a m z → Drew (H ++ T) id v n z H2) : Drew H id v n z H2 := by
 obtain ⟨T, a1, m1, e, hs⟩ := h
 obtain ⟨T', a2, m2, rfl, hs'⟩ := k T a1 m1 e hs
 exact ⟨T ++ T', a2, m2, by rw [List.append_assoc], by rw [← List.append_assoc]; exact hs'⟩
theorem Drew.gc {n : Nat} {H' : List Ob} {r : V} (hs : SrcOk H id v n a m z) (h : Drew H id v n z H') : Drew H id v n z (gcH (srcH H id v a m z) H' r) := by
 unfold gcH
 split
 ·exact ⟨[], a, m, by simp, by simpa using hs⟩
 ·exact h
theorem Drew.refl {n : Nat} (hs : SrcOk H id v n a m z) : Drew H id v n z (srcH H id v a m z) := ⟨[], a, m, by simp, by simpa using hs⟩
end
def EnR (b : Nat) (G : List Ob) (w1 w2 : V) (e : PEntry) : Prop := ARdns G w1 e.dn ∧ ((w2 = .slc none 0 ∧ e.attrs = []) ∨ ∃ id cs, b ≤ id ∧ w2 = .slc (some (id, 0)) e.attrs.length ∧ G[id]? = some (.mk true 2 cs) ∧ cs.length = e.attrs.length * 2 ∧ ARdns (G.set id .dead) w1 e.dn ∧ ∀ (i : Nat) x, e.attrs[i]? = some x → At (G.set id .dead) shAttr ((cs.drop (i * 2)).take 2) x.u)
section
variable {b b' : Nat} {G T K : List Ob} {w1 w2 w : V} {e : PEntry} {dn : List PRdn} {l : List PAttr}
theorem EnR.ext (h : EnR b G w1 w2 e) : EnR b (G ++ T) w1 w2 e := by
 obtain ⟨h0, h | ⟨id, cs, hb, h1, h2, h3, h4, h5⟩⟩ := h
 ·exact ⟨h0.ext, .inl h⟩
 ·have hid := (List.getElem?_eq_some_iff.1 h2).1
  exact ⟨h0.ext, .inr ⟨id, cs, hb, h1, up_append _ _ h2, h3, by rw [set_app hid]; exact h4.ext, fun i x hx => by rw [set_app hid]; exact (h5 i x hx).ext⟩⟩
theorem EnR.wide (h : EnR b G w1 w2 e) (hb : b' ≤ b) : EnR b' G w1 w2 e := ⟨h.1, h.2.imp id fun ⟨i, cs, h1, h2⟩ => ⟨i, cs, Nat.le_trans hb h1, h2⟩⟩
theorem EnR.attrs (h : EnR b G w1 w2 e) (hl : e.attrs.length ≤ maxLen) : AAttrs G w2 e.attrs := by
 obtain ⟨_, ⟨rfl, h0⟩ | ⟨id, cs, _, rfl, h2, h3, _, h5⟩⟩ := h
 ·rw [h0]
  exact At_slice.2 ⟨_, _, rfl, rfl, by simp, .inl ⟨rfl, rfl⟩⟩
 ·refine At_slice.2 ⟨_, _, rfl, rfl, by simpa using hl, .inr ⟨id, 0, true, cs, by simp, h2, by simp; omega, fun i x hx => ?_⟩⟩
  rw [List.getElem?_map] at hx
  obtain ⟨y, hy, rfl⟩ := Option.map_eq_some_iff.1 hx
  rw [Nat.zero_add]
  exact (h5 i y hy).undead
theorem EnR.nil (hd : ARdns G w1 dn) : EnR b G w1 (.slc none 0) ⟨dn, []⟩ := ⟨hd, .inl ⟨rfl, rfl⟩⟩
theorem EnR.push {x : PAttr} {c : List V} {d : LD} {z : List V} (h : EnR b G w1 w2 e) (hb : b ≤ G.length) (hc : c.length = 2) (hx : ∀ id, id < G.length → At ((G ++ T).set id .dead) shAttr c x.u) (hx0 : At (G ++ T) shAttr c x.u) (hz : z.length = 2) (hl : e.attrs.length ≤ 1000000) :
  ∃ v' G', appendV ⟨d, 2, 40, z⟩ (G ++ T ++ [.mk true 2 c]) w2 (.slc (some ((G ++ T).length, 0)) 1) = some (v', G') ∧ EnR b G' w1 v' ⟨e.dn, e.attrs ++ [x]⟩ ∧ G.length ≤ G'.length ∧ (∀ q, q < b → G'[q]? = G[q]?) ∧ ∀ q, q < G.length → G'[q]? = G[q]? ∨ ∃ own cells, G[q]? = some (.mk own 2 cells) := by
 have hco := At.ones _ hx0
 have hnew := newCells_tmp (d := d) (by_ := 40) (z := z) (G := G ++ T) (es := 2) (c := c) (by omega)
 rw [hc] at hnew
 obtain ⟨h0, ⟨rfl, hn⟩ | ⟨id, cs, hbi, rfl, h2, h3, h4, h5⟩⟩ := h
 ·refine ⟨_, _, appendV_nil hz (by decide) (by decide) (by decide) hnew (by decide) hco (by decide), ⟨h0.ext.ext.ext, .inr ⟨_, c, ?_, by simp [hn], get_last, by simp [hn, hc], ?_, fun i y hy => ?_⟩⟩, by simp, fun q hq => ?_, fun q hq => .inl ?_⟩
  ·simp; omega
  ·rw [set_last]; exact h0.ext.ext.ext
  ·rw [set_last]
   rw [hn] at hy
   have : i = 0 := by
    have := (List.getElem?_eq_some_iff.1 hy).1
    simp at this; omega
   subst this
   cases hy
   rw [Nat.zero_mul, List.drop_zero, List.take_of_length_le (by omega)]
   exact hx0.ext.ext
  ·rw [List.append_assoc, List.append_assoc, List.getElem?_append_left (by omega)]
  ·rw [List.append_assoc, List.append_assoc, List.getElem?_append_left (by omega)]
 ·have hid := (List.getElem?_eq_some_iff.1 h2).1
  have h2' : (G ++ T ++ [Ob.mk true 2 c])[id]? = some (.mk true 2 cs) := by rw [List.append_assoc]; exact up_append _ _ h2
  have hl2 : ((G ++ T ++ [Ob.mk true 2 c]).set id .dead).length = (G ++ T ++ [Ob.mk true 2 c]).length := List.length_set
  have hset : (G ++ T ++ [Ob.mk true 2 c]).set id .dead = (G ++ T).set id .dead ++ [.mk true 2 c] := set_app (by simp; omega)
  have hG : (G ++ T).set id .dead = G.set id .dead ++ T := set_app hid
  refine ⟨_, _, appendV_row hz (by decide) (by decide) (by decide) h2' h3 hnew (by decide) hco (by unfold maxMade; omega), ⟨?_, .inr ⟨(G ++ T ++ [Ob.mk true 2 c]).length, cs ++ c, ?_, by simp, ?_, by simp [h3, hc, Nat.add_mul], ?_, fun i y hy => ?_⟩⟩, by simp; omega, fun q hq => ?_, fun q hq => ?_⟩
  ·rw [hset, hG]; exact h4.ext.ext.ext
  ·simp; omega
  ·rw [← hl2, get_last]
  ·rw [← hl2, set_last, hset, hG]; exact h4.ext.ext.ext
  ·rw [← hl2, set_last, hset]
   have key := row_snoc (n := e.attrs.length) (s := 2) (cs := cs) (c := c) h3 hc (P := fun i cc => ∀ y, (e.attrs ++ [x])[i]? = some y → At ((G ++ T).set id .dead ++ [Ob.mk true 2 c] ++ [.dead]) shAttr cc y.u) (fun i hi y hy => by
     rw [List.getElem?_append_left hi] at hy
     rw [hG]
     exact (h5 i y hy).ext.ext.ext) (fun y hy => by
     simp at hy
     subst hy
     exact (hx id hid).ext.ext)
   have hi : i < e.attrs.length + 1 := by
    have := (List.getElem?_eq_some_iff.1 hy).1
    simpa using this
   exact key i hi y hy
  ·rw [List.getElem?_append_left (by rw [hl2]; simp; omega), List.getElem?_set_ne (by omega), List.append_assoc, List.getElem?_append_left (by omega)]
  ·by_cases hqi : id = q
   ·subst hqi; exact .inr ⟨_, _, h2⟩
   ·exact .inl (by rw [List.getElem?_append_left (by rw [hl2]; simp; omega), List.getElem?_set_ne hqi, List.append_assoc, List.getElem?_append_left (by omega)])
end
def SrcAt (G : List Ob) (id : Nat) (v : V) : Prop := (∃ a m z, G[id]? = some (.mk true 4 [v, .int .i64 a, .int .u64 m, .int .i64 z])) ∧ ∃ p n, v = .slc p n
def Ev (id : Nat) (G G' : List Ob) : Prop := G.length ≤ G'.length ∧ ∀ q, q ≠ id → q < G.length → G'[q]? = G[q]?
section
variable {id : Nat} {v : V} {G G1 G2 T : List Ob}
theorem Ev.refl : Ev id G G := ⟨Nat.le_refl _, fun _ _ _ => rfl⟩
theorem Ev.trans (h : Ev id G G1) (h' : Ev id G1 G2) : Ev id G G2 := ⟨Nat.le_trans h.1 h'.1, fun q hq hl => by rw [h'.2 q hq (Nat.lt_of_lt_of_le hl h.1), h.2 q hq hl]⟩
theorem Ev.app : Ev id G (G ++ T) := ⟨by simp, fun q _ hl => List.getElem?_append_left hl⟩
theorem Ev.gc {r : V} (h : Ev id G G1) : Ev id G (gcH G G1 r) := by
 unfold gcH
 split
 ·exact .refl
 ·exact h
theorem New.ev {b e : Nat} {sh : Sh} {cs : List V} {u : U} (h : New b e G sh cs u) (hid : id < b) (he : e ≤ G.length) (hE : Ev id G G1) : New b e G1 sh cs u :=
 h.frame fun q h1 h2 => hE.2 q (by omega) (by omega)
theorem At.ev {sh : Sh} {cs : List V} {u : U} (ho : okS sh = true) (hs : SrcAt G id v) (h1 : SrcAt G1 id v) (hE : Ev id G G1) (h : At G sh cs u) : At G1 sh cs u := by
 obtain ⟨⟨a, m, z, e⟩, hv⟩ := hs
 obtain ⟨⟨a', m', z', e'⟩, _⟩ := h1
 have hl := (List.getElem?_eq_some_iff.1 e').1
 have e1 : G1 = srcH G1 id v a' m' z' := by
  apply List.ext_getElem?
  intro q
  by_cases hq : q = id
  ·subst hq; rw [srcH_at hl, e']
  ·rw [srcH_ne hq]
 rw [e1]
 refine At.src (a := a) (m := m) (z := z) hl hv sh ho (At.upL (fun q own es cells hq => ?_) sh h)
 by_cases hqi : q = id
 ·subst hqi; rw [srcH_at hl, ← e]; exact hq
 ·rw [srcH_ne hqi, hE.2 q hqi (List.getElem?_eq_some_iff.1 hq).1]; exact hq
theorem EnR.ev {b : Nat} {w1 w2 : V} {e : PEntry} (hs : SrcAt G id v) (h1 : SrcAt G1 id v) (hE : Ev id G G1) (h : EnR b G w1 w2 e) : EnR b G1 w1 w2 e := by
 obtain ⟨h0, h | ⟨i, cs, hb, q1, q2, q3, q4, q5⟩⟩ := h
 ·exact ⟨At.ev (by decide) hs h1 hE h0, .inl h⟩
 ·have hi := (List.getElem?_eq_some_iff.1 q2).1
  have hne : i ≠ id := by
   rintro rfl
   obtain ⟨⟨a, m, z, e⟩, _⟩ := hs
   rw [q2] at e
   simp at e
  have hk : ∀ {X : List Ob}, SrcAt X id v → SrcAt (X.set i .dead) id v := fun {X} ⟨⟨a, m, z, e⟩, hv⟩ => ⟨⟨a, m, z, by rw [List.getElem?_set_ne hne]; exact e⟩, hv⟩
  have hE' : Ev id (G.set i .dead) (G1.set i .dead) := ⟨by simpa using hE.1, fun q hq hl => by
   rw [List.length_set] at hl
   by_cases hqi : i = q
   ·subst hqi
    rw [List.getElem?_set_self hi, List.getElem?_set_self (Nat.lt_of_lt_of_le hi hE.1)]
   ·rw [List.getElem?_set_ne hqi, List.getElem?_set_ne hqi]
    exact hE.2 q hq hl⟩
  exact ⟨At.ev (by decide) hs h1 hE h0, .inr ⟨i, cs, hb, q1, by rw [hE.2 i hne hi]; exact q2, q3, At.ev (by decide) (hk hs) (hk h1) hE' q4, fun j x hx => At.ev (by decide) (hk hs) (hk h1) hE' (q5 j x hx)⟩⟩
end
end Go.Lite
end
section
namespace Go.Proofs.Try1
open Go Go.Lite
def aqj (e : PEntry) : Prop := e.dn.length ≤ 1048576 ∧ e.attrs.length ≤ 1048576 ∧ ∀ a ∈ e.attrs, a.vals.length ≤ 1048576
section
variable {pre : List PAttr} {a : PAttr} {n : Str} {vs : List Str} {done : Bool}
end
theorem EntryOk.small {e : PEntry} (h : EntryOk e) : aqj e := by
 obtain ⟨_, h1, h2⟩ := h
 refine ⟨by have := h1.2; omega, by have := h2.2; omega, fun a ha => ?_⟩
 obtain ⟨j, hj, rfl⟩ := List.getElem_of_mem ha
 have := (h2.1 j _ (List.getElem?_eq_getElem hj)).2.2.2.2
 omega

theorem TreeOk.dns {t : PTree} (h : TreeOk t) : ∀ x ∈ t.entries, EntryOk x := fun x hx => by
 obtain ⟨j, hj, rfl⟩ := List.getElem_of_mem hx
 exact (h.2.1.2 j _ (List.getElem?_eq_getElem hj)).1
def auB (c : PClass) : Prop := c.must.length ≤ 1048576 ∧ c.may.length ≤ 1048576 ∧ c.single.length ≤ 1048576
def aur (t : PTree) : Prop := (t.schema.length ≤ 1048576 ∧ ∀ c ∈ t.schema, auB c) ∧ t.entries.length ≤ 1048576 ∧ ∀ e ∈ t.entries, aqj e
structure PTreeOut where
 tree : PTree
 entries : List PEntry
 code : Int
def PTreeOut.u (o : PTreeOut) : U := .st [o.tree.u, .lst (o.entries.map PEntry.u), .int o.code]
abbrev akC : Sh := .st [shTree, .slice shEntry, .int .i64]
def TOut (H : List Ob) (o : PTreeOut) (q : V) (H' : List Ob) : Prop := ∃ T w1 w2 w3, q = .agg [w1, w2, w3, .int .i64 o.code] ∧ H' = H ++ T ∧ New H.length (H ++ T).length (H ++ T) akC [w1, w2, w3, .int .i64 o.code] o.u
theorem TOut.of {H G : List Ob} {t : PTree} {w1 w2 : V} (hT : ∃ T, G = H ++ T) (hn : New H.length G.length G shTree [w1, w2] t.u) : TOut H ⟨t, [], 0⟩ (.agg [w1, w2, .slc none 0, .int .i64 0]) (gcH H G (.agg [w1, w2, .slc none 0, .int .i64 0])) := by
 obtain ⟨T, rfl⟩ := hT
 have h2 : New H.length (H ++ T).length (H ++ T) akC [w1, w2, .slc none 0, .int .i64 0] (PTreeOut.u ⟨t, [], 0⟩) := New.st (News.cons (c1 := [w1, w2]) (m := (H ++ T).length) hn (News.nilS (News.int (by decide) News.nil)) (by simp) (Nat.le_refl _))
 obtain ⟨T', h3, h4⟩ := h2.gcA
 exact ⟨T', w1, w2, .slc none 0, rfl, h3, h4⟩
theorem DnOk.drop {l : List PRdn} (hd : DnOk l) (k : Nat) : DnOk (l.drop k) :=
 ⟨fun j x hx => hd.1 (k + j) x (by rw [List.getElem?_drop] at hx; exact hx), by have := hd.2; simp; omega⟩
end Go.Proofs.Try1
end
section
namespace Go.Proofs.Try1
open Go Go.Lite
attribute [-simp] WP_region WP_cond
attribute [local simp] WP_regionF WP_condF ThenW_some ThenW_none CondW_true CondW_false
attribute [local simp low] CondW_bool
theorem alz {n a b : Int} {H : List Ob} : callW C 91 [.int .i64 n, .int .i64 a, .int .i64 b] H = some (.bool (dec (a ≤ n ∧ n ≤ b)), H) := by
 apply Ret.dec
 rw [aB6]
 by_cases h1 : a ≤ n
 ·by_cases h2 : n ≤ b
  ·simp [amx, Tryz.f91, h1, h2]
  ·simp [amx, Tryz.f91, h1, h2]
 ·simp [amx, Tryz.f91, h1]
theorem aua {n : PNode} {H : List Ob} : callW C 283 [.agg n.cs] H = some (.bool (dec (NodeOk n)), H) := by
 apply Ret.dec
 rw [au1]
 have c1 := alz (n := n.many) (a := 1) (b := 20) (H := H)
 have c2 := aja (t := n.attr) (H := H)
 have c3 := akt (t := n.value) (H := H)
 unfold NodeOk PNode.Inner
 by_cases o1 : n.op = 1
 ·by_cases g1 : n.attr = []
  ·by_cases g2 : n.value = []
   ·by_cases g3 : 1 ≤ n.many ∧ n.many ≤ 20
    ·rw [dec_pos g3] at c1
     simp [ah0, Tryz.f283, o1, g1, g2, c1, g3]
    ·rw [dec_neg g3] at c1
     simp [ah0, Tryz.f283, o1, g1, g2, c1]
     omega
   ·have e2 : List.isEmpty n.value = false := by simpa using g2
    simp [ah0, Tryz.f283, o1, g1, g2, e2]
  ·have e1 : List.isEmpty n.attr = false := by simpa using g1
   simp [ah0, Tryz.f283, o1, g1, e1]
 by_cases o2 : n.op = 2
 ·by_cases g1 : n.attr = []
  ·by_cases g2 : n.value = []
   ·by_cases g3 : 1 ≤ n.many ∧ n.many ≤ 20
    ·rw [dec_pos g3] at c1
     simp [ah0, Tryz.f283, o2, g1, g2, c1, g3]
    ·rw [dec_neg g3] at c1
     simp [ah0, Tryz.f283, o2, g1, g2, c1]
     omega
   ·have e2 : List.isEmpty n.value = false := by simpa using g2
    simp [ah0, Tryz.f283, o2, g1, g2, e2]
  ·have e1 : List.isEmpty n.attr = false := by simpa using g1
   simp [ah0, Tryz.f283, o2, g1, e1]
 by_cases o3 : n.op = 3
 ·by_cases g1 : n.attr = []
  ·by_cases g2 : n.value = []
   ·by_cases g3 : n.many = 1
    ·simp [ah0, Tryz.f283, o3, g1, g2, g3]
    ·simp [ah0, Tryz.f283, o3, g1, g2, g3]
   ·have e2 : List.isEmpty n.value = false := by simpa using g2
    simp [ah0, Tryz.f283, o3, g1, g2, e2]
  ·have e1 : List.isEmpty n.attr = false := by simpa using g1
   simp [ah0, Tryz.f283, o3, g1, e1]
 by_cases o5 : n.op = 5
 ·by_cases g1 : NameOk n.attr
  ·rw [dec_pos g1] at c2
   by_cases g2 : n.value = []
   ·by_cases g3 : n.many = 0
    ·simp [ah0, Tryz.f283, o5, g1, g2, g3, c2]
    ·simp [ah0, Tryz.f283, o5, g1, g2, g3, c2]
   ·have e2 : List.isEmpty n.value = false := by simpa using g2
    simp [ah0, Tryz.f283, o5, g1, g2, c2, e2]
  ·rw [dec_neg g1] at c2
   simp [ah0, Tryz.f283, o5, g1, c2]
 by_cases o4 : n.op = 4 ∨ n.op = 6 ∨ n.op = 7 ∨ n.op = 8
 ·by_cases g1 : NameOk n.attr
  ·rw [dec_pos g1] at c2
   by_cases g2 : ValueOk n.value
   ·rw [dec_pos g2] at c3
    by_cases g3 : n.many = 0
    ·rcases o4 with o4 | o4 | o4 | o4 <;> simp [ah0, Tryz.f283, o4, g1, g2, g3, c2, c3]
    ·rcases o4 with o4 | o4 | o4 | o4 <;> simp [ah0, Tryz.f283, o4, g1, g2, g3, c2, c3]
   ·rw [dec_neg g2] at c3
    rcases o4 with o4 | o4 | o4 | o4 <;> simp [ah0, Tryz.f283, o4, g1, g2, c2, c3]
  ·rw [dec_neg g1] at c2
   rcases o4 with o4 | o4 | o4 | o4 <;> simp [ah0, Tryz.f283, o4, g1, c2]
 ·obtain ⟨o6, o7, o8, o9⟩ : ¬ n.op = 4 ∧ ¬ n.op = 6 ∧ ¬ n.op = 7 ∧ ¬ n.op = 8 := ⟨fun h => o4 (.inl h), fun h => o4 (.inr (.inl h)), fun h => o4 (.inr (.inr (.inl h))), fun h => o4 (.inr (.inr (.inr h)))⟩
  simp [ah0, Tryz.f283, o1, o2, o3, o5, o6, o7, o8, o9]
noncomputable def aie : Option (Nat × Nat) → Int
 | some q => q.1
 | none => -1
theorem atE {v : V} {f : List PNode} {H : List Ob} (h : ANodes H v f) (hl : f.length ≤ 20) : ∀ d i : Nat, d ≤ 5 → i ≤ f.length →
  callW C 218 [v, .int .i64 i, .int .i64 (6 - d : Nat)] H = some (.int .i64 (aie (fdep f d i)), H)
 | 0, i, hd, hi => by
  suffices hs : Ret C 218 [v, .int .i64 i, .int .i64 (6 - 0 : Nat)] H fun q H' => q = .int .i64 (aie (fdep f 0 i)) ∧ H' = H by
   obtain ⟨q, H', hc, rfl, rfl⟩ := hs
   exact hc
  rw [atY]
  by_cases g : i < f.length
  ·have g' : ¬ (f.length : Int) ≤ i := by omega
   simp [ajN, Tryz.f218, h.len, g', aie, fdep]
  ·have g' : (f.length : Int) ≤ i := by omega
   simp [ajN, Tryz.f218, h.len, g', aie, fdep]
 | d + 1, i, hd, hi => by
  suffices hs : Ret C 218 [v, .int .i64 i, .int .i64 (6 - (d + 1) : Nat)] H fun q H' => q = .int .i64 (aie (fdep f (d + 1) i)) ∧ H' = H by
   obtain ⟨q, H', hc, rfl, rfl⟩ := hs
   exact hc
  rw [atY]
  have hdp : ¬ (5 : Int) < (6 - (d + 1) : Nat) := by omega
  have hdw : IntKind.i64.wrap (((6 - (d + 1) : Nat) : Int) + 1) = ((6 - d : Nat) : Int) := by rw [wrap_i64 (by omega) (by omega)]; omega
  generalize hdd : ((6 - (d + 1) : Nat) : Int) = dd at hdp hdw
  rcases Nat.lt_or_ge i f.length with g | g
  rotate_left
  ·have g' : (f.length : Int) ≤ i := by omega
   simp [ajN, Tryz.f218, h.len, g', aie, fdep, List.getElem?_eq_none g, hdd]
  have g' : ¬ (f.length : Int) ≤ i := by omega
  obtain ⟨x, hx⟩ : ∃ c, f[i]? = some c := ⟨f[i], by simp [g]⟩
  obtain ⟨id, o, e1, l0, l1, _, _, _, w4⟩ := nodes_idx h hx
  have l0' := l0 []
  have l1' := l1 []
  simp only [List.append_nil] at l0' l1'
  have c1 := aua (n := x) (H := H)
  by_cases g1 : NodeOk x
  rotate_left
  ·rw [dec_neg g1] at c1
   simp [ajN, Tryz.f218, h.len, g', hdp, e1, l1', c1, aie, fdep, hx, dec_neg g1, hdd]
  have hm := g1.many_le
  rw [dec_pos g1] at c1
  have hw : IntKind.i64.wrap ((i : Int) + 1) = ((i : Int) + 1) := wrap_i64 (by omega) (by omega)
  have l0'' : ∀ T : LT, T.one → ∀ r c, loadAt T ⟨r, c, H⟩ (.hp id (o + 3)) = some (.int .i64 x.many) := fun T hT r c => (l0' T hT r c).2.2.2
  have hgoal : aie (fdep f (d + 1) i) = aie (frep (fdep f d) x.many.toNat (i + 1, 0)) := by
   show aie (match f[i]? with
    | none => none
    | some n => if dec (NodeOk n) = true then (frep (fdep f d) n.many.toNat (i + 1, 0)).map fun p => (p.1, p.2 + 1) else none) = _
   rw [hx]
   simp only [dec_pos g1, if_true]
   cases frep (fdep f d) x.many.toNat (i + 1, 0) <;> rfl
  rw [hgoal]
  simp [ajN, Tryz.f218, h.len, g', hdp, e1, l1', l0'', c1, hw, hdd]
  refine WP_loop (fun k σ => ∃ (m : Nat) (p : Option (Nat × Nat)) (a : Int) (r : Nat → R), σ = ⟨r, 0, H⟩ ∧ r 0 = .val v ∧ r 1 = .val (.int .i64 a) ∧ r 2 = .val (.int .i64 dd) ∧ r 7 = .val (.int .i64 m) ∧ m ≤ 20 ∧ k = (if p.isSome then m else 0) ∧ a = aie p ∧ (∀ q, p = some q → q.1 ≤ f.length) ∧ (p.bind fun q => frep (fdep f d) m q) = frep (fdep f d) x.many.toNat (i + 1, 0)) ?_ x.many.toNat _ ⟨x.many.toNat, some (i + 1, 0), i + 1, _, rfl, by simp, by simp, by simp, by simp; omega, by omega, by simp, by simp [aie], fun q e => by cases e; exact g, rfl⟩
  rintro k σ ⟨m, p, a, r, rfl, r0, r1, r2, r7, hm20, hk, ha, hq, hp⟩
  cases p with
  | none =>
   simp only [Option.isSome_none, Bool.false_eq_true, if_false] at hk
   subst hk
   simp only [Option.bind_none] at hp
   subst ha
   by_cases hm0 : 0 < m
   ·simp [r0, r1, r2, r7, hm0, aie, ← hp]
   ·simp [r0, r1, r2, r7, hm0, aie, ← hp]
  | some q =>
   simp only [Option.isSome_some, if_true] at hk
   subst hk
   simp only [Option.bind_some] at hp
   have hql := hq q rfl
   subst ha
   cases k with
   | zero =>
    have : q = q := rfl
    simp only [frep] at hp
    simp [r0, r1, r2, r7, aie, ← hp]
   | succ k =>
    have c2 := atE h hl d q.1 (by omega) hql
    have hw2 : IntKind.i64.wrap (((k + 1 : Nat) : Int) - 1) = (k : Int) := by rw [wrap_i64 (by omega) (by omega)]; omega
    have hw3 : IntKind.i64.wrap ((k : Int) + 1 - 1) = (k : Int) := by rw [wrap_i64 (by omega) (by omega)]; omega
    have h0 : (0 : Int) < (k : Int) + 1 := by omega
    have h1 : (0 : Int) ≤ (q.1 : Int) := by omega
    cases hsub : fdep f d q.1 with
    | none =>
     rw [hsub] at c2
     simp only [frep, hsub] at hp
     simp [r0, r1, r2, r7, h0, h1, aie, c2, hw2, hw3, hdw]
     exact ⟨0, by omega, k, by rw [wrap_i64 (by omega) (by omega)], by omega, none, by simp, rfl, by simp, by simpa using hp⟩
    | some q2 =>
     rw [hsub] at c2
     simp only [frep, hsub] at hp
     have hq2 := fdep_some _ _ _ hsub
     simp [r0, r1, r2, r7, h0, h1, aie, c2, hw2, hw3, hdw]
     exact ⟨k, by omega, k, by rw [wrap_i64 (by omega) (by omega)], by omega, some (q2.1, max q.2 q2.2), by simp, rfl, fun a b e => by cases e; exact hq2.2.1, by simpa using hp⟩
theorem ajU {v : V} {f : List PNode} {H : List Ob} (h : ANodes H v f) : callW C 130 [v] H = some (.bool (dec (FilterOk f)), H) := by
 apply Ret.dec
 rw [axg]
 by_cases g : f.length ≤ 20
 rotate_left
 ·have g' : ¬ (f.length : Int) ≤ 20 := by omega
  simp [akq, Tryz.f130, h.len, g']
  exact fun h => g h.1
 have g' : (f.length : Int) ≤ 20 := by omega
 have c1 := atE h g 5 0 (by omega) (by omega)
 simp only [Int.natCast_zero, show ((6 - 5 : Nat) : Int) = 1 from rfl] at c1
 cases hf : fdep f 5 0 with
 | none =>
  rw [hf] at c1
  have e : ¬ (-1 : Int) = (f.length : Int) := by omega
  simp [akq, Tryz.f130, h.len, g', c1, aie, e]
  rintro ⟨_, x, hx⟩
  rw [hf] at hx
  cases hx
 | some q =>
  rw [hf] at c1
  by_cases e : q.1 = f.length
  ·have e' : (q.1 : Int) = f.length := by omega
   simp [akq, Tryz.f130, h.len, g', c1, aie, e']
   exact ⟨g, q.2, by rw [hf, ← e]⟩
  ·have e' : ¬ (q.1 : Int) = f.length := by omega
   simp [akq, Tryz.f130, h.len, g', c1, aie, e']
   rintro ⟨_, x, hx⟩
   rw [hf] at hx
   cases hx
   exact e rfl
noncomputable def ahY (i : Nat) : Option (Nat × Nat) → V
 | some q => .tup [.int .i64 ((q.1 - i : Nat) : Int), .int .i64 (q.2 : Int)]
 | none => .tup [.int .i64 0, .int .i64 0]
theorem aqJ {v : V} {f : List PNode} {H : List Ob} (d i : Nat) (hi : i < f.length) (hl : f.length ≤ 100) (hdb : d ≤ 100) {x : PNode} (hx : f[i]? = some x) (h : ANodes H v (f.drop i)) (hn : x.Inner) (hok : NodeOk x)
  (ih : ∀ (w : V) (j : Nat) (G : List Ob), i < j → j ≤ f.length → ANodes G w (f.drop j) → callW C 231 [w] G = some (ahY j (fdep f d j), G)) :
  callW C 231 [v] H = some (ahY i (fdep f (d + 1) i), H) := by
 suffices hs : Ret C 231 [v] H fun q H' => q = ahY i (fdep f (d + 1) i) ∧ H' = H by
  obtain ⟨q, H', hc, rfl, rfl⟩ := hs
  exact hc
 rw [alY]
 obtain ⟨fs, hfs⟩ : ∃ fs, fs = f.drop i := ⟨_, rfl⟩
 have hfl : fs.length = f.length - i := by rw [hfs]; simp
 have hn0 : ¬ fs = [] := by intro h; rw [h] at hfl; simp at hfl; omega
 have hn0' : ¬ (fs.length : Int) = 0 := by omega
 have hx0 : fs[0]? = some x := by rw [hfs, List.getElem?_drop]; exact hx
 rw [← hfs] at h
 obtain ⟨id, o, e1, l0, l1, _, _, _, w4⟩ := nodes_idx h hx0
 have e1' := fun (e s b : Nat) (z : List V) (ty : Nat → LT) => e1 e s b z ty .i64
 have l1' := l1 []
 simp only [List.append_nil, Int.natCast_zero] at l1' e1'
 have hm : x.attr = [] ∧ x.value = [] ∧ 1 ≤ x.many ∧ x.many ≤ 20 ∧ (x.op = 3 → x.many = 1) := by
  rcases hok with ⟨_, a⟩ | ⟨a, _⟩ | ⟨a, _⟩
  ·exact a
  ·unfold PNode.Inner at hn; omega
  ·unfold PNode.Inner at hn; omega
 obtain ⟨m1, m2, m3, m4, m5⟩ := hm
 have m3' : ¬ x.many < 1 := by omega
 have m4' : ¬ 20 < x.many := by omega
 have hgoal : ahY i (fdep f (d + 1) i) = ahY i ((frep (fdep f d) x.many.toNat (i + 1, 0)).map fun p => (p.1, p.2 + 1)) := by
  show ahY i (match f[i]? with
   | none => none
   | some n => if dec (NodeOk n) = true then (frep (fdep f d) n.many.toNat (i + 1, 0)).map fun p => (p.1, p.2 + 1) else none) = _
  rw [hx]
  simp only [dec_pos hok, if_true]
 rw [hgoal]
 have hmn : x.many = (x.many.toNat : Int) := by omega
 have hmb : x.many.toNat ≤ 20 := by omega
 obtain ⟨mm, hmm⟩ : ∃ mm, mm = x.many.toNat := ⟨_, rfl⟩
 rw [← hmm] at hmn hmb ⊢
 rcases hn with ho | ho | ho
 ·simp [aae, Tryz.f231, fillL, zerosL, buildV, structPlace, h.len, hn0, hn0', e1', l1', ho, m1, m2, m3', m4']
  refine WP_loop (fun k σ => ∃ (p : Nat × Nat) (r : Nat → R), σ = ⟨r, 1, H⟩ ∧ r 0 = .val v ∧ r 5 = .val (.int .i64 ((p.1 - i : Nat) : Int)) ∧ r 6 = .val (.int .i64 (p.2 : Int)) ∧ r 50 = .val (.int .i64 (mm : Int)) ∧ k ≤ mm ∧ r 51 = .val (.int .i64 ((mm - k : Nat) : Int)) ∧ i < p.1 ∧ p.1 ≤ f.length ∧ p.2 ≤ d ∧ frep (fdep f d) k p = frep (fdep f d) mm (i + 1, 0)) ?_ mm _ ⟨(i + 1, 0), _, rfl, by simp, by simp, by simp, by simp [hmn], Nat.le_refl _, by simp, by simp, by simp; omega, by simp, rfl⟩
  rintro k σ ⟨p, r, rfl, r0, r5, r6, r50, hkm, r51, hip, hpl, hpd, hp⟩
  cases k with
  | zero =>
   have e1 : ¬ ((mm - 0 : Nat) : Int) < mm := by omega
   simp only [frep] at hp
   have hw : IntKind.i64.wrap ((p.2 : Int) + 1) = ((p.2 + 1 : Nat) : Int) := by rw [wrap_i64 (by omega) (by omega)]; omega
   simp [r0, r5, r6, r50, r51, ← hp, ahY, hw]
  | succ k =>
   have e1 : ((mm - (k + 1) : Nat) : Int) < mm := by omega
   have hw1 : IntKind.i64.wrap (((mm - (k + 1) : Nat) : Int) + 1) = ((mm - k : Nat) : Int) := by rw [wrap_i64 (by omega) (by omega)]; omega
   obtain ⟨ids, off, own, cells, hv, hcell, hd⟩ := h.drop (k := p.1 - i) (by omega) (by omega)
   have hdj : fs.drop (p.1 - i) = f.drop p.1 := by rw [hfs, List.drop_drop]; congr 1; omega
   rw [hdj] at hd
   have hst : strideIs H ids 4 = true := by simp [strideIs, hcell]
   have hsz : shNode.size = 4 := rfl
   rw [hsz] at hd
   have c2 := ih _ p.1 H hip hpl hd
   have hle : p.1 - i ≤ fs.length := by omega
   cases hsub : fdep f d p.1 with
   | none =>
    rw [hsub] at c2
    simp only [frep, hsub] at hp
    simp only [ahY] at c2
    simp [r0, r5, r6, r50, r51, e1, hv, hst, hle, c2, ← hp, ahY]
   | some q =>
    rw [hsub] at c2
    simp only [frep, hsub] at hp
    simp only [ahY] at c2
    have hq := fdep_some _ _ _ hsub
    have e2 : ¬ ((q.1 - p.1 : Nat) : Int) = 0 := by omega
    have e2' : ¬ (q.1 - p.1 : Nat) = 0 := by omega
    have hw2 : IntKind.i64.wrap (((p.1 - i : Nat) : Int) + ((q.1 - p.1 : Nat) : Int)) = ((q.1 - i : Nat) : Int) := by rw [wrap_i64 (by omega) (by omega)]; omega
    have hmx : maxV [.int .i64 (p.2 : Int), .int .i64 (q.2 : Int)] = some (.int .i64 ((max p.2 q.2 : Nat) : Int)) := by
     simp [maxV]
     omega
    simp [r0, r5, r6, r50, r51, e1, hv, hst, hle, c2, e2, e2', hw1, hw2, hmx]
    exact ⟨k, by omega, q.1, rfl, max p.2 q.2, rfl, by omega, rfl, by omega, by omega, by omega, hp⟩
 ·simp [aae, Tryz.f231, fillL, zerosL, buildV, structPlace, h.len, hn0, hn0', e1', l1', ho, m1, m2, m3', m4']
  refine WP_loop (fun k σ => ∃ (p : Nat × Nat) (r : Nat → R), σ = ⟨r, 1, H⟩ ∧ r 0 = .val v ∧ r 5 = .val (.int .i64 ((p.1 - i : Nat) : Int)) ∧ r 6 = .val (.int .i64 (p.2 : Int)) ∧ r 50 = .val (.int .i64 (mm : Int)) ∧ k ≤ mm ∧ r 51 = .val (.int .i64 ((mm - k : Nat) : Int)) ∧ i < p.1 ∧ p.1 ≤ f.length ∧ p.2 ≤ d ∧ frep (fdep f d) k p = frep (fdep f d) mm (i + 1, 0)) ?_ mm _ ⟨(i + 1, 0), _, rfl, by simp, by simp, by simp, by simp [hmn], Nat.le_refl _, by simp, by simp, by simp; omega, by simp, rfl⟩
  rintro k σ ⟨p, r, rfl, r0, r5, r6, r50, hkm, r51, hip, hpl, hpd, hp⟩
  cases k with
  | zero =>
   have e1 : ¬ ((mm - 0 : Nat) : Int) < mm := by omega
   simp only [frep] at hp
   have hw : IntKind.i64.wrap ((p.2 : Int) + 1) = ((p.2 + 1 : Nat) : Int) := by rw [wrap_i64 (by omega) (by omega)]; omega
   simp [r0, r5, r6, r50, r51, ← hp, ahY, hw]
  | succ k =>
   have e1 : ((mm - (k + 1) : Nat) : Int) < mm := by omega
   have hw1 : IntKind.i64.wrap (((mm - (k + 1) : Nat) : Int) + 1) = ((mm - k : Nat) : Int) := by rw [wrap_i64 (by omega) (by omega)]; omega
   obtain ⟨ids, off, own, cells, hv, hcell, hd⟩ := h.drop (k := p.1 - i) (by omega) (by omega)
   have hdj : fs.drop (p.1 - i) = f.drop p.1 := by rw [hfs, List.drop_drop]; congr 1; omega
   rw [hdj] at hd
   have hst : strideIs H ids 4 = true := by simp [strideIs, hcell]
   have hsz : shNode.size = 4 := rfl
   rw [hsz] at hd
   have c2 := ih _ p.1 H hip hpl hd
   have hle : p.1 - i ≤ fs.length := by omega
   cases hsub : fdep f d p.1 with
   | none =>
    rw [hsub] at c2
    simp only [frep, hsub] at hp
    simp only [ahY] at c2
    simp [r0, r5, r6, r50, r51, e1, hv, hst, hle, c2, ← hp, ahY]
   | some q =>
    rw [hsub] at c2
    simp only [frep, hsub] at hp
    simp only [ahY] at c2
    have hq := fdep_some _ _ _ hsub
    have e2 : ¬ ((q.1 - p.1 : Nat) : Int) = 0 := by omega
    have e2' : ¬ (q.1 - p.1 : Nat) = 0 := by omega
    have hw2 : IntKind.i64.wrap (((p.1 - i : Nat) : Int) + ((q.1 - p.1 : Nat) : Int)) = ((q.1 - i : Nat) : Int) := by rw [wrap_i64 (by omega) (by omega)]; omega
    have hmx : maxV [.int .i64 (p.2 : Int), .int .i64 (q.2 : Int)] = some (.int .i64 ((max p.2 q.2 : Nat) : Int)) := by
     simp [maxV]
     omega
    simp [r0, r5, r6, r50, r51, e1, hv, hst, hle, c2, e2, e2', hw1, hw2, hmx]
    exact ⟨k, by omega, q.1, rfl, max p.2 q.2, rfl, by omega, rfl, by omega, by omega, by omega, hp⟩
 ·have m5' := m5 ho
  simp [aae, Tryz.f231, fillL, zerosL, buildV, structPlace, h.len, hn0, hn0', e1', l1', ho, m1, m2, m5']
  refine WP_loop (fun k σ => ∃ (p : Nat × Nat) (r : Nat → R), σ = ⟨r, 1, H⟩ ∧ r 0 = .val v ∧ r 5 = .val (.int .i64 ((p.1 - i : Nat) : Int)) ∧ r 6 = .val (.int .i64 (p.2 : Int)) ∧ r 50 = .val (.int .i64 (mm : Int)) ∧ k ≤ mm ∧ r 51 = .val (.int .i64 ((mm - k : Nat) : Int)) ∧ i < p.1 ∧ p.1 ≤ f.length ∧ p.2 ≤ d ∧ frep (fdep f d) k p = frep (fdep f d) mm (i + 1, 0)) ?_ mm _ ⟨(i + 1, 0), _, rfl, by simp, by simp, by simp, by simp; omega, Nat.le_refl _, by simp, by simp, by simp; omega, by simp, rfl⟩
  rintro k σ ⟨p, r, rfl, r0, r5, r6, r50, hkm, r51, hip, hpl, hpd, hp⟩
  cases k with
  | zero =>
   have e1 : ¬ ((mm - 0 : Nat) : Int) < mm := by omega
   simp only [frep] at hp
   have hw : IntKind.i64.wrap ((p.2 : Int) + 1) = ((p.2 + 1 : Nat) : Int) := by rw [wrap_i64 (by omega) (by omega)]; omega
   simp [r0, r5, r6, r50, r51, ← hp, ahY, hw]
  | succ k =>
   have e1 : ((mm - (k + 1) : Nat) : Int) < mm := by omega
   have hw1 : IntKind.i64.wrap (((mm - (k + 1) : Nat) : Int) + 1) = ((mm - k : Nat) : Int) := by rw [wrap_i64 (by omega) (by omega)]; omega
   obtain ⟨ids, off, own, cells, hv, hcell, hd⟩ := h.drop (k := p.1 - i) (by omega) (by omega)
   have hdj : fs.drop (p.1 - i) = f.drop p.1 := by rw [hfs, List.drop_drop]; congr 1; omega
   rw [hdj] at hd
   have hst : strideIs H ids 4 = true := by simp [strideIs, hcell]
   have hsz : shNode.size = 4 := rfl
   rw [hsz] at hd
   have c2 := ih _ p.1 H hip hpl hd
   have hle : p.1 - i ≤ fs.length := by omega
   cases hsub : fdep f d p.1 with
   | none =>
    rw [hsub] at c2
    simp only [frep, hsub] at hp
    simp only [ahY] at c2
    simp [r0, r5, r6, r50, r51, e1, hv, hst, hle, c2, ← hp, ahY]
   | some q =>
    rw [hsub] at c2
    simp only [frep, hsub] at hp
    simp only [ahY] at c2
    have hq := fdep_some _ _ _ hsub
    have e2 : ¬ ((q.1 - p.1 : Nat) : Int) = 0 := by omega
    have e2' : ¬ (q.1 - p.1 : Nat) = 0 := by omega
    have hw2 : IntKind.i64.wrap (((p.1 - i : Nat) : Int) + ((q.1 - p.1 : Nat) : Int)) = ((q.1 - i : Nat) : Int) := by rw [wrap_i64 (by omega) (by omega)]; omega
    have hmx : maxV [.int .i64 (p.2 : Int), .int .i64 (q.2 : Int)] = some (.int .i64 ((max p.2 q.2 : Nat) : Int)) := by
     simp [maxV]
     omega
    simp [r0, r5, r6, r50, r51, e1, hv, hst, hle, c2, e2, e2', hw1, hw2, hmx]
    exact ⟨k, by omega, q.1, rfl, max p.2 q.2, rfl, by omega, rfl, by omega, by omega, by omega, hp⟩
theorem asZ {f : List PNode} {i : Nat} {x : PNode} (hx : f[i]? = some x) (d : Nat) (h : ¬ x.Inner) : fdep f (d + 1) i = if dec (NodeOk x) = true then some (i + 1, 1) else none := by
 show (match f[i]? with
   | none => none
   | some n => if dec (NodeOk n) = true then (frep (fdep f d) n.many.toNat (i + 1, 0)).map fun (p : Nat × Nat) => (p.1, p.2 + 1) else none) = _
 rw [hx]
 by_cases hok : NodeOk x
 ·have hm : x.many = 0 := by
   rcases hok with ⟨a, _⟩ | ⟨_, _, _, a⟩ | ⟨_, _, _, a⟩
   ·exact absurd a h
   ·exact a
   ·exact a
  simp only [dec_pos hok, if_true, hm]
  rfl
 ·simp only [dec_neg hok, Bool.false_eq_true, if_false]
theorem arb {f : List PNode} {i : Nat} {x : PNode} (hx : f[i]? = some x) (d : Nat) (h : ¬ NodeOk x) : fdep f (d + 1) i = none := by
 show (match f[i]? with
   | none => none
   | some n => if dec (NodeOk n) = true then (frep (fdep f d) n.many.toNat (i + 1, 0)).map fun (p : Nat × Nat) => (p.1, p.2 + 1) else none) = _
 rw [hx]
 simp only [dec_neg h, Bool.false_eq_true, if_false]
theorem anG {v : V} {f : List PNode} {H : List Ob} (d i : Nat) (hi : i < f.length) {x : PNode} (hx : f[i]? = some x) (h : ANodes H v (f.drop i)) (hn : x.op = 4 ∨ x.op = 5 ∨ x.op = 6 ∨ x.op = 7 ∨ x.op = 8) :
  callW C 231 [v] H = some (ahY i (fdep f (d + 1) i), H) := by
 suffices hs : Ret C 231 [v] H fun q H' => q = ahY i (fdep f (d + 1) i) ∧ H' = H by
  obtain ⟨q, H', hc, rfl, rfl⟩ := hs
  exact hc
 rw [alY]
 obtain ⟨fs, hfs⟩ : ∃ fs, fs = f.drop i := ⟨_, rfl⟩
 have hfl : fs.length = f.length - i := by rw [hfs]; simp
 have hn0 : ¬ fs = [] := by intro h; rw [h] at hfl; simp at hfl; omega
 have hn0' : ¬ (fs.length : Int) = 0 := by omega
 have hx0 : fs[0]? = some x := by rw [hfs, List.getElem?_drop]; exact hx
 rw [← hfs] at h
 obtain ⟨id, o, e1, l0, l1, _, _, _, w4⟩ := nodes_idx h hx0
 have e1' := fun (e s b : Nat) (z : List V) (ty : Nat → LT) => e1 e s b z ty .i64
 have l1' := l1 []
 simp only [List.append_nil, Int.natCast_zero] at l1' e1'
 have hni : ¬ x.Inner := by unfold PNode.Inner; omega
 rw [asZ hx d hni]
 have c2 := ajo (t := x.attr) (H := H)
 have c3 := akf (t := x.value) (H := H)
 have hok : NodeOk x ↔ x.many = 0 ∧ NameOk x.attr ∧ (x.op = 5 ∧ x.value = [] ∨ x.op ≠ 5 ∧ ValueOk x.value) := by
  unfold NodeOk
  constructor
  ·rintro (⟨a, _⟩ | ⟨a, b, c, d⟩ | ⟨a, b, c, d⟩)
   ·exact absurd a hni
   ·exact ⟨d, b, .inl ⟨a, c⟩⟩
   ·exact ⟨d, b, .inr ⟨by omega, c⟩⟩
  ·rintro ⟨a, b, ⟨c, d⟩ | ⟨c, d⟩⟩
   ·exact .inr (.inl ⟨c, b, d, a⟩)
   ·exact .inr (.inr ⟨by omega, b, d, a⟩)
 have hvn : ∀ (b : Bool), (b = true ↔ NodeOk x) → dec (NodeOk x) = b := by
  intro b hb
  cases b
  ·exact dec_neg (fun h => by have := hb.2 h; simp at this)
  ·exact dec_pos (hb.1 rfl)
 by_cases hv : x.op = 5 ∧ x.value = [] ∨ x.op ≠ 5 ∧ ValueOk x.value
 rotate_left
 ·rw [dec_neg (fun h => hv (hok.1 h).2.2)]
  by_cases o5 : x.op = 5
  ·have g2 : ¬ x.value = [] := fun h => hv (.inl ⟨o5, h⟩)
   have e2 : List.isEmpty x.value = false := by simpa using g2
   simp [aae, Tryz.f231, fillL, zerosL, buildV, structPlace, h.len, hn0, hn0', e1', l1', o5, g2, e2, ahY]
  ·have g2 : ¬ ValueOk x.value := fun h => hv (.inr ⟨o5, h⟩)
   rw [dec_neg g2] at c3
   rcases hn with o4 | o4 | o4 | o4 | o4
   ·simp [aae, Tryz.f231, fillL, zerosL, buildV, structPlace, h.len, hn0, hn0', e1', l1', o4, c3, ahY]
   ·exact absurd o4 o5
   ·simp [aae, Tryz.f231, fillL, zerosL, buildV, structPlace, h.len, hn0, hn0', e1', l1', o4, c3, ahY]
   ·simp [aae, Tryz.f231, fillL, zerosL, buildV, structPlace, h.len, hn0, hn0', e1', l1', o4, c3, ahY]
   ·simp [aae, Tryz.f231, fillL, zerosL, buildV, structPlace, h.len, hn0, hn0', e1', l1', o4, c3, ahY]
 by_cases hm : x.many = 0
 rotate_left
 ·rw [dec_neg (fun h => hm (hok.1 h).1)]
  rcases hv with ⟨o5, hv⟩ | ⟨o5, hv⟩
  ·simp [aae, Tryz.f231, fillL, zerosL, buildV, structPlace, h.len, hn0, hn0', e1', l1', o5, hv, hm, ahY]
  ·rw [dec_pos hv] at c3
   rcases hn with o4 | o4 | o4 | o4 | o4
   ·simp [aae, Tryz.f231, fillL, zerosL, buildV, structPlace, h.len, hn0, hn0', e1', l1', o4, c3, hm, ahY]
   ·exact absurd o4 o5
   ·simp [aae, Tryz.f231, fillL, zerosL, buildV, structPlace, h.len, hn0, hn0', e1', l1', o4, c3, hm, ahY]
   ·simp [aae, Tryz.f231, fillL, zerosL, buildV, structPlace, h.len, hn0, hn0', e1', l1', o4, c3, hm, ahY]
   ·simp [aae, Tryz.f231, fillL, zerosL, buildV, structPlace, h.len, hn0, hn0', e1', l1', o4, c3, hm, ahY]
 by_cases g1 : NameOk x.attr
 ·rw [dec_pos g1] at c2
  rw [dec_pos (hok.2 ⟨hm, g1, hv⟩)]
  rcases hv with ⟨o5, hv⟩ | ⟨o5, hv⟩
  ·simp [aae, Tryz.f231, fillL, zerosL, buildV, structPlace, h.len, hn0, hn0', e1', l1', o5, hv, hm, c2, ahY]
  ·rw [dec_pos hv] at c3
   rcases hn with o4 | o4 | o4 | o4 | o4
   ·simp [aae, Tryz.f231, fillL, zerosL, buildV, structPlace, h.len, hn0, hn0', e1', l1', o4, c3, hm, c2, ahY]
   ·exact absurd o4 o5
   ·simp [aae, Tryz.f231, fillL, zerosL, buildV, structPlace, h.len, hn0, hn0', e1', l1', o4, c3, hm, c2, ahY]
   ·simp [aae, Tryz.f231, fillL, zerosL, buildV, structPlace, h.len, hn0, hn0', e1', l1', o4, c3, hm, c2, ahY]
   ·simp [aae, Tryz.f231, fillL, zerosL, buildV, structPlace, h.len, hn0, hn0', e1', l1', o4, c3, hm, c2, ahY]
 ·rw [dec_neg g1] at c2
  rw [dec_neg (fun h => g1 (hok.1 h).2.1)]
  rcases hv with ⟨o5, hv⟩ | ⟨o5, hv⟩
  ·simp [aae, Tryz.f231, fillL, zerosL, buildV, structPlace, h.len, hn0, hn0', e1', l1', o5, hv, hm, c2, ahY]
  ·rw [dec_pos hv] at c3
   rcases hn with o4 | o4 | o4 | o4 | o4
   ·simp [aae, Tryz.f231, fillL, zerosL, buildV, structPlace, h.len, hn0, hn0', e1', l1', o4, c3, hm, c2, ahY]
   ·exact absurd o4 o5
   ·simp [aae, Tryz.f231, fillL, zerosL, buildV, structPlace, h.len, hn0, hn0', e1', l1', o4, c3, hm, c2, ahY]
   ·simp [aae, Tryz.f231, fillL, zerosL, buildV, structPlace, h.len, hn0, hn0', e1', l1', o4, c3, hm, c2, ahY]
   ·simp [aae, Tryz.f231, fillL, zerosL, buildV, structPlace, h.len, hn0, hn0', e1', l1', o4, c3, hm, c2, ahY]
theorem apQ {v : V} {f : List PNode} {H : List Ob} (d i : Nat) (hi : i < f.length) {x : PNode} (hx : f[i]? = some x) (h : ANodes H v (f.drop i)) (hn : x.Inner) (hb : ¬ NodeOk x) :
  callW C 231 [v] H = some (ahY i (fdep f (d + 1) i), H) := by
 suffices hs : Ret C 231 [v] H fun q H' => q = ahY i (fdep f (d + 1) i) ∧ H' = H by
  obtain ⟨q, H', hc, rfl, rfl⟩ := hs
  exact hc
 rw [alY]
 obtain ⟨fs, hfs⟩ : ∃ fs, fs = f.drop i := ⟨_, rfl⟩
 have hfl : fs.length = f.length - i := by rw [hfs]; simp
 have hn0 : ¬ fs = [] := by intro h; rw [h] at hfl; simp at hfl; omega
 have hn0' : ¬ (fs.length : Int) = 0 := by omega
 have hx0 : fs[0]? = some x := by rw [hfs, List.getElem?_drop]; exact hx
 rw [← hfs] at h
 obtain ⟨id, o, e1, l0, l1, _, _, _, w4⟩ := nodes_idx h hx0
 have e1' := fun (e s b : Nat) (z : List V) (ty : Nat → LT) => e1 e s b z ty .i64
 have l1' := l1 []
 simp only [List.append_nil, Int.natCast_zero] at l1' e1'
 rw [arb hx d hb]
 by_cases g1 : x.attr = []
 rotate_left
 ·have e1 : List.isEmpty x.attr = false := by simpa using g1
  rcases hn with ho | ho | ho <;> simp [aae, Tryz.f231, fillL, zerosL, buildV, structPlace, h.len, hn0, hn0', e1', l1', ho, g1, e1, ahY]
 by_cases g2 : x.value = []
 rotate_left
 ·have e2 : List.isEmpty x.value = false := by simpa using g2
  rcases hn with ho | ho | ho <;> simp [aae, Tryz.f231, fillL, zerosL, buildV, structPlace, h.len, hn0, hn0', e1', l1', ho, g1, g2, e2, ahY]
 by_cases g3 : x.many < 1
 ·rcases hn with ho | ho | ho <;> simp [aae, Tryz.f231, fillL, zerosL, buildV, structPlace, h.len, hn0, hn0', e1', l1', ho, g1, g2, g3, ahY]
 by_cases g4 : 20 < x.many
 ·by_cases g5 : x.many = 1
  ·omega
  ·rcases hn with ho | ho | ho <;> simp [aae, Tryz.f231, fillL, zerosL, buildV, structPlace, h.len, hn0, hn0', e1', l1', ho, g1, g2, g3, g4, g5, ahY]
 by_cases o3 : x.op = 3
 ·by_cases g5 : x.many = 1
  ·exact absurd (.inl ⟨hn, g1, g2, by omega, by omega, fun _ => g5⟩) hb
  ·simp [aae, Tryz.f231, fillL, zerosL, buildV, structPlace, h.len, hn0, hn0', e1', l1', o3, g1, g2, g3, g4, g5, ahY]
 ·exact absurd (.inl ⟨hn, g1, g2, by omega, by omega, fun h => absurd h o3⟩) hb
theorem apK {v : V} {f : List PNode} {H : List Ob} (d i : Nat) (hi : i < f.length) {x : PNode} (hx : f[i]? = some x) (h : ANodes H v (f.drop i)) (hn : ¬ x.Inner) (ho : ¬ (x.op = 4 ∨ x.op = 5 ∨ x.op = 6 ∨ x.op = 7 ∨ x.op = 8)) (hb : ¬ NodeOk x) :
  callW C 231 [v] H = some (ahY i (fdep f (d + 1) i), H) := by
 suffices hs : Ret C 231 [v] H fun q H' => q = ahY i (fdep f (d + 1) i) ∧ H' = H by
  obtain ⟨q, H', hc, rfl, rfl⟩ := hs
  exact hc
 rw [alY]
 obtain ⟨fs, hfs⟩ : ∃ fs, fs = f.drop i := ⟨_, rfl⟩
 have hfl : fs.length = f.length - i := by rw [hfs]; simp
 have hn0 : ¬ fs = [] := by intro h; rw [h] at hfl; simp at hfl; omega
 have hn0' : ¬ (fs.length : Int) = 0 := by omega
 have hx0 : fs[0]? = some x := by rw [hfs, List.getElem?_drop]; exact hx
 rw [← hfs] at h
 obtain ⟨id, o, e1, l0, l1, _, _, _, w4⟩ := nodes_idx h hx0
 have e1' := fun (e s b : Nat) (z : List V) (ty : Nat → LT) => e1 e s b z ty .i64
 have l1' := l1 []
 simp only [List.append_nil, Int.natCast_zero] at l1' e1'
 rw [arb hx d hb]
 unfold PNode.Inner at hn
 obtain ⟨o1, o2, o3⟩ : ¬ x.op = 1 ∧ ¬ x.op = 2 ∧ ¬ x.op = 3 := ⟨fun h => hn (.inl h), fun h => hn (.inr (.inl h)), fun h => hn (.inr (.inr h))⟩
 obtain ⟨o4, o5, o6, o7, o8⟩ : ¬ x.op = 4 ∧ ¬ x.op = 5 ∧ ¬ x.op = 6 ∧ ¬ x.op = 7 ∧ ¬ x.op = 8 := by omega
 simp [aae, Tryz.f231, fillL, zerosL, buildV, structPlace, h.len, hn0, hn0', e1', l1', o1, o2, o3, o4, o5, o6, o7, o8, ahY]
theorem apN {f : List PNode} (hl : f.length ≤ 100) : ∀ (d : Nat) (v : V) (i : Nat) (H : List Ob), d ≤ 100 → i ≤ f.length → f.length - i ≤ d → ANodes H v (f.drop i) →
  callW C 231 [v] H = some (ahY i (fdep f d i), H) := by
 intro d
 induction d with
 | zero =>
  intro v i H hd hi hfi h
  suffices hs : Ret C 231 [v] H fun q H' => q = ahY i (fdep f 0 i) ∧ H' = H by
   obtain ⟨q, H', hc, rfl, rfl⟩ := hs
   exact hc
  rw [alY]
  have he : f.drop i = [] := by simp; omega
  rw [he] at h
  have hlen := h.len (e := 226) (s := 1) (b := 24) (z := [.slc none 0])
  simp [aae, Tryz.f231, h.len, ahY, fdep]
 | succ d ih =>
  intro v i H hd hi hfi h
  rcases Nat.lt_or_ge i f.length with g | g
  rotate_left
  ·suffices hs : Ret C 231 [v] H fun q H' => q = ahY i (fdep f (d + 1) i) ∧ H' = H by
    obtain ⟨q, H', hc, rfl, rfl⟩ := hs
    exact hc
   rw [alY]
   have he : f.drop i = [] := by simp; omega
   rw [he] at h
   simp [aae, Tryz.f231, h.len, ahY, fdep, List.getElem?_eq_none g]
  obtain ⟨x, hx⟩ : ∃ c, f[i]? = some c := ⟨f[i], by simp [g]⟩
  by_cases hn : x.Inner
  ·by_cases hok : NodeOk x
   ·exact aqJ d i g hl (by omega) hx h hn hok fun w j G h1 h2 h3 => ih w j G (by omega) h2 (by omega) h3
   ·exact apQ d i g hx h hn hok
  ·by_cases hop : x.op = 4 ∨ x.op = 5 ∨ x.op = 6 ∨ x.op = 7 ∨ x.op = 8
   ·exact anG d i g hx h hop
   ·have hok : ¬ NodeOk x := by
     rintro (⟨a, _⟩ | ⟨a, _⟩ | ⟨a, _⟩)
     ·exact hn a
     ·omega
     ·omega
    exact apK d i g hx h hn hop hok
theorem alR {v : V} {f : List PNode} {H : List Ob} (h : ANodes H v f) : callW C 144 [v] H = some (.bool (dec (FilterOk f)), H) := by
 apply Ret.dec
 rw [axE]
 by_cases g : f.length ≤ 20
 rotate_left
 ·have g' : (20 : Int) < f.length := by omega
  simp [ajJ, Tryz.f144, h.len, g']
  exact fun h => g h.1
 have g' : ¬ (20 : Int) < f.length := by omega
 have c1 := apN (f := f) (by omega) 20 v 0 H (by omega) (by omega) (by omega) h
 rw [filter_ok]
 cases hf : fdep f 20 0 with
 | none =>
  rw [hf] at c1
  simp only [ahY] at c1
  simp [ajJ, Tryz.f144, h.len, g', c1]
 | some q =>
  rw [hf] at c1
  simp only [ahY, Nat.sub_zero] at c1
  have hq := fdep_some _ _ _ hf
  have h0 : 0 < q.1 := by omega
  by_cases e : q.1 = f.length
  ·have h1 : 0 < f.length := by omega
   by_cases e5 : q.2 ≤ 5
   ·have e5' : (q.2 : Int) ≤ 5 := by omega
    simp [ajJ, Tryz.f144, h.len, g', c1, e, h1, e5']
    exact ⟨g, q.2, by rw [← e], e5⟩
   ·have e5' : ¬ (q.2 : Int) ≤ 5 := by omega
    simp [ajJ, Tryz.f144, h.len, g', c1, e, h1, e5']
    intro _ x hx
    rw [hx] at e5
    exact Nat.lt_of_not_le e5
  ·have e' : ¬ (q.1 : Int) = f.length := by omega
   simp [ajJ, Tryz.f144, h.len, g', c1, e, e', h0]
   intro _ x hx
   rw [hx] at e
   exact absurd rfl e
theorem asT {n : PNode} {H : List Ob} : callW C 220 [.agg n.cs] H = some (.bool (dec n.Inner), H) := by
 apply Ret.dec
 rw [avA]
 unfold PNode.Inner
 by_cases o1 : n.op = 1
 ·simp [ake, Tryz.f220, o1]
 by_cases o2 : n.op = 2
 ·simp [ake, Tryz.f220, o2]
 by_cases o3 : n.op = 3
 ·simp [ake, Tryz.f220, o3]
 ·simp [ake, Tryz.f220, o1, o2, o3]
def avz (n : Int) : Int := if n = 0 then 1 else if n = 1 then 0 else 2

def Tri (x : Int) : Prop := x = 0 ∨ x = 1 ∨ x = 2
theorem Tri.not {x : Int} (h : Tri x) : Tri (avz x) := by
 rcases h with rfl | rfl | rfl <;> simp [Tri, avz]

def ints (xs : List Int) : List V := xs.map fun x => .int .i64 x
theorem anl {xs : List Int} : (ints xs).length = xs.length := by simp [ints]
def Is (H G : List Ob) (v : V) (b : List Int) : Prop := ∃ T id, G = H ++ T ∧ H.length ≤ id ∧ G[id]? = some (.mk true 1 (ints b)) ∧ v = .slc (some (id, 0)) b.length
theorem Is.init {H : List Ob} : Is H (H ++ [.mk true 1 []]) (.slc (some (H.length, 0)) 0) [] := ⟨_, H.length, rfl, Nat.le_refl _, by simp [ints], rfl⟩
theorem Is.push {H G : List Ob} {v : V} {b : List Int} (h : Is H G v b) (hb : b.length ≤ 1000) {c : Int} {z : List V} {d : LD} (hz : z.length = 1) : ∃ v' G', appendV ⟨d, 1, 8, z⟩ (G ++ [.mk true 1 [.int .i64 c]]) v (.slc (some (G.length, 0)) 1) = some (v', G') ∧ Is H G' v' (b ++ [c]) := by
 obtain ⟨T, id, rfl, h1, h2, rfl⟩ := h
 have hid : id < (H ++ T).length := (List.getElem?_eq_some_iff.1 h2).1
 have hid' : id < H.length + T.length := by simpa using hid
 have hg : (H ++ T ++ [Ob.mk true 1 [.int .i64 c]])[id]? = some (.mk true 1 (ints b)) := by rw [List.getElem?_append_left hid]; exact h2
 have hnew : newCells ⟨d, 1, 8, z⟩ (H ++ T ++ [Ob.mk true 1 [.int .i64 c]]) (.slc (some ((H ++ T).length, 0)) 1) = some ([.int .i64 c], 1) := by
  simp only [newCells, Nat.mul_one, slcCells, get_last]
  rfl
 refine ⟨.slc (some ((H ++ T ++ [Ob.mk true 1 [.int .i64 c]]).length, 0)) (b.length + 1), (H ++ T ++ [Ob.mk true 1 [.int .i64 c]]).set id .dead ++ [.mk true 1 (ints b ++ [.int .i64 c])], ?_, ?_⟩
 ·unfold appendV
  rw [if_pos (by simp [growOk, hz]), hnew]
  simp only [Nat.one_ne_zero, if_false, List.all_cons, List.all_nil, isOne_int, Bool.and_true, if_true, hg]
  have e1 : ¬ (0 + (b.length + 1) * 1 ≤ (ints b).length) := by rw [anl]; omega
  have e2 : (0 + b.length * 1 = (ints b).length ∨ b.length = 0 ∧ (ints b).length ≤ 0) ∧ (b.length + 1) * 8 ≤ maxMade := ⟨.inl (by rw [anl]; simp), by unfold maxMade; omega⟩
  rw [if_neg e1, if_pos e2, List.drop_zero]
 ·refine ⟨T.set (id - H.length) .dead ++ [.mk true 1 [.int .i64 c]] ++ [.mk true 1 (ints b ++ [.int .i64 c])], (H ++ T ++ [Ob.mk true 1 [.int .i64 c]]).length, ?_, by simp only [List.length_append]; omega, ?_, by simp⟩
  ·rw [List.append_assoc H T, List.set_append_right _ _ h1, List.set_append_left _ _ (by omega)]
   simp
  ·have hl : ((H ++ T ++ [Ob.mk true 1 [V.int .i64 c]]).set id .dead).length = (H ++ T ++ [Ob.mk true 1 [V.int .i64 c]]).length := List.length_set
   rw [← hl, get_last]
   simp [ints]

def aiw (op : Int) : Int := if op = 1 ∨ op = 2 then 0 else if op = 3 ∨ op = 4 ∨ op = 7 then 1 else if op = 5 ∨ op = 6 then 2 else -1
theorem aqe {n : Int} {H : List Ob} : callW C 285 [.int .i64 n] H = some (.int .i64 (aiw n), H) := by
 suffices hs : Ret C 285 [.int .i64 n] H fun q H' => q = .int .i64 (aiw n) ∧ H' = H by
  obtain ⟨q, H', hc, rfl, rfl⟩ := hs
  exact hc
 rw [avK]
 unfold aiw
 by_cases o1 : n = 1
 ·simp [aiT, Tryz.f285, o1]
 by_cases o2 : n = 2
 ·simp [aiT, Tryz.f285, o2]
 by_cases o3 : n = 3
 ·simp [aiT, Tryz.f285, o3]
 by_cases o4 : n = 4
 ·simp [aiT, Tryz.f285, o4]
 by_cases o5 : n = 5
 ·simp [aiT, Tryz.f285, o5]
 by_cases o6 : n = 6
 ·simp [aiT, Tryz.f285, o6]
 by_cases o7 : n = 7
 ·simp [aiT, Tryz.f285, o7]
 ·simp [aiT, Tryz.f285, o1, o2, o3, o4, o5, o6, o7]
theorem alM {n : Int} {H : List Ob} : callW C 295 [.int .i64 n] H = some (.int .i64 (aiw n), H) := by
 suffices hs : Ret C 295 [.int .i64 n] H fun q H' => q = .int .i64 (aiw n) ∧ H' = H by
  obtain ⟨q, H', hc, rfl, rfl⟩ := hs
  exact hc
 rw [awj]
 unfold aiw
 by_cases o1 : n = 1
 ·simp [aiR, Tryz.f295, o1]
 by_cases o2 : n = 2
 ·simp [aiR, Tryz.f295, o2]
 by_cases o3 : n = 3
 ·simp [aiR, Tryz.f295, o3]
 by_cases o4 : n = 4
 ·simp [aiR, Tryz.f295, o4]
 by_cases o5 : n = 5
 ·simp [aiR, Tryz.f295, o5]
 by_cases o6 : n = 6
 ·simp [aiR, Tryz.f295, o6]
 by_cases o7 : n = 7
 ·simp [aiR, Tryz.f295, o7]
 ·simp [aiR, Tryz.f295, o1, o2, o3, o4, o5, o6, o7]
theorem aum {p : PPart} {H : List Ob} : callW C 284 [.agg p.cs] H = some (.bool (dec (PartOk p)), H) := by
 apply Ret.dec
 rw [axZ]
 have c1 := aqe (n := p.op) (H := H)
 have c2 := alz (n := p.n) (a := 0) (b := 40) (H := H)
 have c3 := aja (t := p.text) (H := H)
 unfold PartOk
 by_cases g : aiw p.op < 0
 ·have hno : ¬ (1 ≤ p.op ∧ p.op ≤ 7) := by
   unfold aiw at g
   intro h
   split at g <;> try omega
  simp [aio, Tryz.f284, c1, g]
  exact fun a b => absurd ⟨a, b⟩ hno
 have hop : 1 ≤ p.op ∧ p.op ≤ 7 := by
  unfold aiw at g
  split at g <;> try omega
 by_cases g2 : 0 ≤ p.n ∧ p.n ≤ 40
 rotate_left
 ·rw [dec_neg g2] at c2
  by_cases o7 : p.op = 7
  ·have g7 : ¬ aiw 7 < 0 := by decide
   rw [o7] at c1
   simp [aio, Tryz.f284, c1, g7, o7, c2]
   omega
  ·by_cases n0 : p.n = 0
   ·omega
   ·simp [aio, Tryz.f284, c1, g, o7, c2, n0]
 rw [dec_pos g2] at c2
 by_cases hn : p.op = 7 ∨ p.n = 0
 rotate_left
 ·obtain ⟨o7, n0⟩ : ¬ p.op = 7 ∧ ¬ p.n = 0 := ⟨fun h => hn (.inl h), fun h => hn (.inr h)⟩
  simp [aio, Tryz.f284, c1, g, o7, n0]
 by_cases o1 : p.op = 1
 ·have g1 : ¬ aiw 1 < 0 := by decide
  have n0 : p.n = 0 := by omega
  rw [o1] at c1
  by_cases h4 : p.text.length ≤ 40
  ·have c4 := ala (t := p.text) (H := H) (by omega)
   have h4' : (p.text.length : Int) ≤ 40 := by omega
   by_cases hp : Plain p.text
   ·rw [dec_pos hp] at c4
    rw [n0] at c2
    simp [aio, Tryz.f284, c1, g1, o1, n0, c2, h4', h4, c4, hp]
   ·rw [dec_neg hp] at c4
    rw [n0] at c2
    simp [aio, Tryz.f284, c1, g1, o1, n0, c2, h4', h4, c4, hp]
  ·have h4' : ¬ (p.text.length : Int) ≤ 40 := by omega
   rw [n0] at c2
   simp [aio, Tryz.f284, c1, g1, o1, n0, c2, h4', h4]
 by_cases o2 : p.op = 2
 ·have g1 : ¬ aiw 2 < 0 := by decide
  have n0 : p.n = 0 := by omega
  rw [o2] at c1
  rw [n0] at c2
  by_cases hp : NameOk p.text
  ·rw [dec_pos hp] at c3
   simp [aio, Tryz.f284, c1, g1, o2, n0, c2, c3, hp]
  ·rw [dec_neg hp] at c3
   simp [aio, Tryz.f284, c1, g1, o2, n0, c2, c3, hp]
 have h3 : 3 ≤ p.op := by omega
 by_cases o7 : p.op = 7
 ·have g1 : ¬ aiw 7 < 0 := by decide
  rw [o7] at c1
  by_cases ht : p.text = []
  ·simp [aio, Tryz.f284, c1, g1, o7, c2, ht]
   omega
  ·have e2 : List.isEmpty p.text = false := by simpa using ht
   simp [aio, Tryz.f284, c1, g1, o7, c2, ht, e2]
 ·have n0 : p.n = 0 := by omega
  rw [n0] at c2
  by_cases ht : p.text = []
  ·simp [aio, Tryz.f284, c1, g, o1, o2, o7, n0, c2, ht]
   omega
  ·have e2 : List.isEmpty p.text = false := by simpa using ht
   simp [aio, Tryz.f284, c1, g, o1, o2, o7, n0, c2, ht, e2, h3]
theorem aoW {p : PPart} (h : PartOk p) : aiw p.op = (p.many : Int) := by
 obtain ⟨h1, h2, _⟩ := h
 unfold aiw PPart.many
 by_cases o1 : p.op = 1
 ·simp [o1]
 by_cases o2 : p.op = 2
 ·simp [o2]
 by_cases o3 : p.op = 3
 ·simp [o3]
 by_cases o4 : p.op = 4
 ·simp [o4]
 by_cases o5 : p.op = 5
 ·simp [o5]
 by_cases o6 : p.op = 6
 ·simp [o6]
 ·have o7 : p.op = 7 := by omega
  simp [o7]
theorem arO {v : V} {f : List PPart} {H : List Ob} (h : AParts H v f) (hl : f.length ≤ 12) : ∀ d i : Nat, d ≤ 5 → i ≤ f.length →
  callW C 219 [v, .int .i64 i, .int .i64 (6 - d : Nat)] H = some (.int .i64 (aie (xdep f d i)), H)
 | 0, i, hd, hi => by
  suffices hs : Ret C 219 [v, .int .i64 i, .int .i64 (6 - 0 : Nat)] H fun q H' => q = .int .i64 (aie (xdep f 0 i)) ∧ H' = H by
   obtain ⟨q, H', hc, rfl, rfl⟩ := hs
   exact hc
  rw [as4]
  by_cases g : i < f.length
  ·have g' : ¬ (f.length : Int) ≤ i := by omega
   simp [ajF, Tryz.f219, h.len, g', aie, xdep]
  ·have g' : (f.length : Int) ≤ i := by omega
   simp [ajF, Tryz.f219, h.len, g', aie, xdep]
 | d + 1, i, hd, hi => by
  suffices hs : Ret C 219 [v, .int .i64 i, .int .i64 (6 - (d + 1) : Nat)] H fun q H' => q = .int .i64 (aie (xdep f (d + 1) i)) ∧ H' = H by
   obtain ⟨q, H', hc, rfl, rfl⟩ := hs
   exact hc
  rw [as4]
  have hdp : ¬ (5 : Int) < (6 - (d + 1) : Nat) := by omega
  have hdw : IntKind.i64.wrap (((6 - (d + 1) : Nat) : Int) + 1) = ((6 - d : Nat) : Int) := by rw [wrap_i64 (by omega) (by omega)]; omega
  generalize hdd : ((6 - (d + 1) : Nat) : Int) = dd at hdp hdw
  rcases Nat.lt_or_ge i f.length with g | g
  rotate_left
  ·have g' : (f.length : Int) ≤ i := by omega
   simp [ajF, Tryz.f219, h.len, g', aie, xdep, List.getElem?_eq_none g, hdd]
  have g' : ¬ (f.length : Int) ≤ i := by omega
  obtain ⟨x, hx⟩ : ∃ c, f[i]? = some c := ⟨f[i], by simp [g]⟩
  obtain ⟨id, o, e1, l0, l1, _, _, w4⟩ := parts_idx h hx
  have l0' := l0 []
  have l1' := l1 []
  simp only [List.append_nil] at l0' l1'
  have c1 := aum (p := x) (H := H)
  by_cases g1 : PartOk x
  rotate_left
  ·rw [dec_neg g1] at c1
   simp [ajF, Tryz.f219, h.len, g', hdp, e1, l1', c1, aie, xdep, hx, dec_neg g1, hdd]
  have hm : x.many ≤ 2 := by unfold PPart.many; split <;> (try split) <;> omega
  have c5 := aqe (n := x.op) (H := H)
  rw [aoW g1] at c5
  rw [dec_pos g1] at c1
  have hw : IntKind.i64.wrap ((i : Int) + 1) = ((i : Int) + 1) := wrap_i64 (by omega) (by omega)
  have l0'' : ∀ T : LT, T.one → ∀ r c, loadAt T ⟨r, c, H⟩ (.hp id o) = some (.int .i64 x.op) := fun T hT r c => (l0' T hT r c).1
  have hgoal : aie (xdep f (d + 1) i) = aie (frep (xdep f d) x.many (i + 1, 0)) := by
   show aie (match f[i]? with
    | none => none
    | some n => if dec (PartOk n) = true then (frep (xdep f d) n.many (i + 1, 0)).map fun p => (p.1, p.2 + 1) else none) = _
   rw [hx]
   simp only [dec_pos g1, if_true]
   cases frep (xdep f d) x.many (i + 1, 0) <;> rfl
  rw [hgoal]
  simp [ajF, Tryz.f219, h.len, g', hdp, e1, l1', l0'', c1, c5, hw, hdd]
  refine WP_loop (fun k σ => ∃ (m : Nat) (p : Option (Nat × Nat)) (a : Int) (r : Nat → R), σ = ⟨r, 0, H⟩ ∧ r 0 = .val v ∧ r 1 = .val (.int .i64 a) ∧ r 2 = .val (.int .i64 dd) ∧ r 7 = .val (.int .i64 m) ∧ m ≤ 20 ∧ k = (if p.isSome then m else 0) ∧ a = aie p ∧ (∀ q, p = some q → q.1 ≤ f.length) ∧ (p.bind fun q => frep (xdep f d) m q) = frep (xdep f d) x.many (i + 1, 0)) ?_ x.many _ ⟨x.many, some (i + 1, 0), i + 1, _, rfl, by simp, by simp, by simp, by simp, by omega, by simp, by simp [aie], fun q e => by cases e; exact g, rfl⟩
  rintro k σ ⟨m, p, a, r, rfl, r0, r1, r2, r7, hm20, hk, ha, hq, hp⟩
  cases p with
  | none =>
   simp only [Option.isSome_none, Bool.false_eq_true, if_false] at hk
   subst hk
   simp only [Option.bind_none] at hp
   subst ha
   by_cases hm0 : 0 < m
   ·simp [r0, r1, r2, r7, hm0, aie, ← hp]
   ·simp [r0, r1, r2, r7, hm0, aie, ← hp]
  | some q =>
   simp only [Option.isSome_some, if_true] at hk
   subst hk
   simp only [Option.bind_some] at hp
   have hql := hq q rfl
   subst ha
   cases k with
   | zero =>
    have : q = q := rfl
    simp only [frep] at hp
    simp [r0, r1, r2, r7, aie, ← hp]
   | succ k =>
    have c2 := arO h hl d q.1 (by omega) hql
    have hw2 : IntKind.i64.wrap (((k + 1 : Nat) : Int) - 1) = (k : Int) := by rw [wrap_i64 (by omega) (by omega)]; omega
    have hw3 : IntKind.i64.wrap ((k : Int) + 1 - 1) = (k : Int) := by rw [wrap_i64 (by omega) (by omega)]; omega
    have h0 : (0 : Int) < (k : Int) + 1 := by omega
    have h1 : (0 : Int) ≤ (q.1 : Int) := by omega
    cases hsub : xdep f d q.1 with
    | none =>
     rw [hsub] at c2
     simp only [frep, hsub] at hp
     simp [r0, r1, r2, r7, h0, h1, aie, c2, hw2, hw3, hdw]
     exact ⟨0, by omega, k, by rw [wrap_i64 (by omega) (by omega)], by omega, none, by simp, rfl, by simp, by simpa using hp⟩
    | some q2 =>
     rw [hsub] at c2
     simp only [frep, hsub] at hp
     have hq2 := xdep_some _ _ _ hsub
     simp [r0, r1, r2, r7, h0, h1, aie, c2, hw2, hw3, hdw]
     exact ⟨k, by omega, k, by rw [wrap_i64 (by omega) (by omega)], by omega, some (q2.1, max q.2 q2.2), by simp, rfl, fun a b e => by cases e; exact hq2.2.1, by simpa using hp⟩
theorem ajA {v : V} {f : List PPart} {H : List Ob} (h : AParts H v f) : callW C 131 [v] H = some (.bool (dec (ExprOk f)), H) := by
 apply Ret.dec
 rw [axw]
 by_cases g : f.length ≤ 12
 rotate_left
 ·have g' : ¬ (f.length : Int) ≤ 12 := by omega
  simp [ako, Tryz.f131, h.len, g']
  exact fun h => g h.1
 have g' : (f.length : Int) ≤ 12 := by omega
 have c1 := arO h g 5 0 (by omega) (by omega)
 simp only [Int.natCast_zero, show ((6 - 5 : Nat) : Int) = 1 from rfl] at c1
 cases hf : xdep f 5 0 with
 | none =>
  rw [hf] at c1
  have e : ¬ (-1 : Int) = (f.length : Int) := by omega
  simp [ako, Tryz.f131, h.len, g', c1, aie, e]
  rintro ⟨_, x, hx⟩
  rw [hf] at hx
  cases hx
 | some q =>
  rw [hf] at c1
  by_cases e : q.1 = f.length
  ·have e' : (q.1 : Int) = f.length := by omega
   simp [ako, Tryz.f131, h.len, g', c1, aie, e']
   exact ⟨g, q.2, by rw [hf, ← e]⟩
  ·have e' : ¬ (q.1 : Int) = f.length := by omega
   simp [ako, Tryz.f131, h.len, g', c1, aie, e']
   rintro ⟨_, x, hx⟩
   rw [hf] at hx
   cases hx
   exact e rfl
theorem aik {n a b : Int} {H : List Ob} : callW C 94 [.int .i64 n, .int .i64 a, .int .i64 b] H = some (.bool (dec (a ≤ n ∧ n ≤ b)), H) := by
 apply Ret.dec
 rw [awp]
 by_cases h1 : a ≤ n
 ·by_cases h2 : n ≤ b
  ·simp [akA, Tryz.f94, h1, h2]
  ·simp [akA, Tryz.f94, h1, h2]
 ·simp [akA, Tryz.f94, h1]
theorem arH {p : PPart} {H : List Ob} : callW C 294 [.agg p.cs] H = some (.bool (dec (PartOk p)), H) := by
 apply Ret.dec
 rw [auT]
 have c1 := alM (n := p.op) (H := H)
 have c2 := aik (n := p.n) (a := 0) (b := 40) (H := H)
 have c3 := ajo (t := p.text) (H := H)
 unfold PartOk
 by_cases g : aiw p.op < 0
 ·have hno : ¬ (1 ≤ p.op ∧ p.op ≤ 7) := by
   unfold aiw at g
   intro h
   split at g <;> try omega
  simp [aiq, Tryz.f294, c1, g]
  exact fun a b => absurd ⟨a, b⟩ hno
 have hop : 1 ≤ p.op ∧ p.op ≤ 7 := by
  unfold aiw at g
  split at g <;> try omega
 by_cases g2 : 0 ≤ p.n ∧ p.n ≤ 40
 rotate_left
 ·rw [dec_neg g2] at c2
  by_cases o7 : p.op = 7
  ·have g7 : ¬ aiw 7 < 0 := by decide
   rw [o7] at c1
   simp [aiq, Tryz.f294, c1, g7, o7, c2]
   omega
  ·by_cases n0 : p.n = 0
   ·omega
   ·simp [aiq, Tryz.f294, c1, g, o7, c2, n0]
 rw [dec_pos g2] at c2
 by_cases hn : p.op = 7 ∨ p.n = 0
 rotate_left
 ·obtain ⟨o7, n0⟩ : ¬ p.op = 7 ∧ ¬ p.n = 0 := ⟨fun h => hn (.inl h), fun h => hn (.inr h)⟩
  simp [aiq, Tryz.f294, c1, g, o7, n0]
 by_cases o1 : p.op = 1
 ·have g1 : ¬ aiw 1 < 0 := by decide
  have n0 : p.n = 0 := by omega
  rw [o1] at c1
  by_cases h4 : p.text.length ≤ 40
  ·have c4 := akX (t := p.text) (H := H) (by omega)
   have h4' : (p.text.length : Int) ≤ 40 := by omega
   by_cases hp : Plain p.text
   ·rw [dec_pos hp] at c4
    rw [n0] at c2
    simp [aiq, Tryz.f294, c1, g1, o1, n0, c2, h4', h4, c4, hp]
   ·rw [dec_neg hp] at c4
    rw [n0] at c2
    simp [aiq, Tryz.f294, c1, g1, o1, n0, c2, h4', h4, c4, hp]
  ·have h4' : ¬ (p.text.length : Int) ≤ 40 := by omega
   rw [n0] at c2
   simp [aiq, Tryz.f294, c1, g1, o1, n0, c2, h4', h4]
 by_cases o2 : p.op = 2
 ·have g1 : ¬ aiw 2 < 0 := by decide
  have n0 : p.n = 0 := by omega
  rw [o2] at c1
  rw [n0] at c2
  by_cases hp : NameOk p.text
  ·rw [dec_pos hp] at c3
   simp [aiq, Tryz.f294, c1, g1, o2, n0, c2, c3, hp]
  ·rw [dec_neg hp] at c3
   simp [aiq, Tryz.f294, c1, g1, o2, n0, c2, c3, hp]
 have h3 : 3 ≤ p.op := by omega
 by_cases o7 : p.op = 7
 ·have g1 : ¬ aiw 7 < 0 := by decide
  rw [o7] at c1
  by_cases ht : p.text = []
  ·simp [aiq, Tryz.f294, c1, g1, o7, c2, ht]
   omega
  ·have e2 : List.isEmpty p.text = false := by simpa using ht
   simp [aiq, Tryz.f294, c1, g1, o7, c2, ht, e2]
 ·have n0 : p.n = 0 := by omega
  rw [n0] at c2
  by_cases ht : p.text = []
  ·simp [aiq, Tryz.f294, c1, g, o1, o2, o7, n0, c2, ht]
   omega
  ·have e2 : List.isEmpty p.text = false := by simpa using ht
   simp [aiq, Tryz.f294, c1, g, o1, o2, o7, n0, c2, ht, e2, h3]
theorem aug {H : List Ob} {w1 w2 : V} {e : PEntry} (h1 : ARdns H w1 e.dn) (h2 : AAttrs H w2 e.attrs) : callW C 191 [.agg [w1, w2]] H = some (.bool (dec (ZeroE e)), H) := by
 apply Ret.dec
 rw [avb]
 have o1 := h1.one
 have o2 := h2.one
 have n1 := h1.len (e := 202) (s := 1) (b := 24) (z := [.slc none 0])
 by_cases g1 : e.dn = [] <;> by_cases g2 : e.attrs = [] <;> simp [aoR, Tryz.f191, o1, o2, h1.len, h2.len, g1, g2, ZeroE]
theorem auo {H : List Ob} {w1 w2 : V} {e : PEntry} (h1 : ARdns H w1 e.dn) (h2 : AAttrs H w2 e.attrs) : callW C 277 [.agg [w1, w2]] H = some (.bool (dec (ZeroE e)), H) := by
 apply Ret.dec
 rw [auR]
 have o1 := h1.one
 have o2 := h2.one
 by_cases g1 : e.dn = [] <;> by_cases g2 : e.attrs = [] <;> simp [apc, Tryz.f277, o1, o2, h1.len, h2.len, g1, g2, ZeroE]
theorem kind2 {e : PEntry} : KindOk 2 e ↔ ZeroE e := ⟨fun h => h.2.1 rfl, fun h => ⟨by decide, fun _ => h, fun h => absurd rfl h⟩⟩
theorem aoa {k : Int} {e : PEntry} (h : k ≠ 2) : KindOk k e ↔ (1 ≤ k ∧ k ≤ 4) ∧ EntryOk e := ⟨fun g => ⟨g.1, g.2.2 h⟩, fun g => ⟨g.1, fun e => absurd e h, fun _ => g.2⟩⟩
theorem apX {H : List Ob} {v w1 w2 : V} {k : Int} {dn : List PRdn} {e : PEntry} (hd : ARdns H v dn) (h1 : ARdns H w1 e.dn) (h2 : AAttrs H w2 e.attrs) :
  callW C 107 [.int .i64 k, v, .agg [w1, w2]] H = some (.bool (dec (dn ≠ [] ∧ DnOk dn ∧ KindOk k e)), H) := by
 apply Ret.dec
 rw [avR]
 have o0 := hd.one
 have o1 := h1.one
 have o2 := h2.one
 have c1 := alz (n := k) (a := 1) (b := 4) (H := H)
 have c2 := arn hd
 have c3 := aug h1 h2
 have c4 := aop h1 h2
 by_cases g1 : 1 ≤ k ∧ k ≤ 4
 rotate_left
 ·rw [dec_neg g1] at c1
  simp [ai7, Tryz.f107, o0, o1, o2, c1]
  exact fun _ _ h => g1 h.1
 rw [dec_pos g1] at c1
 by_cases g2 : dn = []
 ·simp [ai7, Tryz.f107, o0, o1, o2, c1, hd.len, g2]
 by_cases g3 : DnOk dn
 rotate_left
 ·rw [dec_neg g3] at c2
  simp [ai7, Tryz.f107, o0, o1, o2, c1, c2, hd.len, g2, g3]
 rw [dec_pos g3] at c2
 by_cases g4 : k = 2
 ·subst g4
  by_cases g5 : ZeroE e
  ·rw [dec_pos g5] at c3
   simp [ai7, Tryz.f107, o0, o1, o2, c1, c2, c3, hd.len, g2, g3, kind2, g5]
  ·rw [dec_neg g5] at c3
   simp [ai7, Tryz.f107, o0, o1, o2, c1, c2, c3, hd.len, g2, g3, kind2, g5]
 ·by_cases g5 : EntryOk e
  ·rw [dec_pos g5] at c4
   simp [ai7, Tryz.f107, o0, o1, o2, c1, c2, c4, hd.len, g2, g3, g4, aoa g4, g1, g5]
  ·rw [dec_neg g5] at c4
   simp [ai7, Tryz.f107, o0, o1, o2, c1, c2, c4, hd.len, g2, g3, g4, aoa g4, g1, g5]
theorem auc {H : List Ob} {w1 w2 : V} {k : Int} {e : PEntry} (h1 : ARdns H w1 e.dn) (h2 : AAttrs H w2 e.attrs) :
  callW C 206 [.int .i64 k, .agg [w1, w2]] H = some (.bool (dec (KindOk k e)), H) := by
 apply Ret.dec
 rw [avT]
 have o1 := h1.one
 have o2 := h2.one
 have c1 := aik (n := k) (a := 1) (b := 4) (H := H)
 have c3 := auo h1 h2
 have c4 := aoj h1 h2
 by_cases g4 : k = 2
 ·subst g4
  by_cases g5 : ZeroE e
  ·rw [dec_pos g5] at c3
   simp [ajP, Tryz.f206, o1, o2, c3, kind2, g5]
  ·rw [dec_neg g5] at c3
   simp [ajP, Tryz.f206, o1, o2, c3, kind2, g5]
 by_cases g1 : 1 ≤ k ∧ k ≤ 4
 rotate_left
 ·rw [dec_neg g1] at c1
  simp [ajP, Tryz.f206, o1, o2, c1, g4]
  exact fun h => g1 h.1
 rw [dec_pos g1] at c1
 by_cases g5 : EntryOk e
 ·rw [dec_pos g5] at c4
  simp [ajP, Tryz.f206, o1, o2, c1, c4, g4, aoa g4, g1, g5]
 ·rw [dec_neg g5] at c4
  simp [ajP, Tryz.f206, o1, o2, c1, c4, g4, aoa g4, g1, g5]
theorem anv {t : Str} (h : ReadOk t) : t.length ≤ 612 := by
 have := txt_len h.1
 rwa [h.2] at this
theorem anD {t : Str} {H : List Ob} (hl : t.length ≤ 2000000) : callW C 205 [.str t] H = some (.bool (dec (ReadOk t ∧ readS t ≠ [])), H) := by
 apply Ret.dec
 rw [avW]
 obtain ⟨q, H', c1, T, w, dn, rfl, rfl, hn, hd⟩ := ard (t := t) (H := H) hl
 have ow := New.one1 hn
 have hw : ARdns (H ++ T) w dn := hn.at
 have hgb : ∀ b, gcH H (H ++ T) (.bool b) = H := fun b => gcH_bool
 by_cases g1 : ReadOk t
 ·rw [dec_pos g1] at c1
  have e := hd g1
  subst e
  have g2 : (t.length : Int) ≤ 8000 := by have := anv g1; omega
  by_cases g3 : readS t = []
  ·simp [akn, Tryz.f205, c1, ow, hw.len, g2, g3, hgb]
  ·have g3' : 0 < (readS t).length := List.length_pos_iff.2 g3
   simp [akn, Tryz.f205, c1, ow, hw.len, g1, g2, g3, g3', hgb]
 ·rw [dec_neg g1] at c1
  by_cases g2 : (t.length : Int) ≤ 8000
  ·simp [akn, Tryz.f205, c1, ow, hw.len, g1, g2, hgb]
  ·simp [akn, Tryz.f205, c1, ow, hw.len, g1, g2, hgb]
theorem arD {H : List Ob} {w1 w2 : V} {x : PChange} (h1 : ARdns H w1 x.entry.dn) (h2 : AAttrs H w2 x.entry.attrs) (hl : x.dn.length ≤ 2000000) :
  callW C 120 [.agg [.int .i64 x.number, .int .i64 x.kind, .str x.dn, w1, w2]] H = some (.bool (dec (ChangeOk x)), H) := by
 apply Ret.dec
 rw [axO]
 have o1 := h1.one
 have o2 := h2.one
 have c1 := anD (t := x.dn) (H := H) hl
 have c2 := auc (k := x.kind) h1 h2
 by_cases g1 : ReadOk x.dn ∧ readS x.dn ≠ []
 rotate_left
 ·rw [dec_neg g1] at c1
  simp [akS, Tryz.f120, o1, o2, c1]
  exact fun h => g1 ⟨h.1, h.2.1⟩
 rw [dec_pos g1] at c1
 by_cases g2 : KindOk x.kind x.entry
 ·rw [dec_pos g2] at c2
  have hy : ChangeOk x := ⟨g1.1, g1.2, g2⟩
  simp [akS, Tryz.f120, o1, o2, c1, c2, hy]
 ·rw [dec_neg g2] at c2
  have hn : ¬ ChangeOk x := fun h => g2 h.2.2
  simp [akS, Tryz.f120, o1, o2, c1, c2, hn]
theorem auu {H : List Ob} {w1 w2 : V} {x : PRule} (h1 : ARdns H w1 x.base) (h2 : AStrs H w2 x.attrs) : callW C 105 [.agg [.str x.who, w1, w2, .int .i64 x.right, .bool x.allow]] H = some (.bool (dec (RuleOk x)), H) := by
 apply Ret.dec
 rw [axG]
 have o1 := h1.one
 have o2 := h2.one
 have c1 := aja (t := x.who) (H := H)
 have c2 := arn h1
 have c3 := alf h2
 have c4 := alz (n := x.right) (a := 1) (b := 4) (H := H)
 have key : ∀ b : Bool, (b = true ↔ (x.who = [42] ∨ NameOk x.who)) → ((x.who = [42] ∧ b = true) ∨ (¬ x.who = [42] ∧ b = dec (NameOk x.who))) := fun b hb => by
  by_cases h : x.who = [42]
  ·exact .inl ⟨h, hb.2 (.inl h)⟩
  ·refine .inr ⟨h, ?_⟩
   cases b with
   | true => rw [dec_pos ((hb.1 rfl).resolve_left h)]
   | false => rw [dec_neg fun g => by have := hb.2 (.inr g); cases this]
 by_cases g1 : x.who = [42] ∨ NameOk x.who
 rotate_left
 ·have g0 : ¬ x.who = [42] := fun h => g1 (.inl h)
  rw [dec_neg fun h => g1 (.inr h)] at c1
  simp [aiy, Tryz.f105, o1, o2, c1, g0]
  exact fun h => g1 h.1
 by_cases g2 : DnOk x.base
 rotate_left
 ·rw [dec_neg g2] at c2
  have hn : ¬ RuleOk x := fun h => g2 h.2.1
  rcases key true (by simp [g1]) with ⟨k1, _⟩ | ⟨k1, k2⟩
  ·simp [aiy, Tryz.f105, o1, o2, k1, c2, hn]
  ·rw [← k2] at c1
   simp [aiy, Tryz.f105, o1, o2, k1, c1, c2, hn]
 rw [dec_pos g2] at c2
 by_cases g3 : x.attrs.length ≤ 8
 rotate_left
 ·have g3' : ¬ (x.attrs.length : Int) ≤ 8 := by omega
  have hn : ¬ RuleOk x := fun h => g3 h.2.2.1
  rcases key true (by simp [g1]) with ⟨k1, _⟩ | ⟨k1, k2⟩
  ·simp [aiy, Tryz.f105, o1, o2, k1, c2, h2.len, g3', hn]
  ·rw [← k2] at c1
   simp [aiy, Tryz.f105, o1, o2, k1, c1, c2, h2.len, g3', hn]
 have g3' : (x.attrs.length : Int) ≤ 8 := by omega
 by_cases g4 : NamesOk x.attrs
 rotate_left
 ·rw [dec_neg g4] at c3
  have hn : ¬ RuleOk x := fun h => g4 h.2.2.2.1
  rcases key true (by simp [g1]) with ⟨k1, _⟩ | ⟨k1, k2⟩
  ·simp [aiy, Tryz.f105, o1, o2, k1, c2, c3, h2.len, g3', hn]
  ·rw [← k2] at c1
   simp [aiy, Tryz.f105, o1, o2, k1, c1, c2, c3, h2.len, g3', hn]
 rw [dec_pos g4] at c3
 by_cases g5 : 1 ≤ x.right ∧ x.right ≤ 4
 rotate_left
 ·rw [dec_neg g5] at c4
  have hn : ¬ RuleOk x := fun h => g5 h.2.2.2.2
  rcases key true (by simp [g1]) with ⟨k1, _⟩ | ⟨k1, k2⟩
  ·simp [aiy, Tryz.f105, o1, o2, k1, c2, c3, c4, h2.len, g3', hn]
  ·rw [← k2] at c1
   simp [aiy, Tryz.f105, o1, o2, k1, c1, c2, c3, c4, h2.len, g3', hn]
 rw [dec_pos g5] at c4
 have hy : RuleOk x := ⟨g1, g2, g3, g4, g5⟩
 rcases key true (by simp [g1]) with ⟨k1, _⟩ | ⟨k1, k2⟩
 ·simp [aiy, Tryz.f105, o1, o2, k1, c2, c3, c4, h2.len, g3', hy]
 ·rw [← k2] at c1
  simp [aiy, Tryz.f105, o1, o2, k1, c1, c2, c3, c4, h2.len, g3', hy]
theorem ant {H : List Ob} {v : V} {l : List PRule} (h : ARules H v l) : callW C 42 [v] H = some (.bool (dec (AclOk l)), H) := by
 apply Ret.dec
 rw [aBB]
 have hb : l.length ≤ 9223372036854775807 := h.bound
 simp [aqh, Tryz.f42]
 refine WP_loop (fun k σ => ∃ (i : Nat) (r : Nat → R), i + k = l.length ∧ σ = ⟨r, 0, H⟩ ∧ r 0 = .val v ∧ r 3 = .val (.int .i64 i) ∧ ∀ (j : Nat) x, j < i → l[j]? = some x → RuleOk x) ?_ l.length _ ⟨0, _, by simp, rfl, by simp, by simp, by simp⟩
 rintro k σ ⟨i, r, hik, rfl, r0, r3, hall⟩
 cases k with
 | zero =>
  have hi : i = l.length := by omega
  subst hi
  have hx := at_all (P := fun j (x : PRule) => RuleOk x) hall
  have hA : AclOk l ↔ (l.length : Int) ≤ 10 := ⟨fun h => by have := h.2; omega, fun h => ⟨fun x hm => by
   obtain ⟨j, hj, rfl⟩ := List.getElem_of_mem hm
   exact hx j _ (List.getElem?_eq_getElem hj), by omega⟩⟩
  by_cases g : (l.length : Int) ≤ 10 <;> simp [r0, r3, h.len, hA, g]
 | succ k =>
  have hi : i < l.length := by omega
  obtain ⟨x, hx⟩ : ∃ c, l[i]? = some c := ⟨l[i], by simp [hi]⟩
  have hw : IntKind.i64.wrap ((i : Int) + 1) = ((i : Int) + 1) := wrap_i64 (by omega) (by omega)
  obtain ⟨id, o, w1, w2, hid, e1, lm, a1, a2⟩ := rules_idx h hx
  have o1 := a1.one
  have o2 := a2.one
  have c1 := auu a1 a2
  by_cases g : RuleOk x
  ·rw [dec_pos g] at c1
   simp [r0, r3, hi, h.len, hid, e1, lm, o1, o2, c1, hw]
   exact ⟨k, by omega, i + 1, by omega, by omega, at_step (P := fun j (x : PRule) => RuleOk x) hall hx g⟩
  ·rw [dec_neg g] at c1
   simp [r0, r3, hi, h.len, hid, e1, lm, o1, o2, c1, hw]
   exact fun h => g (h.1 x (List.mem_of_getElem? hx))
theorem alh {H : List Ob} {v : V} {n : Int} {l : List PChange} (h : AChanges H v l) (hs : ∀ x ∈ l, x.dn.length ≤ 2000000) : callW C 43 [.agg [.int .i64 n, v]] H = some (.bool (dec (ChangesOk n l)), H) := by
 apply Ret.dec
 rw [aCi]
 have ov := h.one
 have c1 := alz (n := n) (a := 1) (b := 1000000) (H := H)
 by_cases g1 : 1 ≤ n ∧ n ≤ 1000000
 rotate_left
 ·rw [dec_neg g1] at c1
  simp [amo, Tryz.f43, ov, c1]
  exact fun h => g1 h.1
 rw [dec_pos g1] at c1
 by_cases g2 : l.length ≤ 40
 rotate_left
 ·have g2' : (40 : Int) < l.length := by omega
  simp [amo, Tryz.f43, ov, c1, h.len, g2']
  exact fun h => g2 h.2.1
 have g2' : ¬ (40 : Int) < l.length := by omega
 simp [amo, Tryz.f43, ov, c1, h.len, g2']
 refine WP_loop (fun k σ => ∃ (i : Nat) (r : Nat → R) (T : List Ob), i + k = l.length ∧ σ = ⟨r, 1 + i, H ++ T⟩ ∧ r 1 = .box 0 [.int .i64 n, v] ∧ r 3 = .val (.int .i64 i) ∧ ∀ (j : Nat) x, j < i → l[j]? = some x → ChangeOk x ∧ x.number = n - l.length + j ∧ 1 ≤ x.number) ?_ l.length _ ⟨0, _, [], by simp, by simp; rfl, by simp, by simp, by simp⟩
 rintro k σ ⟨i, r, T, hik, rfl, r1, r3, hall⟩
 have hT : AChanges (H ++ T) v l := h.ext
 have hgb : ∀ b, gcH H (H ++ T) (.bool b) = H := fun b => gcH_bool
 cases k with
 | zero =>
  have hi : i = l.length := by omega
  subst hi
  have hx := at_all (P := fun j (x : PChange) => ChangeOk x ∧ x.number = n - l.length + j ∧ 1 ≤ x.number) hall
  have hA : ChangesOk n l := ⟨g1, g2, by
   by_cases h0 : l.length = 0
   ·omega
   ·have hl0 : l[0]? = some l[0] := List.getElem?_eq_getElem (by omega)
    have := hx 0 _ hl0
    omega, fun i x hi => ⟨(hx i x hi).1, (hx i x hi).2.1⟩⟩
  simp [r1, r3, hT.len, ov, hA, hgb]
 | succ k =>
  have hi : i < l.length := by omega
  obtain ⟨x, hx⟩ : ∃ c, l[i]? = some c := ⟨l[i], by simp [hi]⟩
  have hw : IntKind.i64.wrap ((i : Int) + 1) = ((i : Int) + 1) := wrap_i64 (by omega) (by omega)
  have hw1 : IntKind.i64.wrap ((l.length : Int) - i) = (l.length : Int) - i := wrap_i64 (by omega) (by omega)
  have hw2 : IntKind.i64.wrap (n - ((l.length : Int) - i)) = n - ((l.length : Int) - i) := wrap_i64 (by omega) (by omega)
  obtain ⟨id, o, w1, w2, hid, e1, lm, a1, a2, _⟩ := changes_idx hT hx
  have hid' : id < H.length + T.length := by simpa using hid
  have o1 := a1.one
  have o2 := a2.one
  obtain ⟨q, G, c2, T2, w, dn, rfl, rfl, hn, hd⟩ := auK (t := x.dn) (H := H ++ T) (hs x (List.mem_of_getElem? hx))
  have ow := New.one1 hn
  have hat : ARdns (H ++ T ++ T2) w dn := hn.at
  have hlen2 : ∀ (e s b : Nat) (z : List V), lenV ⟨.slice e, s, b, z⟩ v = some (.int .i64 l.length) := fun e s b z => h.len
  have c3 := apX (k := x.kind) hat a1.ext a2.ext
  simp only [List.append_assoc] at c2 c3
  have hgb2 : ∀ b, gcH H (H ++ (T ++ T2)) (.bool b) = H := fun b => gcH_bool
  by_cases g3 : ReadOk x.dn
  rotate_left
  ·rw [dec_neg g3] at c2
   simp [r1, r3, hi, hT.len, hlen2, hid', e1, lm, o1, o2, ov, ow, c2, hw, hgb2, strideOf, fillL, zerosL, St.new]
   exact fun h => g3 (h.2.2.2 i x hx).1.1
  rw [dec_pos g3] at c2
  obtain rfl := hd g3
  by_cases g4 : readS x.dn ≠ [] ∧ DnOk (readS x.dn) ∧ KindOk x.kind x.entry
  rotate_left
  ·rw [dec_neg g4] at c3
   simp [r1, r3, hi, hT.len, hlen2, hid', e1, lm, o1, o2, ov, ow, c2, c3, hw, hgb2, strideOf, fillL, zerosL, St.new]
   exact fun h => g4 ⟨(h.2.2.2 i x hx).1.2.1, g3.1, (h.2.2.2 i x hx).1.2.2⟩
  rw [dec_pos g4] at c3
  have gc : ChangeOk x := ⟨g3, g4.1, g4.2.2⟩
  by_cases g5 : x.number < 1
  ·simp [r1, r3, hi, hT.len, hlen2, hid', e1, lm, o1, o2, ov, ow, c2, c3, g5, hw, hgb2, strideOf, fillL, zerosL, St.new]
   exact fun h => by have := (h.2.2.2 i x hx).2; have := h.2.2.1; omega
  obtain ⟨nn, hnn⟩ : ∃ nn, nn = n - ((l.length : Int) - i) := ⟨_, rfl⟩
  replace hw2 := hw2.trans hnn.symm
  by_cases g6 : x.number = nn
  ·have g5 : ¬ nn < 1 := by omega
   simp [r1, r3, hi, hT.len, hlen2, hid', e1, lm, o1, o2, ov, ow, c2, c3, g5, g6, hw, hw1, hw2, strideOf, fillL, zerosL, St.new]
   exact ⟨k, by omega, i + 1, by omega, _, ⟨rfl, by omega⟩, by simp [r1], by simp, at_step (P := fun j (x : PChange) => ChangeOk x ∧ x.number = n - l.length + j ∧ 1 ≤ x.number) hall hx ⟨gc, by omega, by omega⟩⟩
  ·simp [r1, r3, hi, hT.len, hlen2, hid', e1, lm, o1, o2, ov, ow, c2, c3, g5, g6, hw, hw1, hw2, hgb2, strideOf, fillL, zerosL, St.new]
   exact fun h => by have := (h.2.2.2 i x hx).2; omega
theorem ajS {H : List Ob} {vs ve va vl : V} {s : PServer} (hs : AClasses H vs s.tree.schema) (he : AEntries H ve s.tree.entries) (ha : ARules H va s.acl) (hl : AChanges H vl s.list) (hb : ∀ x ∈ s.list, x.dn.length ≤ 2000000) :
  callW C 9 [.agg [vs, ve, va, .int .i64 s.next, vl, .str s.who]] H = some (.bool (dec (ServerOk s)), H) := by
 apply Ret.dec
 rw [op9]
 have o1 := hs.one
 have o2 := he.one
 have o3 := ha.one
 have o4 := hl.one
 have c1 := am0 hs he
 have c2 := ant ha
 have c3 := alh (n := s.next) hl hb
 have c4 := aja (t := s.who) (H := H)
 by_cases g1 : TreeOk s.tree
 rotate_left
 ·rw [dec_neg g1] at c1
  simp [al9, Tryz.f9, o1, o2, o3, o4, c1]
  exact fun h => g1 h.1
 rw [dec_pos g1] at c1
 by_cases g2 : AclOk s.acl
 rotate_left
 ·rw [dec_neg g2] at c2
  simp [al9, Tryz.f9, o1, o2, o3, o4, c1, c2]
  exact fun h => g2 h.2.1
 rw [dec_pos g2] at c2
 by_cases g3 : ChangesOk s.next s.list
 rotate_left
 ·rw [dec_neg g3] at c3
  simp [al9, Tryz.f9, o1, o2, o3, o4, c1, c2, c3]
  exact fun h => g3 h.2.2.1
 rw [dec_pos g3] at c3
 by_cases g4 : NameOk s.who
 ·rw [dec_pos g4] at c4
  have hy : ServerOk s := ⟨g1, g2, g3, g4⟩
  simp [al9, Tryz.f9, o1, o2, o3, o4, c1, c2, c3, c4, hy]
 ·rw [dec_neg g4] at c4
  have hn : ¬ ServerOk s := fun h => g4 h.2.2.2
  simp [al9, Tryz.f9, o1, o2, o3, o4, c1, c2, c3, c4, hn]
end Go.Proofs.Try1
end
