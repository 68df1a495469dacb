/- Part 08 of the proof of a law: the interpreter, its soundness, and what functions of the program compute over it. Conditions: none but those that each theorem names. -/
import Derived.Test.YtdkbgdjfmbppfaaGreatDoorE07
import Derived.Test.YtdkbgdjfmbppfaaGreatDoorE05
import Derived.Test.YtdkbgdjfmbppfaaGreatDoorE06

set_option linter.all false
set_option maxRecDepth 20000
set_option maxHeartbeats 40000000
section
namespace Go.Lite
open Go
def EnR (b : Nat) (G : List Ob) (w1 w2 : V) (e : PEntry) : Prop := eu G w1 e.dn ∧ ((w2 = .slc none 0 ∧ e.attrs = []) ∨ ∃ id cs, b ≤ id ∧ w2 = .slc (some (id, 0)) e.attrs.length ∧ G[id]? = some (.mk true 2 cs) ∧ cs.length = e.attrs.length * 2 ∧ eu (G.set id .dead) w1 e.dn ∧ ∀ (i : Nat) x, e.attrs[i]? = some x → At (G.set id .dead) dK ((cs.drop (i * 2)).take 2) x.u)
section
variable {b b' : Nat} {G T K : List Ob} {w1 w2 w : V} {e : PEntry} {dn : List PRdn} {l : List PAttr}
theorem EnR.ext (h : EnR b G w1 w2 e) : EnR b (G ++ T) w1 w2 e := by
 obtain ⟨h0, h | ⟨id, cs, hb, h1, h2, h3, h4, h5⟩⟩ := h
 ·exact ⟨h0.ext, .inl h⟩
 ·have hid := (List.getElem?_eq_some_iff.1 h2).1
  exact ⟨h0.ext, .inr ⟨id, cs, hb, h1, aW _ _ h2, h3, by rw [ku hid]; exact h4.ext, fun i x hx => by rw [ku hid]; exact (h5 i x hx).ext⟩⟩
theorem EnR.wide (h : EnR b G w1 w2 e) (hb : b' ≤ b) : EnR b' G w1 w2 e := ⟨h.1, h.2.imp id fun ⟨i, cs, h1, h2⟩ => ⟨i, cs, Nat.le_trans hb h1, h2⟩⟩
theorem Lst.enr (h : Lst K G dK PAttr.u w l) (hd : eu K w1 dn) : EnR K.length G w1 w ⟨dn, l⟩ := by
 obtain ⟨⟨S, rfl⟩, h⟩ := h
 refine ⟨hd.ext, ?_⟩
 rcases h with ⟨rfl, rfl⟩ | ⟨id, cs, q1, q2, rfl, q4, q5⟩
 ·exact .inl ⟨rfl, rfl⟩
 ·obtain ⟨T', hT⟩ := IE (H := K) (T := S) (o := .dead) q1
  exact .inr ⟨id, cs, q1, rfl, q2, q4, by rw [hT]; exact hd.ext, q5⟩
theorem EnR.attrs (h : EnR b G w1 w2 e) (hl : e.attrs.length ≤ maxLen) : bD G w2 e.attrs := by
 obtain ⟨_, ⟨rfl, h0⟩ | ⟨id, cs, _, rfl, h2, h3, _, h5⟩⟩ := h
 ·rw [h0]
  exact aC.2 ⟨_, _, rfl, rfl, by simp, .inl ⟨rfl, rfl⟩⟩
 ·refine aC.2 ⟨_, _, rfl, rfl, by simpa using hl, .inr ⟨id, 0, true, cs, by simp, h2, by simp; omega, fun i x hx => ?_⟩⟩
  rw [List.getElem?_map] at hx
  obtain ⟨y, hy, rfl⟩ := Option.map_eq_some_iff.1 hx
  rw [Nat.zero_add]
  exact (h5 i y hy).undead
theorem EnR.nil (hd : eu G w1 dn) : EnR b G w1 (.slc none 0) ⟨dn, []⟩ := ⟨hd, .inl ⟨rfl, rfl⟩⟩
theorem EnR.push {x : PAttr} {c : List V} {d : LD} {z : List V} (h : EnR b G w1 w2 e) (hb : b ≤ G.length) (hc : c.length = 2) (hx : ∀ id, id < G.length → At ((G ++ T).set id .dead) dK c x.u) (hx0 : At (G ++ T) dK c x.u) (hz : z.length = 2) (hl : e.attrs.length ≤ 1000000) :
  ∃ v' G', aT ⟨d, 2, 40, z⟩ (G ++ T ++ [.mk true 2 c]) w2 (.slc (some ((G ++ T).length, 0)) 1) = some (v', G') ∧ EnR b G' w1 v' ⟨e.dn, e.attrs ++ [x]⟩ ∧ G.length ≤ G'.length ∧ (∀ q, q < b → G'[q]? = G[q]?) ∧ ∀ q, q < G.length → G'[q]? = G[q]? ∨ ∃ own cells, G[q]? = some (.mk own 2 cells) := by
 have hco := At.ones _ hx0
 have hnew := iQ (d := d) (by_ := 40) (z := z) (G := G ++ T) (es := 2) (c := c) (by omega)
 rw [hc] at hnew
 obtain ⟨h0, ⟨rfl, hn⟩ | ⟨id, cs, hbi, rfl, h2, h3, h4, h5⟩⟩ := h
 ·refine ⟨_, _, lg hz (by decide) (by decide) (by decide) hnew (by decide) hco (by decide), ⟨h0.ext.ext.ext, .inr ⟨_, c, ?_, by simp [hn], get_last, by simp [hn, hc], ?_, fun i y hy => ?_⟩⟩, by simp, fun q hq => ?_, fun q hq => .inl ?_⟩
  ·simp; omega
  ·rw [iV]; exact h0.ext.ext.ext
  ·rw [iV]
   rw [hn] at hy
   have : i = 0 := by
    have := (List.getElem?_eq_some_iff.1 hy).1
    simp at this; omega
   subst this
   cases hy
   rw [Nat.zero_mul, List.drop_zero, List.take_of_length_le (by omega)]
   exact hx0.ext.ext
  ·rw [List.append_assoc, List.append_assoc, List.getElem?_append_left (by omega)]
  ·rw [List.append_assoc, List.append_assoc, List.getElem?_append_left (by omega)]
 ·have hid := (List.getElem?_eq_some_iff.1 h2).1
  have h2' : (G ++ T ++ [Ob.mk true 2 c])[id]? = some (.mk true 2 cs) := by rw [List.append_assoc]; exact aW _ _ h2
  have hl2 : ((G ++ T ++ [Ob.mk true 2 c]).set id .dead).length = (G ++ T ++ [Ob.mk true 2 c]).length := List.length_set
  have hset : (G ++ T ++ [Ob.mk true 2 c]).set id .dead = (G ++ T).set id .dead ++ [.mk true 2 c] := ku (by simp; omega)
  have hG : (G ++ T).set id .dead = G.set id .dead ++ T := ku hid
  refine ⟨_, _, dM hz (by decide) (by decide) (by decide) h2' h3 hnew (by decide) hco (by unfold aB; omega), ⟨?_, .inr ⟨(G ++ T ++ [Ob.mk true 2 c]).length, cs ++ c, ?_, by simp, ?_, by simp [h3, hc, Nat.add_mul], ?_, fun i y hy => ?_⟩⟩, by simp; omega, fun q hq => ?_, fun q hq => ?_⟩
  ·rw [hset, hG]; exact h4.ext.ext.ext
  ·simp; omega
  ·rw [← hl2, get_last]
  ·rw [← hl2, iV, hset, hG]; exact h4.ext.ext.ext
  ·rw [← hl2, iV, hset]
   have key := vg (n := e.attrs.length) (s := 2) (cs := cs) (c := c) h3 hc (P := fun i cc => ∀ y, (e.attrs ++ [x])[i]? = some y → At ((G ++ T).set id .dead ++ [Ob.mk true 2 c] ++ [.dead]) dK cc y.u) (fun i hi y hy => by
     rw [List.getElem?_append_left hi] at hy
     rw [hG]
     exact (h5 i y hy).ext.ext.ext) (fun y hy => by
     simp at hy
     subst hy
     exact (hx id hid).ext.ext)
   have hi : i < e.attrs.length + 1 := by
    have := (List.getElem?_eq_some_iff.1 hy).1
    simpa using this
   exact key i hi y hy
  ·rw [List.getElem?_append_left (by rw [hl2]; simp; omega), List.getElem?_set_ne (by omega), List.append_assoc, List.getElem?_append_left (by omega)]
  ·by_cases hqi : id = q
   ·subst hqi; exact .inr ⟨_, _, h2⟩
   ·exact .inl (by rw [List.getElem?_append_left (by rw [hl2]; simp; omega), List.getElem?_set_ne hqi, List.append_assoc, List.getElem?_append_left (by omega)])
end
def sO (G : List Ob) (id : Nat) (v : V) : Prop := (∃ a m z, G[id]? = some (.mk true 4 [v, .int .i64 a, .int .u64 m, .int .i64 z])) ∧ ∃ p n, v = .slc p n
def Ev (id : Nat) (G G' : List Ob) : Prop := G.length ≤ G'.length ∧ ∀ q, q ≠ id → q < G.length → G'[q]? = G[q]?
section
variable {id : Nat} {v : V} {G G1 G2 T : List Ob}
theorem Ev.refl : Ev id G G := ⟨Nat.le_refl _, fun _ _ _ => rfl⟩
theorem Ev.trans (h : Ev id G G1) (h' : Ev id G1 G2) : Ev id G G2 := ⟨Nat.le_trans h.1 h'.1, fun q hq hl => by rw [h'.2 q hq (Nat.lt_of_lt_of_le hl h.1), h.2 q hq hl]⟩
theorem Ev.app : Ev id G (G ++ T) := ⟨by simp, fun q _ hl => List.getElem?_append_left hl⟩
theorem Ev.gc {r : V} (h : Ev id G G1) : Ev id G (eU G G1 r) := by
 unfold eU
 split
 ·exact .refl
 ·exact h
theorem New.ev {b e : Nat} {sh : Sh} {cs : List V} {u : U} (h : New b e G sh cs u) (hid : id < b) (he : e ≤ G.length) (hE : Ev id G G1) : New b e G1 sh cs u :=
 h.frame fun q h1 h2 => hE.2 q (by omega) (by omega)
theorem At.ev {sh : Sh} {cs : List V} {u : U} (ho : okS sh = true) (hs : sO G id v) (h1 : sO G1 id v) (hE : Ev id G G1) (h : At G sh cs u) : At G1 sh cs u := by
 obtain ⟨⟨a, m, z, e⟩, hv⟩ := hs
 obtain ⟨⟨a', m', z', e'⟩, _⟩ := h1
 have hl := (List.getElem?_eq_some_iff.1 e').1
 have e1 : G1 = bI G1 id v a' m' z' := by
  apply List.ext_getElem?
  intro q
  by_cases hq : q = id
  ·subst hq; rw [dS hl, e']
  ·rw [lh hq]
 rw [e1]
 refine At.src (a := a) (m := m) (z := z) hl hv sh ho (At.upL (fun q own es cells hq => ?_) sh h)
 by_cases hqi : q = id
 ·subst hqi; rw [dS hl, ← e]; exact hq
 ·rw [lh hqi, hE.2 q hqi (List.getElem?_eq_some_iff.1 hq).1]; exact hq
theorem EnR.ev {b : Nat} {w1 w2 : V} {e : PEntry} (hs : sO G id v) (h1 : sO G1 id v) (hE : Ev id G G1) (h : EnR b G w1 w2 e) : EnR b G1 w1 w2 e := by
 obtain ⟨h0, h | ⟨i, cs, hb, q1, q2, q3, q4, q5⟩⟩ := h
 ·exact ⟨At.ev (by decide) hs h1 hE h0, .inl h⟩
 ·have hi := (List.getElem?_eq_some_iff.1 q2).1
  have hne : i ≠ id := by
   rintro rfl
   obtain ⟨⟨a, m, z, e⟩, _⟩ := hs
   rw [q2] at e
   simp at e
  have hk : ∀ {X : List Ob}, sO X id v → sO (X.set i .dead) id v := fun {X} ⟨⟨a, m, z, e⟩, hv⟩ => ⟨⟨a, m, z, by rw [List.getElem?_set_ne hne]; exact e⟩, hv⟩
  have hE' : Ev id (G.set i .dead) (G1.set i .dead) := ⟨by simpa using hE.1, fun q hq hl => by
   rw [List.length_set] at hl
   by_cases hqi : i = q
   ·subst hqi
    rw [List.getElem?_set_self hi, List.getElem?_set_self (Nat.lt_of_lt_of_le hi hE.1)]
   ·rw [List.getElem?_set_ne hqi, List.getElem?_set_ne hqi]
    exact hE.2 q hq hl⟩
  exact ⟨At.ev (by decide) hs h1 hE h0, .inr ⟨i, cs, hb, q1, by rw [hE.2 i hne hi]; exact q2, q3, At.ev (by decide) (hk hs) (hk h1) hE' q4, fun j x hx => At.ev (by decide) (hk hs) (hk h1) hE' (q5 j x hx)⟩⟩
end
def SrcIn (G : List Ob) (id : Nat) (v : V) : Prop := ∃ H n a m z, G = bI H id v a m z ∧ SrcOk H id v n a m z
section
variable {id : Nat} {v : V} {G G1 G2 T : List Ob}
theorem SrcIn.lt (h : SrcIn G id v) : id < G.length := by
 obtain ⟨H, n, a, m, z, rfl, hs⟩ := h
 rw [kN]
 exact hs.lt
theorem SrcIn.at (h : SrcIn G id v) : sO G id v := by
 obtain ⟨H, n, a, m, z, rfl, hs⟩ := h
 exact ⟨⟨a, m, z, dS hs.lt⟩, hs.slc⟩
theorem SrcIn.app (h : SrcIn G id v) : SrcIn (G ++ T) id v := by
 obtain ⟨H, n, a, m, z, rfl, hs⟩ := h
 exact ⟨H ++ T, n, a, m, z, A7 hs.lt, hs.app⟩
theorem SrcIn.keep (h : SrcIn G id v) (hl : G.length ≤ G1.length) (hk : ∀ q, q < G.length → G1[q]? = G[q]? ∨ ∃ own cells, G[q]? = some (.mk own 2 cells)) : SrcIn G1 id v := by
 obtain ⟨H, n, a, m, z, rfl, hs⟩ := h
 have hid : id < (bI H id v a m z).length := by rw [kN]; exact hs.lt
 have e : G1[id]? = some (.mk true 4 [v, .int .i64 a, .int .u64 m, .int .i64 z]) := by
  rcases hk id hid with h | ⟨_, _, h⟩
  ·rw [h, dS hs.lt]
  ·rw [dS hs.lt] at h; simp at h
 have e1 : G1 = bI G1 id v a m z := by
  apply List.ext_getElem?
  intro q
  by_cases hq : q = id
  ·subst hq; rw [dS (Nat.lt_of_lt_of_le hid hl), e]
  ·rw [lh hq]
 obtain ⟨us, hn, hb⟩ := hs.bytes
 refine ⟨G1, n, a, m, z, e1, ⟨Nat.lt_of_lt_of_le hid hl, ⟨us, hn, ?_⟩, hs.at0, hs.at1, hs.m0, hs.m1, hs.z0, hs.z1⟩⟩
 rw [← e1]
 obtain ⟨w, l, hw, hu, hb1, hsl⟩ := aC.1 hb
 refine aC.2 ⟨w, l, hw, hu, hb1, ?_⟩
 rcases hsl with h | ⟨i, off, own, cells, q1, q2, q3, q4⟩
 ·exact .inl h
 ·refine .inr ⟨i, off, own, cells, q1, ?_, q3, fun j x hx => ?_⟩
  ·rcases hk i (List.getElem?_eq_some_iff.1 q2).1 with h | ⟨_, _, h⟩
   ·rw [h]; exact q2
   ·rw [q2] at h; simp at h
  ·have := q4 j x hx
   simpa only [At] using this
theorem SrcIn.gc {r : V} (h : SrcIn G id v) (h1 : SrcIn G1 id v) : SrcIn (eU G G1 r) id v := by
 unfold eU
 split
 ·exact h
 ·exact h1
end
def xU (Q : Ex → St → Prop) : Option St → Prop
 | some σ => Q .norm σ
 | none => False
theorem bW {Q : Ex → St → Prop} {σ : St} : xU Q (some σ) ↔ Q .norm σ := Iff.rfl
theorem cZ {Q : Ex → St → Prop} : xU Q none ↔ False := Iff.rfl
theorem bZ {C : Ctx} {f id : Nat} {ops : Array Oper} {draw : Bool} {σ : St} {Q : Ex → St → Prop} : WP C f (.region id ops draw) σ Q ↔ xU Q (bQ C (callW C) f id ops draw σ) := by
 rw [df]
 cases bQ C (callW C) f id ops draw σ with
 | none => simp [xU]
 | some σ1 => exact ⟨fun ⟨_, h, hq⟩ => by cases h; exact hq, fun h => ⟨σ1, rfl, h⟩⟩
def wM (C : Ctx) (f : Nat) (a b : Code) (σ : St) (Q : Ex → St → Prop) (o : Option V) : Prop := ∃ t, o = some (.bool t) ∧ if t = true then WP C f a σ Q else WP C f b σ Q
theorem dY {C : Ctx} {f : Nat} {c : Operand} {a b : Code} {σ : St} {Q : Ex → St → Prop} : WP C f (.cond c a b) σ Q ↔ wM C f a b σ Q (ev σ c) := eP
theorem bY {C : Ctx} {f : Nat} {a b : Code} {σ : St} {Q : Ex → St → Prop} : wM C f a b σ Q (some (.bool true)) ↔ WP C f a σ Q := by simp [wM]
theorem bJ {C : Ctx} {f : Nat} {a b : Code} {σ : St} {Q : Ex → St → Prop} : wM C f a b σ Q (some (.bool false)) ↔ WP C f b σ Q := by simp [wM]
theorem cu {C : Ctx} {f : Nat} {a b : Code} {σ : St} {Q : Ex → St → Prop} {t : Bool} : wM C f a b σ Q (some (.bool t)) ↔ if t = true then WP C f a σ Q else WP C f b σ Q := by simp [wM]
section
variable {σ : St} {C : Ctx}
end
theorem H5 {C : Ctx} {f id : Nat} {ops : Array Oper} {h : Hint} {σ : St} {Q : Ex → St → Prop} (X : List Nat) (ho : C.ord f id = some h) (hr : xU Q (eQ C (callW C) f ops { h with exc := X } σ)) : xU Q (bQ C (callW C) f id ops true σ) := by
 cases hh : eQ C (callW C) f ops { h with exc := X } σ with
 | none => rw [hh] at hr; exact hr.elim
 | some x => rw [hh] at hr; rw [lu ho hh]; exact hr
theorem Ht {a b c X : List Nat} {d e : List (Nat × Nat)} {g : List (Nat × List Nat)} {n : Nat} {H H' : List Ob} (hk : ∀ q, q < n → q ∉ X → H'[q]? = H[q]?) : iT ⟨a, b, c, d, e, g, X⟩ n H H' := fun q hq => hk q hq.1 fun hm => by
 have := hq.2
 simp at this
 exact this hm
theorem A8 {E : LT} {H H' : List Ob} {s x s' : V} (h : aT E H s x = some (s', H')) : H.length ≤ H'.length := by
 unfold aT at h
 repeat' split at h
 all_goals first
  | (cases h; done)
  | (cases h; simp)
section
variable {id : Nat} {v : V} {G G' K S X : List Ob} {l : List Nat}
theorem Ev.split (hs : SrcIn G id v) (h : Ev id (G ++ S) G') (hl : G'.length = (G ++ S).length) (hs' : SrcIn G' id v) : ∃ K, G' = K ++ S ∧ K.length = G.length ∧ Ev id G K ∧ SrcIn K id v := by
 have hid := hs.lt
 have hlen : G.length ≤ G'.length := by rw [hl]; simp
 have e : G' = G'.take G.length ++ S := by
  apply List.ext_getElem?
  intro q
  by_cases hq : q < G.length
  ·rw [List.getElem?_append_left (by rw [List.length_take]; omega), List.getElem?_take_of_lt hq]
  ·rw [List.getElem?_append_right (by rw [List.length_take]; omega), List.length_take, Nat.min_eq_left hlen]
   by_cases hq2 : q < (G ++ S).length
   ·rw [h.2 q (by omega) hq2, List.getElem?_append_right (by omega)]
   ·rw [List.getElem?_eq_none (by omega), List.getElem?_eq_none (by simp at hq2; omega)]
 have hK : (G'.take G.length).length = G.length := by rw [List.length_take]; omega
 have hE : Ev id G (G'.take G.length) := ⟨by omega, fun q hq hlt => by rw [List.getElem?_take_of_lt hlt, h.2 q hq (by simp; omega), List.getElem?_append_left hlt]⟩
 refine ⟨_, e, hK, hE, ?_⟩
 obtain ⟨H', n', a', m', z', e2, hs2⟩ := hs'
 have hid' : id < G'.length := by omega
 have e3 : (G'.take G.length)[id]? = some (.mk true 4 [v, .int .i64 a', .int .u64 m', .int .i64 z']) := by
  rw [List.getElem?_take_of_lt hid, e2, dS hs2.lt]
 obtain ⟨H0, n0, a0, m0, z0, e4, hs0⟩ := hs
 have e5 : G'.take G.length = bI (G'.take G.length) id v a' m' z' := by
  apply List.ext_getElem?
  intro q
  by_cases hq : q = id
  ·subst hq; rw [dS (by omega), e3]
  ·rw [lh hq]
 have hb2 : n' = n0 := by
  obtain ⟨us, h1, h2⟩ := hs2.bytes
  obtain ⟨us0, h3, h4⟩ := hs0.bytes
  obtain ⟨w, k, f1, f2, _, f4⟩ := aC.1 h2
  obtain ⟨w0, k0, g1, g2, _, g4⟩ := aC.1 h4
  cases f1; cases g1; cases f2; cases g2
  have p1 := f4.len (e := 0) (s := 0) (b := 0) (z := [])
  have p2 := g4.len (e := 0) (s := 0) (b := 0) (z := [])
  rw [p1] at p2
  simp at p2
  omega
 subst hb2
 refine ⟨G'.take G.length, n', a', m', z', e5, ⟨by omega, ?_, hs2.at0, hs2.at1, hs2.m0, hs2.m1, hs2.z0, hs2.z1⟩⟩
 rw [← e5]
 obtain ⟨us, hn, hb⟩ := hs0.bytes
 refine ⟨us, hn, ?_⟩
 rw [← e4] at hb
 have hsA : sO G id v := SrcIn.at ⟨H0, n', a0, m0, z0, e4, hs0⟩
 exact At.ev (by decide) hsA ⟨⟨a', m', z', e3⟩, hs0.slc⟩ hE hb
theorem SrcIn.of {G0 : List Ob} (hs0 : SrcIn G0 id v) (h : SrcIn G id v) (hE : Ev id G0 G') (hid : G'[id]? = G[id]?) : SrcIn G' id v := by
 have hlt := hs0.lt
 obtain ⟨H2, n2, a, m, z, e2, hs2⟩ := h
 have e3 : G'[id]? = some (.mk true 4 [v, .int .i64 a, .int .u64 m, .int .i64 z]) := by rw [hid, e2, dS hs2.lt]
 have hsA := hs0.at
 obtain ⟨H0, n0, a0, m0, z0, e4, hs1⟩ := hs0
 have hl' : id < G'.length := Nat.lt_of_lt_of_le hlt hE.1
 have e5 : G' = bI G' id v a m z := by
  apply List.ext_getElem?
  intro q
  by_cases hq : q = id
  ·subst hq; rw [dS hl', e3]
  ·rw [lh hq]
 have hb2 : n2 = n0 := by
  obtain ⟨us, h1, h2⟩ := hs2.bytes
  obtain ⟨us0, h3, h4⟩ := hs1.bytes
  obtain ⟨w, k, f1, f2, _, f4⟩ := aC.1 h2
  obtain ⟨w0, k0, g1, g2, _, g4⟩ := aC.1 h4
  cases f1; cases g1; cases f2; cases g2
  have p1 := f4.len (e := 0) (s := 0) (b := 0) (z := [])
  have p2 := g4.len (e := 0) (s := 0) (b := 0) (z := [])
  rw [p1] at p2
  simp at p2
  omega
 subst hb2
 refine ⟨G', n2, a, m, z, e5, ⟨hl', ?_, hs2.at0, hs2.at1, hs2.m0, hs2.m1, hs2.z0, hs2.z1⟩⟩
 rw [← e5]
 obtain ⟨us, hn, hb⟩ := hs1.bytes
 refine ⟨us, hn, ?_⟩
 rw [← e4] at hb
 exact At.ev (by decide) hsA ⟨⟨a, m, z, e3⟩, hs1.slc⟩ hE hb
theorem Ev.appS (h : Ev id G K) (hl : K.length = G.length) : Ev id (G ++ S) (K ++ S) := ⟨by simp [hl], fun q hq hlt => by
 by_cases h2 : q < G.length
 ·rw [List.getElem?_append_left (by omega), List.getElem?_append_left h2, h.2 q hq h2]
 ·rw [List.getElem?_append_right (by omega), List.getElem?_append_right (by omega), hl]⟩
theorem IY {a b c : List Nat} {d e : List (Nat × Nat)} {g : List (Nat × List Nat)} {n : Nat} (h : Ev id G K) (hl : K.length = G.length) : iT ⟨a, b, c, d, e, g, [id]⟩ n (G ++ S) (K ++ S) := Ht fun q hq hX => by
 have hne : q ≠ id := by simpa using hX
 by_cases h2 : q < G.length
 ·rw [List.getElem?_append_left (by omega), List.getElem?_append_left h2, h.2 q hne h2]
 ·rw [List.getElem?_append_right (by omega), List.getElem?_append_right (by omega), hl]
theorem Dj {h : Hint} {n : Nat} : iT h n G G := fun _ _ => rfl
theorem wG (hl : K.length = G.length) : fK l G.length (G ++ S) (K ++ X) = K ++ fK l 0 S X := by
 have h1 := lU (H := K) (S := S) (X := X) (l := l)
 rw [← h1, hl]
 apply List.ext_getElem?
 intro i
 rw [fB, fB]
 by_cases hi : i < K.length
 ·rw [List.getElem?_append_left hi]
  cases K[i]? with
  | none => rfl
  | some o => rw [Option.map_some, Option.map_some, if_neg (fun hc => absurd hc.1 (by omega)), if_neg (fun hc => absurd hc.1 (by omega))]
 ·have : (G ++ S).getD i .dead = (K ++ S).getD i .dead := by
   rw [List.getD_eq_getElem?_getD, List.getD_eq_getElem?_getD, List.getElem?_append_right (by omega), List.getElem?_append_right (by omega), hl]
  rw [this]
def RowF (b : Nat) (G : List Ob) (es : Nat) (w : V) (n : Nat) (cs : List V) : Prop := ∃ i, b ≤ i ∧ w = .slc (some (i, 0)) n ∧ G[i]? = some (.mk true es cs) ∧ cs.length = n * es
theorem RowF.init {b es : Nat} (hb : b ≤ G.length) : RowF b (G ++ [.mk true es []]) es (.slc (some (G.length, 0)) 0) 0 [] := ⟨G.length, hb, rfl, get_last, by simp⟩
theorem RowF.ev {b es n : Nat} {w : V} {cs : List V} (h : RowF b G es w n cs) (hE : Ev id G G') (hid : id < b) : RowF b G' es w n cs := by
 obtain ⟨i, h1, h2, h3, h4⟩ := h
 exact ⟨i, h1, h2, by rw [hE.2 i (by omega) (List.getElem?_eq_some_iff.1 h3).1]; exact h3, h4⟩
theorem RowF.one {b es n : Nat} {w : V} {cs : List V} (h : RowF b G es w n cs) : aJ w = true ∧ cellsOf w = some [w] := by
 obtain ⟨i, _, rfl, _⟩ := h; exact ⟨rfl, rfl⟩
theorem RowF.len {b es n : Nat} {w : V} {cs : List V} (h : RowF b G es w n cs) {e s b : Nat} {z : List V} : lenV ⟨.slice e, s, b, z⟩ w = some (.int .i64 n) := by
 obtain ⟨i, _, rfl, _⟩ := h; rfl
theorem RowF.notlow {b es n : Nat} {w : V} {cs : List V} {H : List Ob} (h : RowF b G es w n cs) (hH : H.length ≤ b) : ¬ dZ H w := by
 obtain ⟨i, h1, rfl, _⟩ := h
 rintro ⟨own, es, cells, h⟩
 have := (List.getElem?_eq_some_iff.1 h).1
 omega
theorem RowF.push {b es n m : Nat} {w x : V} {cs c : List V} {by_ : Nat} {z : List V} (h : RowF b G es w n cs) (hx : ∀ d, aI ⟨d, es, by_, z⟩ G x = some (c, m)) (hc : c.length = m * es) (hm : m ≠ 0) (h0 : 0 < es) (hz : z.length = es) (hb0 : 0 < by_) (hb1 : by_ ≤ 1000000) (ho : c.all aJ = true) (hn : (n + m) * by_ ≤ aB) (hb : b ≤ G.length) :
  ∃ G', (∀ d, aT ⟨d, es, by_, z⟩ G w x = some (.slc (some (G.length, 0)) (n + m), G')) ∧ G'.length = G.length + 1 ∧ (∀ q, q < b → G'[q]? = G[q]?) ∧ RowF b G' es (.slc (some (G.length, 0)) (n + m)) (n + m) (cs ++ c) := by
 obtain ⟨i, h1, rfl, h3, h4⟩ := h
 have hi := (List.getElem?_eq_some_iff.1 h3).1
 refine ⟨_, fun d => dM hz h0 hb0 hb1 h3 h4 (hx d) hm ho hn, by simp, fun q hq => ?_, ⟨G.length, hb, rfl, ?_, by simp [h4, hc, Nat.add_mul]⟩⟩
 ·rw [List.getElem?_append_left (by rw [List.length_set]; omega), List.getElem?_set_ne (by omega)]
 ·have : G.length = (G.set i .dead).length := by simp
  rw [this, get_last]
theorem RowF.push1 {b n : Nat} {w : V} {cs c : List V} {by_ : Nat} {z : List V} (h : RowF b G c.length w n cs) (h0 : 0 < c.length) (hz : z.length = c.length) (hb0 : 0 < by_) (hb1 : by_ ≤ 1000000) (ho : c.all aJ = true) (hn : (n + 1) * by_ ≤ aB) (hb : b ≤ G.length) :
  ∃ G', (∀ d, aT ⟨d, c.length, by_, z⟩ (G ++ [.mk true c.length c]) w (.slc (some (G.length, 0)) 1) = some (.slc (some (G.length + 1, 0)) (n + 1), G')) ∧ G'.length = G.length + 2 ∧ (∀ q, q < b → G'[q]? = G[q]?) ∧ RowF b G' c.length (.slc (some (G.length + 1, 0)) (n + 1)) (n + 1) (cs ++ c) := by
 obtain ⟨i, g1, g2, g3, g4⟩ := h
 have h' : RowF b (G ++ [.mk true c.length c]) c.length w n cs := ⟨i, g1, g2, by rw [List.getElem?_append_left (List.getElem?_eq_some_iff.1 g3).1]; exact g3, g4⟩
 obtain ⟨G', q1, q2, q3, q4⟩ := RowF.push h' (x := .slc (some (G.length, 0)) 1) (by_ := by_) (z := z) (c := c) (m := 1) (fun d => iQ h0) (by omega) (by omega) h0 hz hb0 hb1 ho hn (by simp; omega)
 simp at q1 q2 q4
 exact ⟨G', q1, q2, fun q hq => by rw [q3 q hq, List.getElem?_append_left (by omega)], q4⟩
def fF (l : List PRdn) : List V := l.flatMap fun r => [.str r.attr, .str r.value]
theorem GU {l : List PRdn} : (fF l).length = l.length * 2 := by
 induction l with
 | nil => rfl
 | cons r l ih => simp [fF] at ih ⊢; omega
theorem vz {l : List PRdn} {r : PRdn} : fF (l ++ [r]) = fF l ++ [.str r.attr, .str r.value] := by simp [fF]
theorem I5 {l : List PRdn} {i : Nat} {r : PRdn} (h : l[i]? = some r) : ((fF l).drop (i * 2)).take 2 = [.str r.attr, .str r.value] := by
 induction l generalizing i with
 | nil => simp at h
 | cons x l ih =>
  cases i with
  | zero => simp at h; subst h; simp [fF]
  | succ i =>
   simp at h
   have := ih h
   simp only [fF, List.flatMap_cons] at this ⊢
   rw [show (i + 1) * 2 = 2 + i * 2 by omega, ← List.drop_drop]
   simpa using this
theorem qm {b : Nat} {w : V} {l : List PRdn} (h : RowF b G 2 w l.length (fF l)) (hl : l.length ≤ 1000) (hb : ∀ r ∈ l, r.attr.length ≤ 100 ∧ r.value.length ≤ 100) : eu G w l := by
 obtain ⟨i, h1, rfl, h3, h4⟩ := h
 refine aC.2 ⟨_, _, rfl, rfl, by simp; unfold maxLen; omega, .inr ⟨i, 0, true, _, by simp, h3, by simp [h4, Sh.size, Sh.sizes], fun j x hx => ?_⟩⟩
 rw [List.getElem?_map] at hx
 obtain ⟨y, hy, rfl⟩ := Option.map_eq_some_iff.1 hx
 have := hb y (List.mem_of_getElem? hy)
 have e : ((fF l).drop (0 + j * 2)).take 2 = [.str y.attr, .str y.value] := by rw [Nat.zero_add]; exact I5 hy
 exact IZ.2 ⟨e, by unfold maxLen; omega, by unfold maxLen; omega⟩
end
end Go.Lite
end
section
namespace Go.Proofs.Try1
open Go Go.Lite
attribute [-simp] df eP
attribute [local simp] bZ dY bW cZ bY bJ
attribute [local simp low] cu
def Dr (id : Nat) (v : V) (f : Nat) (as' : List V) (G : List Ob) (P : V → List Ob → Prop) : Prop := ∃ q G', callW C f (.ptr (some (id, 0)) :: as') G = some (q, G') ∧ Ev id G G' ∧ SrcIn G' id v ∧ P q G'
theorem Dr.of {id : Nat} {v : V} {f : Nat} {as' : List V} {G : List Ob} {P : V → List Ob → Prop} (h : Ret C f (.ptr (some (id, 0)) :: as') G fun q G' => Ev id G G' ∧ SrcIn G' id v ∧ P q G') : Dr id v f as' G P := by
 obtain ⟨q, G', h1, h2, h3, h4⟩ := h
 exact ⟨q, G', h1, h2, h3, h4⟩
def Dk (id : Nat) (v : V) (f : Nat) (as' : List V) (G S : List Ob) (P : V → Prop) : Prop := ∃ q K, callW C f (.ptr (some (id, 0)) :: as') (G ++ S) = some (q, K ++ S) ∧ K.length = G.length ∧ Ev id G K ∧ SrcIn K id v ∧ P q
section
variable {id : Nat} {v : V} {G S : List Ob}
theorem MM {H : List Ob} {a m z a' m' : Int} : Ev id (bI H id v a m z) (bI H id v a' m' z) := ⟨by rw [kN, kN]; exact Nat.le_refl _, fun q hq _ => by rw [lh hq, lh hq]⟩
theorem Dk.of {f : Nat} {as' : List V} {P : V → Prop} (hs : SrcIn G id v) (h : ∀ {H n a m z}, G ++ S = bI H id v a m z → SrcOk H id v n a m z → ∃ q a' m', callW C f (.ptr (some (id, 0)) :: as') (bI H id v a m z) = some (q, bI H id v a' m' z) ∧ SrcOk H id v n a' m' z ∧ P q) : Dk id v f as' G S P := by
 obtain ⟨H, n, a, m, z, e, hs1⟩ := hs.app (T := S)
 obtain ⟨q, a', m', c, h3, hp⟩ := h e hs1
 obtain ⟨K, eK, hl, hE, hK⟩ := Ev.split hs (G' := bI H id v a' m' z) (by rw [e]; exact MM) (by rw [e, kN, kN]) ⟨H, n, a', m', z, rfl, h3⟩
 exact ⟨q, K, by rw [e, c, eK], hl, hE, hK, hp⟩
theorem LH (hs : SrcIn G id v) {most : Int} (hm : most ≤ 4611686018427387904) : Dk id v 79 [.int .i64 most] G S fun q => ∃ r : Nat, q = .int .i64 r ∧ (1 < most → (r : Int) < most) ∧ (most ≤ 1 → r = 0) := Dk.of hs fun e hs => by
 obtain ⟨r, a', m', c, h0, h1, h2, h3⟩ := Ud hs hm
 refine ⟨_, a', m', c, h3, r.toNat, ?_, ?_, ?_⟩
 ·rw [show ((r.toNat : Nat) : Int) = r by omega]
 ·intro h; have := h1 h; omega
 ·intro h; have := h2 h; omega
theorem nN (hs : SrcIn G id v) {most : Int} (hm : most ≤ 4611686018427387904) : Dk id v 81 [.int .i64 most] G S fun q => ∃ b, q = .bool b := Dk.of hs fun e hs => by
 obtain ⟨b, a', m', c, h3⟩ := OE hs hm
 exact ⟨_, a', m', c, h3, b, rfl⟩
theorem Eg (hs : SrcIn G id v) {w : V} {l : List Str} (hl : AStrs (G ++ S) w l) (h0 : 0 < l.length) (h1 : l.length ≤ 1000) : Dk id v 91 [w] G S fun q => ∃ s, q = .str s ∧ s ∈ l := Dk.of hs fun e hs => by
 obtain ⟨s, a', m', c, hm, h3⟩ := LZ hs (by rw [← e]; exact hl) h0 h1
 exact ⟨_, a', m', c, h3, s, rfl, hm⟩
theorem ru {G T : List Ob} {l : List Str} (hl : l.length ≤ 1000) (hb : ∀ s ∈ l, s.length ≤ 100) : AStrs (G ++ .mk true 1 (l.map V.str) :: T) (.slc (some (G.length, 0)) l.length) l := by
 have := (Gs.strs (H := G) (G := G ++ [.mk true 1 (l.map V.str)]) (v := .slc (some (G.length, 0)) (l.map V.str).length) (l := l) ⟨_, G.length, rfl, by simp, get_last, rfl⟩ (by unfold maxLen; omega) (fun s hs => by have := hb s hs; unfold maxLen; omega)).1
 have h2 := ASl.ext (T := T) this
 simpa using h2
theorem gq (hs : SrcIn G id v) (l : List Str) (h0 : 0 < l.length) (h1 : l.length ≤ 1000) (hb : ∀ s ∈ l, s.length ≤ 100) : Dk id v 91 [.slc (some (G.length, 0)) l.length] G (.mk true 1 (l.map V.str) :: S) fun q => ∃ s, q = .str s ∧ s.length ≤ 100 ∧ s ∈ l := by
 obtain ⟨q, K, c, e1, e2, e3, s, hq, hm⟩ := Eg (S := .mk true 1 (l.map V.str) :: S) hs (ru h1 hb) h0 h1
 exact ⟨q, K, c, e1, e2, e3, s, hq, hb s hm, hm⟩
end
theorem IW {id : Nat} {v : V} {G : List Ob} (hs : SrcIn G id v) : Dr id v 78 [] G fun q _ => ∃ s : Str, q = .str s ∧ s.length ≤ 100 := by
 apply Dr.of
 rw [Tf]
 obtain ⟨q, K, c, hl, e, s1, s, rfl, hm, _⟩ := gq (S := []) hs [[99, 110], [109, 97, 105, 108], [112, 104, 111, 110, 101], [117, 105, 100]] (by decide) (by decide) (by decide)
 have e' := (e.appS (S := [.mk true 1 [.str [99, 110], .str [109, 97, 105, 108], .str [112, 104, 111, 110, 101], .str [117, 105, 100]]]) hl)
 have e2 := Ev.app.trans e'
 simp at c
 simp [-uz, I8, Tryz.f78, ay, ax, ah, St.new, c]
 exact ⟨e2.gc, hs.gc s1.app, hm⟩
theorem rY {id : Nat} {v : V} {G : List Ob} (hs : SrcIn G id v) : Dr id v 80 [] G fun q _ => ∃ s : Str, q = .str s ∧ s.length ≤ 100 := by
 apply Dr.of
 rw [UJ]
 obtain ⟨q, K, c, hl, e, s1, s, rfl, hm, _⟩ := gq (S := []) hs [[97, 110, 110], [65, 110, 110], [98, 111, 98], [97, 64, 120], [53], [66, 32, 32, 98], [122, 101, 100]] (by decide) (by decide) (by decide)
 have e' := (e.appS (S := [.mk true 1 [.str [97, 110, 110], .str [65, 110, 110], .str [98, 111, 98], .str [97, 64, 120], .str [53], .str [66, 32, 32, 98], .str [122, 101, 100]]]) hl)
 have e2 := Ev.app.trans e'
 simp at c
 simp [-uz, IU, Tryz.f80, ay, ax, ah, St.new, c]
 exact ⟨e2.gc, hs.gc s1.app, hm⟩
theorem Kq {id : Nat} {v : V} {G : List Ob} (hs : SrcIn G id v) : Dr id v 246 [] G fun q _ => ∃ a b : Str, q = .agg [.str a, .str b] ∧ a.length ≤ 100 ∧ b.length ≤ 100 := by
 apply Dr.of
 rw [NJ]
 obtain ⟨_, K1, c1, l1, e1, s1, a1, rfl, h1, _⟩ := gq (S := []) hs [[99, 110], [111, 117], [100, 99]] (by decide) (by decide) (by decide)
 have f1 := Ev.app.trans (e1.appS (S := [.mk true 1 [.str [99, 110], .str [111, 117], .str [100, 99]]]) l1)
 obtain ⟨_, K2, c2, l2, e2, s2, a2, rfl, h2, _⟩ := gq (S := []) (G := K1 ++ [.mk true 1 [.str [99, 110], .str [111, 117], .str [100, 99]]]) s1.app [[97, 110, 110], [65, 110, 110], [98, 111, 98, 32, 32, 98], [120], [97, 44, 98], [35, 49], [32, 121, 32], [61], [92]] (by decide) (by decide) (by decide)
 generalize hB : List.map V.str [[97, 110, 110], [65, 110, 110], [98, 111, 98, 32, 32, 98], [120], [97, 44, 98], [35, 49], [32, 121, 32], [61], [92]] = B at c2
 have f2 := f1.trans (Ev.app.trans (e2.appS (S := [.mk true 1 B]) l2))
 obtain ⟨_, K3, c3, l3, e3, s3, b, rfl⟩ := nN (S := []) (G := K2 ++ [.mk true 1 B]) s2.app (most := 30) (by decide)
 have f3 := f2.trans e3
 subst hB
 simp at c1 c2 c3
 cases b with
 | false =>
  simp [uq, Tryz.f246, ay, ax, ah, St.new, c1, c2, c3, aH, ak]
  exact ⟨f3.gc, hs.gc s3, a1, a2, ⟨rfl, rfl⟩, h1, h2⟩
 | true =>
  simp [-BL, uq, Tryz.f246, ay, ax, ah, St.new, c1, c2, c3, aH, ak]
  refine H5 [id] BL ?_
  obtain ⟨_, K4, c4, l4, e4, s4, a3, rfl, h3, _⟩ := gq (S := [.dead, .dead]) s3 [[99, 110], [65], []] (by decide) (by decide) (by decide)
  simp at c4
  obtain ⟨_, K5, c5, l5, e5, s5, a4, rfl, h4⟩ := Eg (S := [.mk true 1 [.str [99, 110], .str [65], .str []], .mk true 1 (List.replicate 41 (.int .u8 0)), .mk true 1 (List.map V.str [[], [32], [10], List.replicate 41 0])]) s4 (w := .slc (some (K4.length + 2, 0)) 4) (l := [[], [32], [10], List.replicate 41 0]) (by
   have := ru (G := K4 ++ [.mk true 1 [.str [99, 110], .str [65], .str []], .mk true 1 (List.replicate 41 (.int .u8 0))]) (T := []) (l := [[], [32], [10], List.replicate 41 0]) (by decide) (by decide)
   simpa using this) (by decide) (by decide)
  have k1 : dP [0] K3.length (K3 ++ [Ob.mk true 1 [.str [99, 110], .str [65], .str []], .mk true 1 (List.replicate 41 (.int .u8 0)), .dead]) = K3 ++ [.dead, .mk true 1 (List.replicate 41 (.int .u8 0)), .dead] := by rw [lH]; rfl
  have hmm : (41 : Int) ≤ (aB : Int) := by decide
  have hmm' : 41 ≤ aB := by decide
  have x1 : aQ (K3 ++ [.dead, .mk true 1 (List.replicate 41 (.int .u8 0)), .dead]) (some (K3.length + 1, 0)) 41 = some (List.replicate 41 (.int .u8 0)) := by
   simp only [aQ, dw]
   rfl
  have x2 : List.mapM gy (List.replicate 41 (.int .u8 0)) = some (List.replicate 41 0) := by rfl
  have x3 : isByte ⟨.int .u8, 1, 1, [.int .u8 0]⟩ = true := rfl
  have hid := s3.lt
  have x4 : ¬ (K3.length + 1 = id) := by omega
  have x5 := IY (n := K3.length + 3) (a := [0, 1, 3, 4, 5, 6, 2, 7, 8, 9]) (b := [1, 2]) (c := [5]) (d := [(9, 3)]) (e := [(1, 0), (4, 1), (6, 2)]) (g := [(2, [1, 2]), (5, [0])]) e4 l4 (S := [Ob.mk true 1 [.str [99, 110], .str [65], .str []], .dead, .dead])
  have k2 : dP [1, 2] K3.length (K3 ++ [Ob.mk true 1 [.str [99, 110], .str [65], .str []], .mk true 1 (List.replicate 41 (.int .u8 0)), .mk true 1 (List.map V.str [[], [32], [10], List.replicate 41 0])]) = K3 ++ [Ob.mk true 1 [.str [99, 110], .str [65], .str []], .dead, .dead] := by rw [lH]; rfl
  have k3 : fK [1, 2] K3.length (K3 ++ [Ob.mk true 1 [.str [99, 110], .str [65], .str []], .mk true 1 (List.replicate 41 (.int .u8 0)), .mk true 1 (List.map V.str [[], [32], [10], List.replicate 41 0])]) (K4 ++ [Ob.mk true 1 [.str [99, 110], .str [65], .str []], .dead, .dead]) = K4 ++ [Ob.mk true 1 [.str [99, 110], .str [65], .str []], .mk true 1 (List.replicate 41 (.int .u8 0)), .mk true 1 (List.map V.str [[], [32], [10], List.replicate 41 0])] := by rw [wG l4]; rfl
  have k4 : fK [0] K3.length (K3 ++ [Ob.mk true 1 [.str [99, 110], .str [65], .str []], .mk true 1 (List.replicate 41 (.int .u8 0)), .dead]) (K3 ++ [Ob.dead, .mk true 1 (List.replicate 41 (.int .u8 0)), .dead]) = K3 ++ [Ob.mk true 1 [.str [99, 110], .str [65], .str []], .mk true 1 (List.replicate 41 (.int .u8 0)), .dead] := by rw [lU]; rfl
  rw [l4] at c5
  simp [List.replicate] at k1 k2 k3 k4 c5 x1 x2
  simp [eQ, uq, Tryz.f246, ay, ax, ah, St.new, aH, ak, ae, List.lookup, List.replicate, lM, lT, iy, lZ, o9, hmm, hmm', k1, k2, k3, k4, x1, x2, x3, x4, x5, c4, c5, l4, l5, Dj]
  have f5 := (f3.trans (e4.trans e5)).trans (Ev.app (T := [.mk true 1 [.str [99, 110], .str [65], .str []], .mk true 1 (List.replicate 41 (.int .u8 0)), .mk true 1 (List.map V.str [[], [32], [10], List.replicate 41 0])]))
  have s6 : SrcIn (K5 ++ [.mk true 1 [.str [99, 110], .str [65], .str []], .mk true 1 (List.replicate 41 (.int .u8 0)), .mk true 1 (List.map V.str [[], [32], [10], List.replicate 41 0])]) id v := s5.app
  have h4' : a4.length ≤ 100 := by
   simp at h4
   rcases h4 with rfl | rfl | rfl | rfl <;> simp
  simp [List.replicate] at f5 s6
  exact ⟨f5.gc, hs.gc s6, a3, a4, ⟨rfl, rfl⟩, h3, h4'⟩
theorem LV {id : Nat} {v : V} {G : List Ob} (hs : SrcIn G id v) : Dr id v 176 [] G fun q G' => ∃ dn : List PRdn, RowF G.length G' 2 q dn.length (fF dn) ∧ dn.length ≤ 10 ∧ ∀ r ∈ dn, r.attr.length ≤ 100 ∧ r.value.length ≤ 100 := by
 apply Dr.of
 rw [NL]
 have hid := hs.lt
 obtain ⟨_, K1, c1, l1, e1, s1, n, rfl, hn, _⟩ := LH (G := G ++ [.mk true 2 []]) (S := []) hs.app (most := 4) (by decide)
 have hn4 : n < 4 := by have := hn (by decide); omega
 have f1 := Ev.app.trans e1
 simp at c1
 simp [E5, Tryz.f176, ay, ax, ah, St.new, c1]
 have w0 : RowF G.length (G ++ [.mk true 2 []]) 2 (.slc (some (G.length, 0)) 0) 0 (fF []) := RowF.init (Nat.le_refl _)
 refine aA (fun k σ => ∃ (r : Nat → R) (K : List Ob) (w : V) (dn : List PRdn), σ = ⟨r, 0, K⟩ ∧ r 0 = .val (.ptr (some (id, 0))) ∧ r 3 = .val w ∧ r 4 = .val (.int .i64 k) ∧ Ev id G K ∧ SrcIn K id v ∧ RowF G.length K 2 w dn.length (fF dn) ∧ dn.length + k ≤ 3 ∧ ∀ r ∈ dn, r.attr.length ≤ 100 ∧ r.value.length ≤ 100) ?_ n _ ⟨_, K1, _, [], rfl, by simp, by simp, by simp, f1, s1, w0.ev e1 hid, by simp; omega, by simp⟩
 rintro k σ ⟨r, K, w, dn, rfl, r0, r3, r4, hE, hS, hw, hlen, hb⟩
 cases k with
 | zero =>
  obtain ⟨_, K2, c2, l2, e2, s2, t, rfl⟩ := nN (S := []) hS (most := 30) (by decide)
  simp at c2
  have hE2 := hE.trans e2
  have hw2 := hw.ev e2 hid
  have hwo := hw2.one
  cases t with
  | false =>
   have hg : eU G K2 w = K2 := gJ (hw2.notlow (Nat.le_refl _))
   simp [r0, r3, r4, ae, af, List.lookup, c2, hwo, hg]
   exact ⟨hE2, s2, dn, hw2, by omega, hb⟩
  | true =>
   simp [r0, r3, r4, ae, af, List.lookup, c2, hwo]
   refine aA (fun k σ => ∃ (r : Nat → R) (K : List Ob) (w : V) (dn : List PRdn), σ = ⟨r, 0, K⟩ ∧ r 0 = .val (.ptr (some (id, 0))) ∧ r 3 = .val w ∧ Ev id G K ∧ SrcIn K id v ∧ RowF G.length K 2 w dn.length (fF dn) ∧ dn.length + k = 7 ∧ ∀ r ∈ dn, r.attr.length ≤ 100 ∧ r.value.length ≤ 100) ?_ (7 - dn.length) _ ⟨_, K2, w, dn, rfl, by simp [r0], by simp [r3], hE2, s2, hw2, by omega, hb⟩
   clear hE hS hw hlen hb r0 r3 r4 c2 l2 e2 s2 hE2 hw2 hwo
   rintro k σ ⟨r, K, w, dn, rfl, r0, r3, hE, hS, hw, hlen, hb⟩
   obtain ⟨_, K2, c2, l2, e2, s2, m, rfl, hm, _⟩ := LH (S := []) hS (most := 3) (by decide)
   have hm3 : m < 3 := by have := hm (by decide); omega
   simp at c2
   have hE2 := hE.trans e2
   have hw2 := hw.ev e2 hid
   have hwo := hw2.one
   have hwr : IntKind.i64.wrap (5 + (m : Int)) = 5 + m := wrap_i64 (by omega) (by omega)
   by_cases g : (dn.length : Int) < 5 + m
   ·cases k with
    | zero => omega
    | succ k =>
     have hlt : G.length ≤ K2.length := hE2.1
     have hmx : (dn.length + 1) * 32 ≤ aB := by unfold aB; omega
     obtain ⟨G', p1, p2, p3, p4⟩ := RowF.push1 (c := [.str [99, 110], .str [120]]) (by_ := 32) (z := [.str [], .str []]) hw2 (by simp) (by simp) (by decide) (by decide) rfl hmx hlt
     simp at p1
     have hE3 : Ev id G G' := ⟨by omega, fun q hq hql => by rw [p3 q hql, hE2.2 q hq hql]⟩
     have hS3 : SrcIn G' id v := SrcIn.of hs s2 hE3 (p3 id hid)
     simp [r0, r3, ae, af, List.lookup, c2, hw.len, hwr, g, ay, ax, ah, St.new, aH, ak, p1]
     refine ⟨k, by omega, _, _, ⟨rfl, rfl⟩, by simp [r0], _, by simp; rfl, hE3, hS3, dn ++ [⟨[99, 110], [120]⟩], ?_, by simp; omega, fun r hr => ?_⟩
     ·rw [vz, List.length_append]; exact p4
     ·rcases List.mem_append.1 hr with h | h
      ·exact hb r h
      ·simp at h; subst h; decide
   ·have hg : eU G K2 w = K2 := gJ (hw2.notlow (Nat.le_refl _))
    simp [r0, r3, ae, af, List.lookup, c2, hw.len, hwr, g, hwo, hg]
    exact ⟨hE2, s2, dn, hw2, by omega, hb⟩
 | succ k =>
  have hw1 : IntKind.i64.wrap ((k : Int) + 1 - 1) = k := by rw [wrap_i64 (by omega) (by omega)]; omega
  have hk0 : (0 : Int) < (k : Int) + 1 := by omega
  obtain ⟨_, K2, c2, e2, s2, a, b, rfl, ha, hb2⟩ := Kq hS
  have hE2 := hE.trans e2
  have hw2 := hw.ev e2 hid
  have hlt : G.length ≤ K2.length := hE2.1
  have hmx : (dn.length + 1) * 32 ≤ aB := by unfold aB; omega
  obtain ⟨G', p1, p2, p3, p4⟩ := RowF.push1 (c := [.str a, .str b]) (by_ := 32) (z := [.str [], .str []]) hw2 (by simp) (by simp) (by decide) (by decide) rfl hmx hlt
  simp at p1
  have hE3 : Ev id G G' := ⟨by omega, fun q hq hql => by rw [p3 q hql, hE2.2 q hq hql]⟩
  have hS3 : SrcIn G' id v := SrcIn.of hs s2 hE3 (p3 id hid)
  simp [r0, r3, r4, ae, af, List.lookup, c2, hw1, hk0, ay, ax, ah, St.new, aH, ak, p1]
  refine ⟨k, by omega, _, _, ⟨rfl, rfl⟩, by simp [r0], _, by simp; rfl, by simp; exact wrap_i64 (by omega) (by omega), hE3, hS3, dn ++ [⟨a, b⟩], ?_, by simp; omega, fun r hr => ?_⟩
  ·rw [vz, List.length_append]; exact p4
  ·rcases List.mem_append.1 hr with h | h
   ·exact hb r h
   ·simp at h; subst h; exact ⟨ha, hb2⟩
theorem Pm {H : List Ob} {n : Nat} (hn : n < 10) : ∃ s : Str, callW C 177 [.int .i64 n] H = some (.str s, H) ∧ s.length ≤ 2 := by
 suffices hs : Ret C 177 [.int .i64 n] H fun q H' => ∃ s : Str, q = .str s ∧ H' = H ∧ s.length ≤ 2 by
  obtain ⟨q, H', hc, s, rfl, rfl, h⟩ := hs
  exact ⟨s, hc, h⟩
 rw [Pq]
 by_cases g : n = 0
 ·subst g
  simp [zu, Tryz.f177]
 have g' : ¬ (n : Int) = 0 := by omega
 have g2 : ¬ (n : Int) < 0 := by omega
 simp [zu, Tryz.f177, g, g', g2]
 refine aA (fun k σ => ∃ (r : Nat → R) (T : List Ob) (m : Nat) (s : Str), σ = ⟨r, 0, H ++ T⟩ ∧ r 0 = .val (.int .i64 m) ∧ r 3 = .val (.bool false) ∧ r 4 = .val (.str s) ∧ (k = 0 → m = 0) ∧ (0 < k → 0 < m) ∧ m < 10 ∧ s.length + k ≤ 1) ?_ 1 _ ⟨_, [], n, [], by rw [List.append_nil], by simp, by simp, by simp, by omega, by omega, hn, by simp⟩
 rintro k σ ⟨r, T, m, s, rfl, r0, r3, r4, h1, h2, h3, h4⟩
 cases k with
 | zero =>
  have := h1 rfl
  subst this
  have hl : s.length ≤ 2 := by omega
  simp [r0, r3, r4, hl, ae, af, List.lookup]
 | succ k =>
  have hm := h2 (by omega)
  have hm0 : ¬ m = 0 := by omega
  have hm0' : ¬ (m : Int) = 0 := by omega
  have e1 : (m : Int).tmod 10 = m := by rw [Int.tmod_eq_emod_of_nonneg (by omega), Int.emod_eq_of_lt (by omega) (by omega)]
  have e2 : (m : Int).tdiv 10 = 0 := by rw [Int.tdiv_eq_ediv_of_nonneg (by omega), Int.ediv_eq_zero_of_lt (by omega) (by omega)]
  have e3 : ¬ (m : Int) < 0 := by omega
  have e4 : IntKind.u8.wrap (IntKind.i64.wrap (48 + (m : Int))) = 48 + m := by
   rw [wrap_i64 (by omega) (by omega)]
   simp only [IntKind.wrap, IntKind.bits, IntKind.signed]
   simp
   omega
  have hs0 : s = [] := List.length_eq_zero_iff.1 (by omega)
  subst hs0
  have x1 : aQ (H ++ (T ++ [.mk true 1 [.int .u8 (48 + (m : Int))]])) (some (H.length + T.length, 0)) 1 = some [.int .u8 (48 + (m : Int))] := by
   have : (H ++ (T ++ [Ob.mk true 1 [.int .u8 (48 + (m : Int))]]))[H.length + T.length]? = some (.mk true 1 [.int .u8 (48 + (m : Int))]) := by
    rw [← List.append_assoc, ← List.length_append, get_last]
   simp [aQ, this]
  have x3 : isByte ⟨.int .u8, 1, 1, [.int .u8 0]⟩ = true := rfl
  have x2 : ∃ c : UInt8, gy (.int .u8 (48 + (m : Int))) = some c := ⟨_, rfl⟩
  obtain ⟨c, x2⟩ := x2
  simp [r0, r3, r4, hm0, hm0', e1, e2, e3, e4, x1, x2, x3, ae, af, List.lookup, ay, ax, ah, St.new, aH, ak, CU, iO, lI, (by decide : 1 ≤ maxStr), wrap_i64 (n := 0) (by decide) (by decide)]
  exact ⟨0, by omega, 0, by omega, by omega, by omega, by omega, by omega⟩
end Go.Proofs.Try1
end
section
namespace Go.Proofs.Try1
open Go Go.Lite
theorem Kt {t : Str} {H : List Ob} (ht : t.length ≤ 1000) : callW C 264 [.str t] H = some (.bool (dec (Plain t)), H) := by
 apply Ret.dec
 rw [PR]
 simp [EO, Tryz.f264]
 refine aA (fun k σ => ∃ (i : Nat) (r : Nat → R), i + k = t.length ∧ σ = ⟨r, 0, H⟩ ∧ r 0 = .val (.str t) ∧ r 3 = .val (.int .i64 i) ∧ ∀ j, j < i → ∀ c, t[j]? = some c → vX c) ?_ t.length _ ⟨0, _, by simp, rfl, by simp, by simp, by simp⟩
 rintro k σ ⟨i, r, hik, rfl, r0, r3, hall⟩
 cases k with
 | zero =>
  have hi : i = t.length := by omega
  subst hi
  simp [r0, r3]
  intro j c hc
  exact hall j (List.getElem?_eq_some_iff.1 hc).1 c hc
 | succ k =>
  have hi : i < t.length := by omega
  obtain ⟨c, hc⟩ : ∃ c, t[i]? = some c := ⟨t[i], by simp [hi]⟩
  have hc' : t[i] = c := (List.getElem?_eq_some_iff.1 hc).2
  have hw : IntKind.i64.wrap ((i : Int) + 1) = ((i : Int) + 1) := wrap_i64 (by omega) (by omega)
  by_cases h1 : (c.toNat : Int) < 32
  ·simp [r0, r3, hi, hc', h1]
   intro hp
   have := (hp i c hc).1
   omega
  ·by_cases h2 : (c.toNat : Int) > 126
   ·simp [r0, r3, hi, hc', h1, h2]
    intro hp
    have := (hp i c hc).2
    omega
   ·simp [r0, r3, hi, hc', h1, h2, hw]
    exact ⟨k, by omega, i + 1, by omega, by omega, wX (P := fun _ c => vX c) hall hc ⟨by omega, by omega⟩⟩
theorem JY {t : Str} {H : List Ob} (ht : t.length ≤ 1000) : callW C 122 [.str t] H = some (.bool (dec (Plain t)), H) := by
 apply Ret.dec
 rw [OX]
 simp [FK, Tryz.f122]
 refine aA (fun k σ => ∃ (i : Nat) (r : Nat → R), i + k = t.length ∧ σ = ⟨r, 0, H⟩ ∧ r 0 = .val (.str t) ∧ r 5 = .val (.int .i64 t.length) ∧ r 6 = .val (.int .i64 i) ∧ ∀ j, j < i → ∀ c, t[j]? = some c → vX c) ?_ t.length _ ⟨0, _, by simp, rfl, by simp, by simp, by simp, by simp⟩
 rintro k σ ⟨i, r, hik, rfl, r0, r5, r6, hall⟩
 cases k with
 | zero =>
  have hi : i = t.length := by omega
  subst hi
  simp [r0, r5, r6]
  intro j c hc
  exact hall j (List.getElem?_eq_some_iff.1 hc).1 c hc
 | succ k =>
  have hi : i < t.length := by omega
  obtain ⟨c, hc⟩ : ∃ c, t[i]? = some c := ⟨t[i], by simp [hi]⟩
  have hc' : t[i] = c := (List.getElem?_eq_some_iff.1 hc).2
  have hw : IntKind.i64.wrap ((i : Int) + 1) = ((i : Int) + 1) := wrap_i64 (by omega) (by omega)
  by_cases h1 : (c.toNat : Int) < 32
  ·simp [r0, r5, r6, hi, hc', h1]
   intro hp
   have := (hp i c hc).1
   omega
  ·by_cases h2 : (c.toNat : Int) > 126
   ·simp [r0, r5, r6, hi, hc', h1, h2]
    intro hp
    have := (hp i c hc).2
    omega
   ·simp [r0, r5, r6, hi, hc', h1, h2, hw]
    exact ⟨k, by omega, i + 1, by omega, by omega, wX (P := fun _ c => vX c) hall hc ⟨by omega, by omega⟩⟩
theorem rG {t : Str} {H : List Ob} : callW C 93 [.str t] H = some (.bool (dec (aG t)), H) := by
 apply Ret.dec
 rw [Tv]
 by_cases g1 : (t.length : Int) < 1
 ·have g2 : ¬ aG t := fun h => by have := h.1; omega
  simp [zC, Tryz.f93, g1, g2]
 by_cases g2 : (t.length : Int) > 20
 ·have g3 : ¬ aG t := fun h => by have := h.2.1; omega
  simp [zC, Tryz.f93, g1, g2, g3]
 simp [zC, Tryz.f93, g1, g2]
 refine aA (fun k σ => ∃ (i : Nat) (r : Nat → R), i + k = t.length ∧ σ = ⟨r, 0, H⟩ ∧ r 0 = .val (.str t) ∧ r 3 = .val (.int .i64 i) ∧ ∀ j, j < i → ∀ c, t[j]? = some c → xH c ∨ (0 < j ∧ (xu c ∨ c.toNat = 95))) ?_ t.length _ ⟨0, _, by simp, rfl, by simp, by simp, by simp⟩
 rintro k σ ⟨i, r, hik, rfl, r0, r3, hall⟩
 cases k with
 | zero =>
  have hi : i = t.length := by omega
  subst hi
  have hok : aG t := ⟨by omega, by omega, fun j c hc => hall j (List.getElem?_eq_some_iff.1 hc).1 c hc⟩
  simp [r0, r3, hok]
 | succ k =>
  have hi : i < t.length := by omega
  obtain ⟨c, hc⟩ : ∃ c, t[i]? = some c := ⟨t[i], by simp [hi]⟩
  have hc' : t[i] = c := (List.getElem?_eq_some_iff.1 hc).2
  have hw : IntKind.i64.wrap ((i : Int) + 1) = ((i : Int) + 1) := wrap_i64 (by omega) (by omega)
  have hgo : xH c ∨ (0 < i ∧ (xu c ∨ c.toNat = 95)) → ∃ k', k' < k + 1 ∧ ∃ i', i' + k' = t.length ∧ (i : Int) + 1 = i' ∧ ∀ j, j < i' → ∀ c, t[j]? = some c → xH c ∨ (0 < j ∧ (xu c ∨ c.toNat = 95)) := fun h =>
   ⟨k, by omega, i + 1, by omega, by omega, wX (P := fun j c => xH c ∨ (0 < j ∧ (xu c ∨ c.toNat = 95))) hall hc h⟩
  by_cases h1 : xH c
  ·have h1a : (c.toNat : Int) ≥ 97 := by have := h1.1; omega
   have h1b : (c.toNat : Int) ≤ 122 := by have := h1.2; omega
   simp [r0, r3, hi, hc', h1a, h1b, hw]
   exact hgo (.inl h1)
  have hl : (¬ (c.toNat : Int) ≥ 97) ∨ ((c.toNat : Int) ≥ 97 ∧ ¬ (c.toNat : Int) ≤ 122) := by unfold xH at h1; omega
  have hno : ¬ (0 < i ∧ (xu c ∨ c.toNat = 95)) → ¬ aG t := fun h hk => (hk.2.2 i c hc).elim h1 h
  by_cases h2 : i = 0
  ·have hno := hno (by omega)
   subst h2
   rcases hl with hl | ⟨hl, hl2⟩
   ·simp [r0, r3, hi, hc', hl, hno]
   ·simp [r0, r3, hi, hc', hl, hl2, hno]
  have h2' : ¬ (i : Int) = 0 := by omega
  by_cases h3 : xu c
  ·have h3a : (c.toNat : Int) ≥ 48 := by have := h3.1; omega
   have h3b : (c.toNat : Int) ≤ 57 := by have := h3.2; omega
   have h3c : ¬ (c.toNat : Int) ≥ 97 := by omega
   simp [r0, r3, hi, hc', h2, h3a, h3b, h3c, hw]
   exact hgo (.inr ⟨by omega, .inl h3⟩)
  have hd : (¬ (c.toNat : Int) ≥ 48) ∨ ((c.toNat : Int) ≥ 48 ∧ ¬ (c.toNat : Int) ≤ 57) := by unfold xu at h3; omega
  by_cases h4 : c.toNat = 95
  ·have := hgo (.inr ⟨by omega, .inr h4⟩)
   simp [r0, r3, hi, hc', h2, h4, hw]
   exact this
  ·have h4' : ¬ (c.toNat : Int) = 95 := by omega
   have hno := hno (fun h => h.2.elim h3 h4)
   rcases hl with hl | ⟨hl, hl2⟩ <;> rcases hd with hd | ⟨hd, hd2⟩
   ·simp [r0, r3, hi, hc', h2, h4', hl, hd, hno]
   ·simp [r0, r3, hi, hc', h2, h4', hl, hd, hd2, hno]
   ·simp [r0, r3, hi, hc', h2, h4', hl, hl2, hd, hno]
   ·simp [r0, r3, hi, hc', h2, h4', hl, hl2, hd, hd2, hno]
def setB (l : Str) : List V := (List.range 256).map fun i => V.bool (l.any fun c => c.toNat == i)
theorem dV {l : Str} : (setB l).length = 256 := by simp [setB]
theorem oM {l : Str} {i : Nat} (h : i < 256) : (setB l)[i]? = some (.bool (l.any fun c => c.toNat == i)) := by
 unfold setB
 rw [List.getElem?_map, List.getElem?_range h]
 rfl
theorem HY {l : Str} {c : UInt8} : (setB l)[c.toNat]? = some (.bool (decide (c ∈ l))) := by
 rw [oM c.toNat_lt]
 congr 2
 rw [Bool.eq_iff_iff]
 simp only [List.any_eq_true, decide_eq_true_eq, beq_iff_eq]
 constructor
 ·rintro ⟨d, hd, he⟩
  rw [← UInt8.toNat_inj.1 he]
  exact hd
 ·intro h
  exact ⟨c, h, rfl⟩
theorem Hf : setB [] = List.replicate 256 (.bool false) := by
 apply List.ext_getElem?
 intro i
 by_cases h : i < 256
 ·rw [oM h, List.getElem?_replicate, if_pos h]
  rfl
 ·rw [List.getElem?_eq_none (by rw [dV]; omega), List.getElem?_eq_none (by rw [List.length_replicate]; omega)]
theorem setOf_snoc {l : Str} {c : UInt8} : (setB l).set c.toNat (.bool true) = setB (l ++ [c]) := by
 apply List.ext_getElem?
 intro i
 have hc := c.toNat_lt
 by_cases h : i < 256
 ·rw [oM h]
  by_cases hi : i = c.toNat
  ·subst hi
   rw [List.getElem?_set_self (by rw [dV]; omega)]
   simp
  ·rw [List.getElem?_set_ne (by omega), oM h]
   congr 2
   have : (c.toNat == i) = false := by simp; omega
   simp [this]
 ·rw [List.getElem?_eq_none (by simp [dV]; omega), List.getElem?_eq_none (by rw [dV]; omega)]
theorem Po {t : Str} {H : List Ob} (ht : ∀ c ∈ t, c.toNat < 128) (hl : t.length ≤ 1000) : callW C 255 [.str t] H = some (.tup [.agg (setB t), .bool true], H) := by
 apply Ret.eq
 rw [OW]
 simp [Ff, Tryz.f255, -List.reduceReplicate]
 refine aA (fun k σ => ∃ (i : Nat) (r : Nat → R), i + k = t.length ∧ σ = ⟨r, 1, H⟩ ∧ r 0 = .val (.str t) ∧ r 2 = .box 0 (setB (t.take i)) ∧ r 4 = .val (.int .i64 i)) ?_ t.length _ ⟨0, _, by simp, rfl, by simp, by simp [Hf, -List.reduceReplicate], by simp⟩
 rintro k σ ⟨i, r, hik, rfl, r0, r2, r4⟩
 cases k with
 | zero =>
  have hi : i = t.length := by omega
  subst hi
  rw [List.take_length] at r2
  have htk : (setB t).take 256 = setB t := List.take_of_length_le (by rw [dV]; omega)
  have hdr : (setB t).drop 256 = [] := List.drop_of_length_le (by rw [dV]; omega)
  have hall : ∀ x ∈ setB t, aJ x = true := fun x hx => by
   simp only [setB, List.mem_map] at hx
   obtain ⟨_, _, rfl⟩ := hx
   rfl
  simp [r0, r2, r4, dV, htk, hdr, if_pos hall, -List.reduceReplicate]
 | succ k =>
  have hi : i < t.length := by omega
  obtain ⟨c, hc⟩ : ∃ c, t[i]? = some c := ⟨t[i], by simp [hi]⟩
  have hc' : t[i] = c := (List.getElem?_eq_some_iff.1 hc).2
  have hw : IntKind.i64.wrap ((i : Int) + 1) = ((i : Int) + 1) := wrap_i64 (by omega) (by omega)
  have h128 : c.toNat < 128 := ht c (List.mem_of_getElem? hc)
  have h1 : ¬ (c.toNat : Int) ≥ 128 := by omega
  have h2 : (c.toNat : Int) < 256 := by omega
  have h3 : c.toNat < 256 := by omega
  have hs : setRange (setB (t.take i)) c.toNat [.bool true] = setB (t.take (i + 1)) := by rw [qF (by rw [dV]; omega), setOf_snoc, bg hc]
  have h4 : c.toNat + 1 ≤ 256 := by omega
  simp [r0, r2, r4, hi, hc', h1, h2, h3, h4, hw, dV, hs, dE, -setRange, -List.reduceReplicate]
  exact ⟨k, by omega, i + 1, by omega, rfl, by omega⟩
theorem Ik {l : Str} {H : List Ob} {id : Nat} {own : Bool} {c : UInt8} (h : H[id]? = some (.mk own 1 (setB l))) : callW C 296 [.ptr (some (id, 0)), .int .u8 c.toNat] H = some (.bool (decide (c ∈ l)), H) := by
 apply Ret.eq
 rw [OJ]
 have h2 : (c.toNat : Int) < 256 := by have := c.toNat_lt; omega
 have ld := bM (o := c.toNat) h HY
 simp [EY, Tryz.f296, dE, h2, ld, -List.reduceReplicate]
def kset : Str := [97, 98, 99, 100, 101, 102, 103, 104, 105, 106, 107, 108, 109, 110, 111, 112, 113, 114, 115, 116, 117, 118, 119, 120, 121, 122, 48, 49, 50, 51, 52, 53, 54, 55, 56, 57, 95]
theorem vw {c : UInt8} : c ∈ kset ↔ xH c ∨ xu c ∨ c.toNat = 95 := by
 unfold kset xH xu
 simp only [List.mem_cons, List.not_mem_nil, or_false, ← UInt8.toNat_inj]
 have h := c.toNat_lt
 simp only [UInt8.toNat_ofNat, Nat.reducePow, Nat.reduceMod]
 omega
def kT (t : Str) : Prop := ∀ c ∈ t, c ∈ kset
theorem PK {t : Str} {H : List Ob} {id : Nat} {own : Bool} (h : H[id]? = some (.mk own 1 (setB kset))) (hl : t.length ≤ 1000) : ∃ s, callW C 257 [.str t, .ptr (some (id, 0))] H = some (.str s, H) ∧ (kT s ↔ kT t) ∧ (s = [] ∨ ¬ kT s) ∧ s.length ≤ 1000 := by
 suffices hs : Ret C 257 [.str t, .ptr (some (id, 0))] H fun q H' => (∃ s, q = .str s ∧ (kT s ↔ kT t) ∧ (s = [] ∨ ¬ kT s) ∧ s.length ≤ 1000) ∧ H' = H by
  obtain ⟨q, H', hc, ⟨s, rfl, hr⟩, rfl⟩ := hs
  exact ⟨s, hc, hr⟩
 rw [Nj]
 simp [ER, Tryz.f257, -List.reduceReplicate]
 refine aA (fun k σ => ∃ (s : Str) (r : Nat → R), s.length = k ∧ σ = ⟨r, 0, H⟩ ∧ r 0 = .val (.str s) ∧ r 1 = .val (.ptr (some (id, 0))) ∧ (kT s ↔ kT t) ∧ s.length ≤ 1000) ?_ t.length _ ⟨t, _, rfl, rfl, by simp, by simp, Iff.rfl, hl⟩
 rintro k σ ⟨s, r, hk, rfl, r0, r1, hall, hs⟩
 cases k with
 | zero =>
  have hs0 : s = [] := List.length_eq_zero_iff.1 hk
  subst hs0
  simp [r0, r1]
  exact hall
 | succ k =>
  have hp : (0 : Int) < (s.length : Int) := by omega
  have hne : s ≠ [] := by rintro rfl; simp at hk
  obtain ⟨d, hd⟩ : ∃ d, s.getLast hne = d := ⟨_, rfl⟩
  have hd' : s[s.length - 1]? = some d := by rw [← List.getLast?_eq_getElem?, List.getLast?_eq_some_getLast hne, hd]
  have hd2 : s[s.length - 1]'(by omega) = d := (List.getElem?_eq_some_iff.1 hd').2
  have hw1 : IntKind.i64.wrap ((s.length : Int) - 1) = (s.length : Int) - 1 := wrap_i64 (by omega) (by omega)
  have h3 : (1 : Int) ≤ (s.length : Int) := by omega
  have h4 : ((s.length : Int) - 1).toNat = s.length - 1 := by omega
  have h5 : s.length - 1 < s.length := by omega
  have c1 := Ik (c := d) h
  have hdrop : s = s.take (s.length - 1) ++ [d] := by
   have := bg hd'
   rw [show s.length - 1 + 1 = s.length by omega, List.take_length] at this
   exact this
  by_cases hm : d ∈ kset
  ·have h6 : s.length - 1 ≤ s.length := by omega
   simp [r0, r1, hp, hne, hw1, h3, h4, h5, h6, hd2, hd', c1, hm, -List.reduceReplicate]
   refine ⟨by omega, k, by omega, _, by simp; omega, rfl, ?_, by simp; omega⟩
   rw [← hall]
   constructor
   ·intro hA c hc
    rw [hdrop] at hc
    rcases List.mem_append.1 hc with hc | hc
    ·exact hA c hc
    ·simp at hc; rw [hc]; exact hm
   ·intro hA c hc
    exact hA c (List.mem_of_mem_take hc)
  ·have hn : ¬ kT s := fun hA => hm (hA d (List.mem_of_getElem? hd'))
   simp [r0, r1, hp, hne, hw1, h3, h4, h5, hd2, hd', c1, hm, -List.reduceReplicate]
   exact ⟨by omega, hall, hn, hs⟩
theorem OI {t : Str} {H : List Ob} {id : Nat} {own : Bool} (h : H[id]? = some (.mk own 1 (setB kset))) (hl : t.length ≤ 1000) : ∃ s, callW C 256 [.str t, .ptr (some (id, 0))] H = some (.str s, H) ∧ (kT s ↔ kT t) ∧ (s = [] ∨ ¬ kT s) := by
 suffices hs : Ret C 256 [.str t, .ptr (some (id, 0))] H fun q H' => (∃ s, q = .str s ∧ (kT s ↔ kT t) ∧ (s = [] ∨ ¬ kT s)) ∧ H' = H by
  obtain ⟨q, H', hc, ⟨s, rfl, hr⟩, rfl⟩ := hs
  exact ⟨s, hc, hr⟩
 rw [NU]
 simp [EW, Tryz.f256, -List.reduceReplicate]
 refine aA (fun k σ => ∃ (s : Str) (r : Nat → R), s.length = k ∧ σ = ⟨r, 0, H⟩ ∧ r 0 = .val (.str s) ∧ r 1 = .val (.ptr (some (id, 0))) ∧ (kT s ↔ kT t)) ?_ t.length _ ⟨t, _, rfl, rfl, by simp, by simp, Iff.rfl⟩
 rintro k σ ⟨s, r, hk, rfl, r0, r1, hall⟩
 cases k with
 | zero =>
  have hs0 : s = [] := List.length_eq_zero_iff.1 hk
  subst hs0
  simp [r0, r1]
  exact hall
 | succ k =>
  match s, hk with
  | d :: s, hk =>
  have hk' : s.length = k := by simpa using hk
  have c1 := Ik (c := d) h
  have hp : (0 : Int) < (s.length : Int) + 1 := by omega
  by_cases hm : d ∈ kset
  ·simp [r0, r1, hp, c1, hm, -List.reduceReplicate]
   refine ⟨k, by omega, s, hk', rfl, ?_⟩
   rw [← hall]
   constructor
   ·intro hA c hc
    rcases List.mem_cons.1 hc with rfl | hc
    ·exact hm
    ·exact hA c hc
   ·intro hA c hc
    exact hA c (List.mem_cons_of_mem _ hc)
  ·have hn : ¬ kT (d :: s) := fun hA => hm (hA d List.mem_cons_self)
   simp [r0, r1, hp, c1, hm, -List.reduceReplicate]
   exact ⟨hall, hn⟩
theorem EU {c : UInt8} (h1 : 65 ≤ c.toNat) (h2 : c.toNat ≤ 90) : IntKind.u8.wrap ((c.toNat : Int) + 32) = ((oP c).toNat : Int) := by
 have : oP c = c + 32 := by unfold oP; rw [if_pos ⟨h1, h2⟩]
 rw [this]
 unfold IntKind.wrap
 simp [IntKind.bits, IntKind.signed, UInt8.toNat_add]
theorem xX {c : UInt8} (h1 : 65 ≤ c.toNat) (h2 : c.toNat ≤ 90) : (oP c).toNat = c.toNat + 32 := by
 have : oP c = c + 32 := by unfold oP; rw [if_pos ⟨h1, h2⟩]
 rw [this, UInt8.toNat_add]
 have : c.toNat + 32 < 256 := by omega
 simp
 omega
theorem Eo {c : UInt8} (h : ¬ (65 ≤ c.toNat ∧ c.toNat ≤ 90)) : oP c = c := by unfold oP; rw [if_neg h]
theorem wP {c : UInt8} : c = 32 ↔ c.toNat = 32 := ⟨fun h => by rw [h]; rfl, fun h => UInt8.toNat_inj.1 h⟩
theorem vF {t : Str} {i : Nat} {c : UInt8} (h : t[i]? = some c) (f : Str → UInt8 → Str) (b : Str) : (t.take (i + 1)).foldl f b = f ((t.take i).foldl f b) c := by
 rw [bg h, List.foldl_append]
 rfl
theorem jq {b : Str} {d : UInt8} (h : b.getLast? = some d) : sW b = true ↔ d = 32 := by
 unfold sW
 rw [h]
 simp
theorem sH {b : Str} (h : b ≠ []) : ∃ d, b.getLast? = some d := ⟨b.getLast h, List.getLast?_eq_some_getLast h⟩
theorem kQ {t : Str} {H : List Ob} : callW C 187 [.str t] H = some (.str (norm t), H) := by
 apply Ret.eq
 rw [Oa]
 by_cases g1 : (t.length : Int) > 100
 ·have : norm t = [] := by unfold norm; rw [if_neg (by omega)]
  simp [uy, Tryz.f187, g1, this]
 have hp := Kt (t := t) (H := H) (by omega)
 by_cases g2 : Plain t
 rotate_left
 ·rw [ai g2] at hp
  have : norm t = [] := by unfold norm; rw [ai g2]; simp
  simp [uy, Tryz.f187, g1, hp, this]
 rw [aj g2] at hp
 have hn : norm t = ui (t.foldl di []) := by unfold norm; rw [if_pos ⟨by omega, aj g2⟩]
 have hbz : ∀ i, ((t.take i).foldl di []).length ≤ 100 := fun i => by
  have := ou (t.take i) []
  simp at this
  omega
 simp [uy, Tryz.f187, g1, hp, ay, ax, ah, St.new]
 refine aA (fun k σ => ∃ (i : Nat) (r : Nat → R) (G : List Ob) (v : V), i + k = t.length ∧ σ = ⟨r, 0, G⟩ ∧ r 0 = .val (.str t) ∧ r 3 = .val v ∧ r 4 = .val (.int .i64 i) ∧ Bs H G v ((t.take i).foldl di [])) ?_ t.length _ ⟨0, _, _, _, by simp, rfl, by simp, by simp, by simp, Bs.init⟩
 rintro k σ ⟨i, r, G, v, hik, rfl, r0, r3, r4, hB⟩
 have hbl := hbz i
 generalize hb : (t.take i).foldl di [] = b at hB hbl
 have hw1 : IntKind.i64.wrap ((b.length : Int) - 1) = (b.length : Int) - 1 := wrap_i64 (by omega) (by omega)
 cases k with
 | zero =>
  have hi : i = t.length := by omega
  subst hi
  rw [List.take_length] at hb
  rw [hb] at hn
  obtain ⟨TT, rfl⟩ := hB.ext
  by_cases hb0 : b = []
  ·subst hb0
   obtain ⟨id, rfl, hst, hsl⟩ := hB.cut (n := 0) (Nat.le_refl _)
   simp [r0, r3, r4, hsl, isByte, ng, hn, ui, sW]
  ·obtain ⟨d, hd⟩ := sH hb0
   have hb1 : 0 < b.length := List.length_pos_iff.2 hb0
   have hb2 : 0 < (b.length : Int) := by omega
   have hb3 : (1 : Int) ≤ (b.length : Int) := by omega
   have hb5 : (b.length : Int) - 1 < (b.length : Int) := by omega
   have hb4 : ((b.length : Int) - 1).toNat = b.length - 1 := by omega
   obtain ⟨id, rfl, hld⟩ := hB.last hd
   by_cases hd32 : d = 32
   ·obtain ⟨_, hv, hst, hsl⟩ := hB.cut (n := b.length - 1) (by omega)
    cases hv
    have he : ui b = b.take (b.length - 1) := by unfold ui; rw [if_pos ((jq hd).2 hd32), List.dropLast_eq_take]
    have hd' : (d.toNat : Int) = 32 := by rw [hd32]; rfl
    simp [r0, r3, r4, hb0, hb1, hb2, hb3, hb4, hb5, hw1, hld, hd', hst, hsl, isByte, ng, hn, he]
   ·obtain ⟨_, hv, hst, hsl⟩ := hB.cut (n := b.length) (Nat.le_refl _)
    cases hv
    have he : ui b = b := by unfold ui; rw [if_neg (fun h => hd32 ((jq hd).1 h))]
    have hd' : ¬ (d.toNat : Int) = 32 := by have := mt wP.2 hd32; omega
    rw [List.take_length] at hsl
    simp [r0, r3, r4, hb0, hb1, hb2, hb3, hb4, hb5, hw1, hld, hd', hst, hsl, isByte, ng, hn, he]
 | succ k =>
  have hi : i < t.length := by omega
  obtain ⟨c, hc⟩ : ∃ c, t[i]? = some c := ⟨t[i], by simp [hi]⟩
  have hc' : t[i] = c := (List.getElem?_eq_some_iff.1 hc).2
  have hw : IntKind.i64.wrap ((i : Int) + 1) = ((i : Int) + 1) := wrap_i64 (by omega) (by omega)
  have hfs := vF hc di []
  rw [hb] at hfs
  have hgo : ∀ G' v', Bs H G' v' (di b c) → ∃ k', k' < k + 1 ∧ ∃ i', i' + k' = t.length ∧ (i : Int) + 1 = i' ∧ Bs H G' v' ((t.take i').foldl di []) := fun G' v' h =>
   ⟨k, by omega, i + 1, by omega, by omega, by rw [hfs]; exact h⟩
  by_cases hup : 65 ≤ c.toNat ∧ c.toNat ≤ 90
  ·have hu1 : (c.toNat : Int) ≥ 65 := by omega
   have hu2 : (c.toNat : Int) ≤ 90 := by omega
   have hlw := EU hup.1 hup.2
   have hl32 : ¬ ((oP c).toNat : Int) = 32 := by rw [xX hup.1 hup.2]; omega
   have hns : di b c = b ++ [oP c] := by unfold di; rw [if_neg (fun h => hl32 (by rw [wP.1 h.1]; rfl))]
   obtain ⟨v', G', ha, hB'⟩ := hB.push (by omega) (c := oP c) (d := .int .u8) (z := [.int .u8 0]) rfl
   rw [← hns] at hB'
   simp [r0, r3, r4, hi, hc', hu1, hu2, hlw, hl32, ay, ax, ah, St.new, jk, ha, hw]
   obtain ⟨k', q1, i', q2, q3, q4⟩ := hgo G' v' hB'
   exact ⟨k', q1, i', q2, _, _, ⟨rfl, rfl⟩, by simp [r0], _, by simp [r3], by simp [q3], q4⟩
  have hlc := Eo hup
  have hu : (¬ (c.toNat : Int) ≥ 65) ∨ ((c.toNat : Int) ≥ 65 ∧ ¬ (c.toNat : Int) ≤ 90) := by omega
  by_cases h32 : c = 32
  ·have h32' : (c.toNat : Int) = 32 := by rw [h32]; rfl
   have hu1 : ¬ (c.toNat : Int) ≥ 65 := by omega
   by_cases hb0 : b = []
   ·have hns : di b c = b := by unfold di; rw [if_pos ⟨by rw [hlc, h32], .inl hb0⟩]
    rw [hns] at hgo
    have hbl0 : b.length = 0 := by rw [hb0]; rfl
    have := hgo G v hB
    simp [r0, r3, r4, hi, hc', h32', hB.len, hbl0, hw]
    obtain ⟨k', q1, i', q2, q3, q4⟩ := this
    exact ⟨k', q1, i', q2, _, _, ⟨rfl, rfl⟩, by simp [r0], _, by simp [r3], by simp [q3], q4⟩
   ·obtain ⟨d, hd⟩ := sH hb0
    have hb1 : 0 < b.length := List.length_pos_iff.2 hb0
    have hb3 : (1 : Int) ≤ (b.length : Int) := by omega
    have hb5 : (b.length : Int) - 1 < (b.length : Int) := by omega
    have hb4 : ((b.length : Int) - 1).toNat = b.length - 1 := by omega
    obtain ⟨id, hv, hld⟩ := hB.last hd
    have hB0 := hB
    subst hv
    by_cases hd32 : d = 32
    ·have hns : di b c = b := by unfold di; rw [if_pos ⟨by rw [hlc, h32], .inr ((jq hd).2 hd32)⟩]
     rw [hns] at hgo
     have hd' : (d.toNat : Int) = 32 := by rw [hd32]; rfl
     have := hgo G _ hB
     simp [r0, r3, r4, hi, hc', h32', hb0, hb1, hb3, hb4, hb5, hw1, hld, hd', hw]
     obtain ⟨k', q1, i', q2, q3, q4⟩ := this
     exact ⟨k', q1, i', q2, _, _, ⟨rfl, rfl⟩, by simp [r0], _, by simp [r3], by simp [q3], q4⟩
    ·have hns : di b c = b ++ [c] := by unfold di; rw [if_neg (fun h => h.2.elim hb0 (fun h => hd32 ((jq hd).1 h))), hlc]
     have hd' : ¬ (d.toNat : Int) = 32 := by have := mt wP.2 hd32; omega
     obtain ⟨v', G', ha, hB'⟩ := hB.push (by omega) (c := c) (d := .int .u8) (z := [.int .u8 0]) rfl
     rw [← hns] at hB'
     rw [h32'] at ha
     simp [r0, r3, r4, hi, hc', h32', hb0, hb1, hb3, hb4, hb5, hw1, hld, hd', ay, ax, ah, St.new, jk, ha, hw]
     obtain ⟨k', q1, i', q2, q3, q4⟩ := hgo G' v' hB'
     exact ⟨k', q1, i', q2, _, _, ⟨rfl, rfl⟩, by simp [r0], _, by simp [r3], by simp [q3], q4⟩
  ·have h32' : ¬ (c.toNat : Int) = 32 := by have := mt wP.2 h32; omega
   have hns : di b c = b ++ [c] := by unfold di; rw [if_neg (fun h => h32 (hlc ▸ h.1)), hlc]
   obtain ⟨v', G', ha, hB'⟩ := hB.push (by omega) (c := c) (d := .int .u8) (z := [.int .u8 0]) rfl
   rw [← hns] at hB'
   have := hgo G' v' hB'
   rcases hu with hu | ⟨hu, hu2⟩
   ·simp [r0, r3, r4, hi, hc', hu, h32', ay, ax, ah, St.new, jk, ha, hw]
    obtain ⟨k', q1, i', q2, q3, q4⟩ := this
    exact ⟨k', q1, i', q2, _, _, ⟨rfl, rfl⟩, by simp [r0], _, by simp [r3], by simp [q3], q4⟩
   ·simp [r0, r3, r4, hi, hc', hu, hu2, h32', ay, ax, ah, St.new, jk, ha, hw]
    obtain ⟨k', q1, i', q2, q3, q4⟩ := this
    exact ⟨k', q1, i', q2, _, _, ⟨rfl, rfl⟩, by simp [r0], _, by simp [r3], by simp [q3], q4⟩
def jB (s w : Str) : Prop := w.length ≤ s.length ∧ s.drop (s.length - w.length) = w
theorem hasSuffix {s w : Str} {H : List Ob} (hs : s.length ≤ 1000000) (hw : w.length ≤ 1000000) : callW C 270 [.str s, .str w] H = some (.bool (dec (jB s w)), H) := by
 apply Ret.dec
 rw [Nh]
 by_cases h1 : (s.length : Int) ≥ w.length
 ·have hw1 : IntKind.i64.wrap ((s.length : Int) - w.length) = (s.length : Int) - w.length := wrap_i64 (by omega) (by omega)
  have h2 : (w.length : Int) ≤ (s.length : Int) := h1
  have h3 : ((s.length : Int) - w.length).toNat = s.length - w.length := by omega
  have h4 : (0 : Int) ≤ (s.length : Int) - w.length := by omega
  have h5 : w.length ≤ s.length := by omega
  by_cases h6 : s.drop (s.length - w.length) = w
  ·have hn : jB s w := ⟨h5, h6⟩
   simp [uk, Tryz.f270, h1, h2, h3, h4, h5, hw1, h6, hn]
  ·have hn : ¬ jB s w := fun h => h6 h.2
   simp [uk, Tryz.f270, h1, h2, h3, h4, h5, hw1, h6, hn]
 ·have hn : ¬ jB s w := fun h => h1 (by have := h.1; omega)
  simp [uk, Tryz.f270, h1, hn]
noncomputable def l9 (s w : Str) : Str := if dec (jB s w) = true then s.take (s.length - w.length) else s
theorem Bi {s w : Str} {H : List Ob} (hs : s.length ≤ 1000000) (hw : w.length ≤ 1000000) : callW C 212 [.str s, .str w] H = some (.str (l9 s w), H) := by
 apply Ret.eq
 rw [OL]
 have hc := hasSuffix (H := H) hs hw
 by_cases h : jB s w
 ·rw [aj h] at hc
  have h0 := h.1
  have hw1 : IntKind.i64.wrap ((s.length : Int) - w.length) = (s.length : Int) - w.length := wrap_i64 (by omega) (by omega)
  have h2 : (w.length : Int) ≤ (s.length : Int) := by omega
  have h3 : ((s.length : Int) - w.length).toNat = s.length - w.length := by omega
  have ht : l9 s w = s.take (s.length - w.length) := by unfold l9; rw [aj h]; rfl
  simp [Ac, Tryz.f212, hc, hw1, h2, h3, ht]
 ·rw [ai h] at hc
  have ht : l9 s w = s := by unfold l9; rw [ai h]; rfl
  simp [Ac, Tryz.f212, hc, ht]
theorem DX {s : Str} : l9 s [32] = ui s := by
 have he : jB s [32] ↔ sW s = true := by
  unfold jB sW
  cases hl : s.getLast? with
  | none =>
   have : s = [] := by simpa using hl
   subst this
   simp
  | some d =>
   have hne : s ≠ [] := by rintro rfl; simp at hl
   have h1 : 1 ≤ s.length := List.length_pos_iff.2 hne
   rw [List.getLast?_eq_getElem?] at hl
   have h2 : s.drop (s.length - 1) = [d] := by
    apply List.ext_getElem?
    intro j
    rw [List.getElem?_drop]
    cases j with
    | zero => simpa using hl
    | succ j => simp; omega
   simp [h1, h2]
 unfold l9 ui
 by_cases h : sW s = true
 ·rw [aj (he.2 h), if_pos rfl, if_pos h, List.dropLast_eq_take]
  rfl
 ·rw [ai (mt he.1 h), if_neg (by simp), if_neg h]
theorem MC {s : Str} {H : List Ob} (hs : s.length ≤ 1000000) : callW C 123 [.str s, .str [32]] H = some (.str (ui s), H) := by
 apply Ret.eq
 rw [PV]
 have hc := Bi (H := H) hs (w := [32]) (by simp)
 rw [DX] at hc
 simp [Et, Tryz.f123, hc]
theorem nD {t : Str} {H : List Ob} : callW C 36 [.str t] H = some (.str (norm t), H) := by
 apply Ret.eq
 rw [Um]
 by_cases g1 : (t.length : Int) > 100
 ·have : norm t = [] := by unfold norm; rw [if_neg (by omega)]
  simp [zU, Tryz.f36, g1, this]
 have hp := JY (t := t) (H := H) (by omega)
 by_cases g2 : Plain t
 rotate_left
 ·rw [ai g2] at hp
  have : norm t = [] := by unfold norm; rw [ai g2]; simp
  simp [zU, Tryz.f36, g1, hp, this]
 rw [aj g2] at hp
 have hn : norm t = ui (t.foldl di []) := by unfold norm; rw [if_pos ⟨by omega, aj g2⟩]
 have hbz : ∀ i, ((t.take i).foldl di []).length ≤ 100 := fun i => by
  have := ou (t.take i) []
  simp at this
  omega
 simp [zU, Tryz.f36, g1, hp, ay, ax, ah, St.new]
 refine aA (fun k σ => ∃ (i : Nat) (r : Nat → R) (G : List Ob) (v : V), i + k = t.length ∧ σ = ⟨r, 0, G⟩ ∧ r 0 = .val (.str t) ∧ r 3 = .val v ∧ r 16 = .val (.int .i64 t.length) ∧ r 17 = .val (.int .i64 i) ∧ Bs H G v ((t.take i).foldl di [])) ?_ t.length _ ⟨0, _, _, _, by simp, rfl, by simp, by simp, by simp, by simp, Bs.init⟩
 rintro k σ ⟨i, r, G, v, hik, rfl, r0, r3, r16, r17, hB⟩
 have hbl := hbz i
 generalize hb : (t.take i).foldl di [] = b at hB hbl
 have hw1 : IntKind.i64.wrap ((b.length : Int) - 1) = (b.length : Int) - 1 := wrap_i64 (by omega) (by omega)
 cases k with
 | zero =>
  have hi : i = t.length := by omega
  subst hi
  rw [List.take_length] at hb
  rw [hb] at hn
  obtain ⟨TT, rfl⟩ := hB.ext
  obtain ⟨id, rfl, hst, hsl⟩ := hB.cut (n := b.length) (Nat.le_refl _)
  rw [List.take_length] at hsl
  have hts := MC (s := b) (H := H ++ TT) (by omega)
  simp [r0, r3, r16, r17, hsl, isByte, ng, hn, hts]
 | succ k =>
  have hi : i < t.length := by omega
  obtain ⟨c, hc⟩ : ∃ c, t[i]? = some c := ⟨t[i], by simp [hi]⟩
  have hc' : t[i] = c := (List.getElem?_eq_some_iff.1 hc).2
  have hw : IntKind.i64.wrap ((i : Int) + 1) = ((i : Int) + 1) := wrap_i64 (by omega) (by omega)
  have hfs := vF hc di []
  rw [hb] at hfs
  have hgo : ∀ G' v', Bs H G' v' (di b c) → ∃ k', k' < k + 1 ∧ ∃ i', i' + k' = t.length ∧ (i : Int) + 1 = i' ∧ Bs H G' v' ((t.take i').foldl di []) := fun G' v' h =>
   ⟨k, by omega, i + 1, by omega, by omega, by rw [hfs]; exact h⟩
  by_cases hup : 65 ≤ c.toNat ∧ c.toNat ≤ 90
  ·have hu1 : (c.toNat : Int) ≥ 65 := by omega
   have hu2 : (c.toNat : Int) ≤ 90 := by omega
   have hlw := EU hup.1 hup.2
   have hl32 : ¬ ((oP c).toNat : Int) = 32 := by rw [xX hup.1 hup.2]; omega
   have hns : di b c = b ++ [oP c] := by unfold di; rw [if_neg (fun h => hl32 (by rw [wP.1 h.1]; rfl))]
   obtain ⟨v', G', ha, hB'⟩ := hB.push (by omega) (c := oP c) (d := .int .u8) (z := [.int .u8 0]) rfl
   rw [← hns] at hB'
   simp [r0, r3, r16, r17, hi, hc', hu1, hu2, hlw, hl32, ay, ax, ah, St.new, jk, ha, hw]
   obtain ⟨k', q1, i', q2, q3, q4⟩ := hgo G' v' hB'
   exact ⟨k', q1, i', q2, _, _, ⟨rfl, rfl⟩, by simp [r0], _, by simp [r3], by simp [r16], by simp [q3], q4⟩
  have hlc := Eo hup
  have hu : (¬ (c.toNat : Int) ≥ 65) ∨ ((c.toNat : Int) ≥ 65 ∧ ¬ (c.toNat : Int) ≤ 90) := by omega
  by_cases h32 : c = 32
  ·have h32' : (c.toNat : Int) = 32 := by rw [h32]; rfl
   have hu1 : ¬ (c.toNat : Int) ≥ 65 := by omega
   by_cases hb0 : b = []
   ·have hns : di b c = b := by unfold di; rw [if_pos ⟨by rw [hlc, h32], .inl hb0⟩]
    rw [hns] at hgo
    have hbl0 : b.length = 0 := by rw [hb0]; rfl
    simp [r0, r3, r16, r17, hi, hc', h32', hB.len, hbl0, hw]
    obtain ⟨k', q1, i', q2, q3, q4⟩ := hgo G v hB
    exact ⟨k', q1, i', q2, _, _, ⟨rfl, rfl⟩, by simp [r0], _, by simp [r3], by simp [r16], by simp [q3], q4⟩
   ·obtain ⟨d, hd⟩ := sH hb0
    have hb1 : 0 < b.length := List.length_pos_iff.2 hb0
    have hb3 : (1 : Int) ≤ (b.length : Int) := by omega
    have hb5 : (b.length : Int) - 1 < (b.length : Int) := by omega
    have hb4 : ((b.length : Int) - 1).toNat = b.length - 1 := by omega
    obtain ⟨id, hv, hld⟩ := hB.last hd
    subst hv
    by_cases hd32 : d = 32
    ·have hns : di b c = b := by unfold di; rw [if_pos ⟨by rw [hlc, h32], .inr ((jq hd).2 hd32)⟩]
     rw [hns] at hgo
     have hd' : (d.toNat : Int) = 32 := by rw [hd32]; rfl
     simp [r0, r3, r16, r17, hi, hc', h32', hb0, hb1, hb3, hb4, hb5, hw1, hld, hd', hw]
     obtain ⟨k', q1, i', q2, q3, q4⟩ := hgo G _ hB
     exact ⟨k', q1, i', q2, _, _, ⟨rfl, rfl⟩, by simp [r0], _, by simp [r3], by simp [r16], by simp [q3], q4⟩
    ·have hns : di b c = b ++ [c] := by unfold di; rw [if_neg (fun h => h.2.elim hb0 (fun h => hd32 ((jq hd).1 h))), hlc]
     have hd' : ¬ (d.toNat : Int) = 32 := by have := mt wP.2 hd32; omega
     obtain ⟨v', G', ha, hB'⟩ := hB.push (by omega) (c := c) (d := .int .u8) (z := [.int .u8 0]) rfl
     rw [← hns] at hB'
     rw [h32'] at ha
     simp [r0, r3, r16, r17, hi, hc', h32', hb0, hb1, hb3, hb4, hb5, hw1, hld, hd', ay, ax, ah, St.new, jk, ha, hw]
     obtain ⟨k', q1, i', q2, q3, q4⟩ := hgo G' v' hB'
     exact ⟨k', q1, i', q2, _, _, ⟨rfl, rfl⟩, by simp [r0], _, by simp [r3], by simp [r16], by simp [q3], q4⟩
  ·have h32' : ¬ (c.toNat : Int) = 32 := by have := mt wP.2 h32; omega
   have hns : di b c = b ++ [c] := by unfold di; rw [if_neg (fun h => h32 (hlc ▸ h.1)), hlc]
   obtain ⟨v', G', ha, hB'⟩ := hB.push (by omega) (c := c) (d := .int .u8) (z := [.int .u8 0]) rfl
   rw [← hns] at hB'
   obtain ⟨k', q1, i', q2, q3, q4⟩ := hgo G' v' hB'
   rcases hu with hu | ⟨hu, hu2⟩
   ·simp [r0, r3, r16, r17, hi, hc', hu, h32', ay, ax, ah, St.new, jk, ha, hw]
    exact ⟨k', q1, i', q2, _, _, ⟨rfl, rfl⟩, by simp [r0], _, by simp [r3], by simp [r16], by simp [q3], q4⟩
   ·simp [r0, r3, r16, r17, hi, hc', hu, hu2, h32', ay, ax, ah, St.new, jk, ha, hw]
    exact ⟨k', q1, i', q2, _, _, ⟨rfl, rfl⟩, by simp [r0], _, by simp [r3], by simp [r16], by simp [q3], q4⟩
theorem uu {t : Str} {H : List Ob} : callW C 185 [.str t] H = some (.bool (dec (aO t)), H) := by
 apply Ret.dec
 rw [Ol]
 have hn := kQ (t := t) (H := H)
 by_cases g1 : (t.length : Int) ≥ 1
 ·by_cases g2 : (t.length : Int) ≤ 40
  ·by_cases g3 : norm t = []
   ·have hv : ¬ aO t := fun h => h.2.2 g3
    simp [qX, Tryz.f185, g1, g2, hn, g3, hv]
   ·have hv : aO t := ⟨by omega, by omega, g3⟩
    simp [qX, Tryz.f185, g1, g2, hn, g3, hv]
  ·have : ¬ aO t := fun h => by have := h.2.1; omega
   simp [qX, Tryz.f185, g1, g2, this]
 ·have : ¬ aO t := fun h => by have := h.1; omega
  simp [qX, Tryz.f185, g1, this]
theorem ET {t : Str} {H : List Ob} : callW C 238 [.str t] H = some (.bool (dec (aO t)), H) := by
 apply Ret.dec
 rw [OM]
 have hn := nD (t := t) (H := H)
 by_cases g1 : (t.length : Int) ≥ 1
 ·by_cases g2 : (t.length : Int) ≤ 40
  ·by_cases g3 : norm t = []
   ·have hv : ¬ aO t := fun h => h.2.2 g3
    simp [ql, Tryz.f238, g1, g2, hn, g3, hv]
   ·have hv : aO t := ⟨by omega, by omega, g3⟩
    simp [ql, Tryz.f238, g1, g2, hn, g3, hv]
  ·have : ¬ aO t := fun h => by have := h.2.1; omega
   simp [ql, Tryz.f238, g1, g2, this]
 ·have : ¬ aO t := fun h => by have := h.1; omega
  simp [ql, Tryz.f238, g1, this]
theorem UT {H : List Ob} {v : V} {l : List PRdn} (h : eu H v l) : callW C 101 [v] H = some (.bool (dec (DnOk l)), H) := by
 apply Ret.dec
 rw [ND]
 have hb : l.length ≤ 9223372036854775807 := h.bound
 simp [Fh, Tryz.f101]
 refine aA (fun k σ => ∃ (i : Nat) (r : Nat → R), i + k = l.length ∧ σ = ⟨r, 0, H⟩ ∧ r 0 = .val v ∧ r 3 = .val (.int .i64 i) ∧ ∀ j x, j < i → l[j]? = some x → aG x.attr ∧ aO x.value) ?_ l.length _ ⟨0, _, by simp, rfl, by simp, by simp, by simp⟩
 rintro k σ ⟨i, r, hik, rfl, r0, r3, hall⟩
 cases k with
 | zero =>
  have hi : i = l.length := by omega
  subst hi
  have hx := fH (P := fun j (x : PRdn) => aG x.attr ∧ aO x.value) hall
  by_cases g : l.length ≤ 6
  ·have g' : (l.length : Int) ≤ 6 := by omega
   have hv : DnOk l := ⟨hx, g⟩
   simp [r0, r3, h.len, g', hv]
  ·have g' : ¬ (l.length : Int) ≤ 6 := by omega
   have hv : ¬ DnOk l := fun h => g h.2
   simp [r0, r3, h.len, g', hv]
 | succ k =>
  have hi : i < l.length := by omega
  obtain ⟨x, hx⟩ : ∃ c, l[i]? = some c := ⟨l[i], by simp [hi]⟩
  have hw : IntKind.i64.wrap ((i : Int) + 1) = ((i : Int) + 1) := wrap_i64 (by omega) (by omega)
  obtain ⟨id, o, e1, l0, l1, _, _⟩ := qW h hx
  have c1 := rG (t := x.attr) (H := H)
  by_cases g1 : aG x.attr
  ·rw [aj g1] at c1
   have c2 := uu (t := x.value) (H := H)
   by_cases g2 : aO x.value
   ·rw [aj g2] at c2
    simp [r0, r3, hi, h.len, e1, l0, l1, c1, c2, hw]
    exact ⟨k, by omega, i + 1, by omega, by omega, dm (P := fun j (x : PRdn) => aG x.attr ∧ aO x.value) hall hx ⟨g1, g2⟩⟩
   ·rw [ai g2] at c2
    have hn : ¬ DnOk l := fun hd => g2 (hd.1 i x hx).2
    simp [r0, r3, hi, h.len, e1, l0, l1, c1, c2, hn]
  ·rw [ai g1] at c1
   have hn : ¬ DnOk l := fun hd => g1 (hd.1 i x hx).1
   simp [r0, r3, hi, h.len, e1, l0, l1, c1, hn]
theorem vM {H : List Ob} {v : V} {l : List Str} {t : Str} (h : AStrs H v l) : callW C 203 [v, .str t] H = some (.bool (dec (t ∈ l)), H) := by
 apply Ret.dec
 rw [PQ]
 have hb : l.length ≤ 9223372036854775807 := h.bound
 simp [FU, Tryz.f203]
 refine aA (fun k σ => ∃ (i : Nat) (r : Nat → R), i + k = l.length ∧ σ = ⟨r, 0, H⟩ ∧ r 0 = .val v ∧ r 1 = .val (.str t) ∧ r 5 = .val (.int .i64 i) ∧ ∀ j x, j < i → l[j]? = some x → x ≠ t) ?_ l.length _ ⟨0, _, by simp, rfl, by simp, by simp, by simp, by simp⟩
 rintro k σ ⟨i, r, hik, rfl, r0, r1, r5, hall⟩
 cases k with
 | zero =>
  have hi : i = l.length := by omega
  subst hi
  have hx := fH (P := fun j (x : Str) => x ≠ t) hall
  have hn : t ∉ l := fun hm => by
   obtain ⟨j, hj, e⟩ := List.getElem_of_mem hm
   exact hx j _ (List.getElem?_eq_getElem hj) e
  simp [r0, r1, r5, h.len, hn]
 | succ k =>
  have hi : i < l.length := by omega
  obtain ⟨x, hx⟩ : ∃ c, l[i]? = some c := ⟨l[i], by simp [hi]⟩
  have hw : IntKind.i64.wrap ((i : Int) + 1) = ((i : Int) + 1) := wrap_i64 (by omega) (by omega)
  obtain ⟨id, o, e1, l0, _⟩ := aU h hx
  by_cases g1 : x = t
  ·have hm : t ∈ l := g1 ▸ List.mem_of_getElem? hx
   subst g1
   simp [r0, r1, r5, hi, h.len, e1, l0, hm]
  ·simp [r0, r1, r5, hi, h.len, e1, l0, g1, hw]
   exact ⟨k, by omega, i + 1, by omega, by omega, dm (P := fun j (x : Str) => x ≠ t) hall hx g1⟩
theorem KU {H : List Ob} {v v' : V} {l : List PAttr} {t : Str} (h : bD H v l) (ho : cellsOf v' = some [v']) : ∃ r : Int, callW C 115 [.agg [v', v], .str t] H = some (.int .i64 r, H) ∧ FirstAt PAttr.name l t r := by
 suffices hs : Ret C 115 [.agg [v', v], .str t] H fun q H' => (∃ r : Int, q = .int .i64 r ∧ FirstAt PAttr.name l t r) ∧ H' = H by
  obtain ⟨q, H', hc, ⟨r, rfl, hr⟩, rfl⟩ := hs
  exact ⟨r, hc, hr⟩
 rw [PD]
 have hb : l.length ≤ 9223372036854775807 := h.bound
 simp [Fq, Tryz.f115]
 refine aA (fun k σ => ∃ (i : Nat) (r : Nat → R), i + k = l.length ∧ σ = ⟨r, 1, H⟩ ∧ r 1 = .val (.str t) ∧ r 2 = .box 0 [v', v] ∧ r 5 = .val (.int .i64 i) ∧ ∀ j x, j < i → l[j]? = some x → x.name ≠ t) ?_ l.length _ ⟨0, _, by simp, rfl, by simp, by simp, by simp, by simp⟩
 rintro k σ ⟨i, r, hik, rfl, r1, r2, r5, hall⟩
 cases k with
 | zero =>
  have hi : i = l.length := by omega
  subst hi
  have hx := fH (P := fun j (x : PAttr) => x.name ≠ t) hall
  simp [r1, r2, r5, h.len]
  exact .inr ⟨hx, rfl⟩
 | succ k =>
  have hi : i < l.length := by omega
  obtain ⟨x, hx⟩ : ∃ c, l[i]? = some c := ⟨l[i], by simp [hi]⟩
  have hw : IntKind.i64.wrap ((i : Int) + 1) = ((i : Int) + 1) := wrap_i64 (by omega) (by omega)
  obtain ⟨id, o, w, e1, l0, l1, _⟩ := fC h hx
  by_cases g1 : x.name = t
  ·simp [r1, r2, r5, hi, h.len, e1, l0, g1]
   exact .inl ⟨i, x, hx, g1, hall, rfl⟩
  ·simp [r1, r2, r5, hi, h.len, e1, l0, g1, hw]
   exact ⟨k, by omega, i + 1, by omega, by omega, dm (P := fun j (x : PAttr) => x.name ≠ t) hall hx g1⟩
theorem yc {H : List Ob} {v : V} {l : List PClass} {t : Str} (h : aP H v l) : ∃ r : Int, callW C 117 [v, .str t] H = some (.int .i64 r, H) ∧ FirstAt PClass.name l t r := by
 suffices hs : Ret C 117 [v, .str t] H fun q H' => (∃ r : Int, q = .int .i64 r ∧ FirstAt PClass.name l t r) ∧ H' = H by
  obtain ⟨q, H', hc, ⟨r, rfl, hr⟩, rfl⟩ := hs
  exact ⟨r, hc, hr⟩
 rw [O0]
 have hb : l.length ≤ 9223372036854775807 := h.bound
 simp [Ew, Tryz.f117]
 refine aA (fun k σ => ∃ (i : Nat) (r : Nat → R), i + k = l.length ∧ σ = ⟨r, 0, H⟩ ∧ r 0 = .val v ∧ r 1 = .val (.str t) ∧ r 5 = .val (.int .i64 i) ∧ ∀ j x, j < i → l[j]? = some x → x.name ≠ t) ?_ l.length _ ⟨0, _, by simp, rfl, by simp, by simp, by simp, by simp⟩
 rintro k σ ⟨i, r, hik, rfl, r0, r1, r5, hall⟩
 cases k with
 | zero =>
  have hi : i = l.length := by omega
  subst hi
  have hx := fH (P := fun j (x : PClass) => x.name ≠ t) hall
  simp [r0, r1, r5, h.len]
  exact .inr ⟨hx, rfl⟩
 | succ k =>
  have hi : i < l.length := by omega
  obtain ⟨x, hx⟩ : ∃ c, l[i]? = some c := ⟨l[i], by simp [hi]⟩
  have hw : IntKind.i64.wrap ((i : Int) + 1) = ((i : Int) + 1) := wrap_i64 (by omega) (by omega)
  obtain ⟨id, o, w1, w2, w3, e1, l0, _⟩ := iH h hx
  by_cases g1 : x.name = t
  ·simp [r0, r1, r5, hi, h.len, e1, l0, g1]
   exact .inl ⟨i, x, hx, g1, hall, rfl⟩
  ·simp [r0, r1, r5, hi, h.len, e1, l0, g1, hw]
   exact ⟨k, by omega, i + 1, by omega, by omega, dm (P := fun j (x : PClass) => x.name ≠ t) hall hx g1⟩
theorem L9 {H : List Ob} {v v' : V} {l : List PAttr} {t : Str} (h : bD H v l) (ho : cellsOf v' = some [v']) (ho' : aJ v' = true) : ∃ w, callW C 100 [.agg [v', v], .str t] H = some (w, H) ∧ AStrs H w (valsOf l t) := by
 obtain ⟨r, hc, hr⟩ := KU (t := t) h ho
 suffices hs : Ret C 100 [.agg [v', v], .str t] H fun q H' => AStrs H q (valsOf l t) ∧ H' = H by
  obtain ⟨q, H', hc, hr, rfl⟩ := hs
  exact ⟨q, hc, hr⟩
 rw [NZ]
 rcases hr.pos with ⟨k, a, h1, rfl, h2⟩ | ⟨rfl, h2⟩
 ·obtain ⟨id, o, w, e1, l0, l1, _, hw, _⟩ := fC h h1
  have hv : valsOf l t = a.vals := by unfold valsOf; rw [h2]
  have hk : ¬ ((k : Int) < 0) := by omega
  simp [zo, Tryz.f100, hc, hk, e1, l1, hv]
  exact hw
 ·have hv : valsOf l t = [] := by unfold valsOf; rw [h2]
  simp [zo, Tryz.f100, hc, hv]
  exact aC.2 ⟨_, _, rfl, rfl, by simp, .inl ⟨rfl, rfl⟩⟩
theorem wrap_one : IntKind.i64.wrap 1 = 1 := rfl
attribute [simp] wrap_one
theorem iq {a b : Str} (h : bT a b) : Op.bytesLess a b = true := h
theorem gU {a b : Str} (h : ¬ bT a b) : Op.bytesLess a b = false := by
 cases hb : Op.bytesLess a b with
 | false => rfl
 | true => exact absurd hb h
theorem EN {H : List Ob} {id o : Nat} {v : V} (h : ∀ T : LT, T.one → ∀ r c, loadAt T ⟨r, c, H⟩ (.hp id o) = some v) : id < H.length := by
 have := h ⟨.str, 1, 16, [.str []]⟩ zN (fun _ => .val .undef) 0
 unfold loadAt cellsAt at this
 rw [if_neg (by decide)] at this
 cases hg : H[id]? with
 | none => simp only [hg] at this; cases this
 | some o => exact (List.getElem?_eq_some_iff.1 hg).1
theorem Af {H : List Ob} {v : V} {l : List Str} (h : AStrs H v l) : callW C 160 [v] H = some (.bool (dec (dI l)), H) := by
 apply Ret.dec
 rw [OA]
 have hb : l.length ≤ 9223372036854775807 := h.bound
 simp [FT, Tryz.f160]
 refine aA (fun k σ => ∃ (i : Nat) (r : Nat → R), i + k = l.length ∧ σ = ⟨r, 0, H⟩ ∧ r 0 = .val v ∧ r 3 = .val (.int .i64 i) ∧ ∀ j x, j < i → l[j]? = some x → aG x ∧ bK (fun x => x) l j x) ?_ l.length _ ⟨0, _, by simp, rfl, by simp, by simp, by simp⟩
 rintro k σ ⟨i, r, hik, rfl, r0, r3, hall⟩
 cases k with
 | zero =>
  have hi : i = l.length := by omega
  subst hi
  have hx : dI l := fH (P := fun j (x : Str) => aG x ∧ bK (fun x => x) l j x) hall
  simp [r0, r3, h.len, hx]
 | succ k =>
  have hi : i < l.length := by omega
  obtain ⟨x, hx⟩ : ∃ c, l[i]? = some c := ⟨l[i], by simp [hi]⟩
  have hw : IntKind.i64.wrap ((i : Int) + 1) = ((i : Int) + 1) := wrap_i64 (by omega) (by omega)
  obtain ⟨id, o, e1, l0, _⟩ := aU h hx
  have c1 := rG (t := x) (H := H)
  have hstep := fun h => dm (P := fun j (x : Str) => aG x ∧ bK (fun x => x) l j x) hall hx h
  by_cases g1 : aG x
  ·rw [aj g1] at c1
   by_cases hi0 : i = 0
   ·have := hstep ⟨g1, fun y hy => by omega⟩
    subst hi0
    simp at e1
    simp [r0, r3, hi, h.len, e1, l0, c1, ae]
    exact ⟨k, by omega, 1, by omega, by omega, this⟩
   ·have hip : 0 < i := by omega
    obtain ⟨y, hy⟩ : ∃ c, l[i - 1]? = some c := ⟨l[i - 1]'(by omega), by simp⟩
    obtain ⟨id', o', e1', l0', _⟩ := aU h hy
    have hw1 : IntKind.i64.wrap ((i : Int) - 1) = ((i - 1 : Nat) : Int) := by rw [wrap_i64 (by omega) (by omega)]; omega
    by_cases g2 : bT y x
    ·have := hstep ⟨g1, fun z _ hz => by rw [hy] at hz; cases hz; exact g2⟩
     simp [r0, r3, hi, h.len, e1, l0, c1, e1', l0', hw, hw1, hip, iq g2, ae]
     exact ⟨k, by omega, i + 1, by omega, by omega, this⟩
    ·have hn : ¬ dI l := fun hd => g2 ((hd i x hx).2 y hip hy)
     simp [r0, r3, hi, h.len, e1, l0, c1, e1', l0', hw, hw1, hip, gU g2, ae, hn]
  ·rw [ai g1] at c1
   have hn : ¬ dI l := fun hd => g1 (hd i x hx).1
   simp [r0, r3, hi, h.len, e1, l0, c1, hn, ae]
theorem Ja {H : List Ob} {v : V} {l : List Str} (h : AStrs H v l) : callW C 193 [v] H = some (.bool (dec (bH l)), H) := by
 apply Ret.dec
 rw [PO]
 have hb : l.length ≤ 9223372036854775807 := h.bound
 simp [F6, Tryz.f193]
 refine aA (fun k σ => ∃ (i : Nat) (r : Nat → R), i + k = l.length ∧ σ = ⟨r, 0, H⟩ ∧ r 0 = .val v ∧ r 3 = .val (.int .i64 i) ∧ ∀ j x, j < i → l[j]? = some x → aO x ∧ bK norm l j x) ?_ l.length _ ⟨0, _, by simp, rfl, by simp, by simp, by simp⟩
 rintro k σ ⟨i, r, hik, rfl, r0, r3, hall⟩
 cases k with
 | zero =>
  have hi : i = l.length := by omega
  subst hi
  have hx := fH (P := fun j (x : Str) => aO x ∧ bK norm l j x) hall
  by_cases g1 : 1 ≤ l.length
  ·have g1' : (1 : Int) ≤ (l.length : Int) := by omega
   by_cases g2 : l.length ≤ 4
   ·have g2' : (l.length : Int) ≤ 4 := by omega
    have hv : bH l := ⟨hx, g1, g2⟩
    simp [r0, r3, h.len, g1', g2', hv]
   ·have g2' : ¬ (l.length : Int) ≤ 4 := by omega
    have hv : ¬ bH l := fun h => g2 h.2.2
    simp [r0, r3, h.len, g1', g2', hv]
  ·have g1' : ¬ (1 : Int) ≤ (l.length : Int) := by omega
   have hv : ¬ bH l := fun h => g1 h.2.1
   simp [r0, r3, h.len, g1', hv]
 | succ k =>
  have hi : i < l.length := by omega
  obtain ⟨x, hx⟩ : ∃ c, l[i]? = some c := ⟨l[i], by simp [hi]⟩
  have hw : IntKind.i64.wrap ((i : Int) + 1) = ((i : Int) + 1) := wrap_i64 (by omega) (by omega)
  obtain ⟨id, o, e1, l0, _⟩ := aU h hx
  have c1 := uu (t := x) (H := H)
  have c2 := kQ (t := x) (H := H)
  have hstep := fun h => dm (P := fun j (x : Str) => aO x ∧ bK norm l j x) hall hx h
  by_cases g1 : aO x
  ·rw [aj g1] at c1
   by_cases hi0 : i = 0
   ·have := hstep ⟨g1, fun y hy => by omega⟩
    subst hi0
    simp at e1
    simp [r0, r3, hi, h.len, e1, l0, c1]
    exact ⟨k, by omega, 1, by omega, by omega, this⟩
   ·have hip : 0 < i := by omega
    obtain ⟨y, hy⟩ : ∃ c, l[i - 1]? = some c := ⟨l[i - 1]'(by omega), by simp⟩
    obtain ⟨id', o', e1', l0', _⟩ := aU h hy
    have c3 := kQ (t := y) (H := H)
    have hw1 : IntKind.i64.wrap ((i : Int) - 1) = ((i - 1 : Nat) : Int) := by rw [wrap_i64 (by omega) (by omega)]; omega
    have hlo := EN l0
    by_cases g2 : bT (norm y) (norm x)
    ·have := hstep ⟨g1, fun z _ hz => by rw [hy] at hz; cases hz; exact g2⟩
     simp [r0, r3, hi, h.len, e1, l0, c1, c2, c3, e1', l0', hw, hw1, hip, hlo, iq g2]
     exact ⟨k, by omega, i + 1, by omega, by omega, this⟩
    ·have hn : ¬ bH l := fun hd => g2 ((hd.1 i x hx).2 y hip hy)
     simp [r0, r3, hi, h.len, e1, l0, c1, c2, c3, e1', l0', hw, hw1, hip, hlo, gU g2, hn]
  ·rw [ai g1] at c1
   have hn : ¬ bH l := fun hd => g1 (hd.1 i x hx).1
   simp [r0, r3, hi, h.len, e1, l0, c1, hn]
end Go.Proofs.Try1
end
