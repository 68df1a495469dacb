/- Part 08 of the proof of a law: the interpreter, its soundness, and what functions of the program compute over it. Conditions: none but those that each theorem names. -/
import Derived.Test.YtamgeahibepfnaaGreatDoorP07
import Derived.Test.YtamgeahibepfnaaGreatDoorP06

set_option linter.all false
set_option maxRecDepth 20000
set_option maxHeartbeats 40000000
section
namespace Go.Proofs.Try1
open Go Go.Lite
def wR (f : Nat) (sh : Sh) : Prop := ∀ (H : List Ob) (cs : List V) (u : U) (left : Nat), At H sh cs u → left ≤ 1048576 →
 callW C f [aG sh cs, .int .i64 left] H = some (.int .i64 (if wt u ≤ left then ((left - wt u : Nat) : Int) else -1), H)
theorem ni : wR 11 (.slice .str) := by
 intro H cs u left h hleft
 simp only [At] at h
 obtain ⟨v, l, rfl, rfl, hlen, hv⟩ := h
 apply Ret.eq
 rw [anC]
 by_cases h0 : (l.length : Int) ≤ left
 ·have h0' : ¬ ((left : Int) - l.length < 0) := by omega
  have hw0 : IntKind.i64.wrap ((left : Int) - l.length) = (left : Int) - l.length := wrap_i64 (by omega) (by omega)
  simp [DF, Tryz.f11, aG, hv.len, hw0, h0']
  refine aA (fun k σ => ∃ (i : Nat) (r : Nat → R), i + k = l.length ∧ σ = ⟨r, 0, H⟩ ∧ r 0 = .val v ∧ l.length + kU (l.take i) ≤ left ∧ r 1 = .val (.int .i64 ((left : Int) - l.length - kU (l.take i))) ∧ r 5 = .val (.int .i64 i)) ?_ l.length _ ⟨0, _, by simp, rfl, by simp, by simp [kU]; omega, by simp [kU], by simp⟩
  rintro k σ ⟨i, r, hik, rfl, r0, hle, r1, r5⟩
  cases k with
  | zero =>
   have hi : i = l.length := by omega
   subst hi
   rw [List.take_length] at hle r1
   simp [r0, r1, r5, hv.len, wt, hle]
   omega
  | succ k =>
   have hi : i < l.length := by omega
   obtain ⟨x, hx⟩ : ∃ x, l[i]? = some x := ⟨l[i], by simp [hi]⟩
   obtain ⟨eid, o, own, cells, e1, e2, e3, s, e4, rfl, e5⟩ := hv.idx hx (by decide)
   simp only [Sh.size_str] at e1
   have c0 : cells[o]? = some (.str s) := by simpa using aX e4 (j := 0) rfl
   have ld := aY e2 c0
   have ht := Hz hx
   simp only [wt] at ht
   have hg := Gy hx
   simp only [wt] at hg
   have hw : IntKind.i64.wrap ((i : Int) + 1) = ((i + 1 : Nat) : Int) := by rw [wrap_i64 (by omega) (by omega)]; omega
   have hw2 : IntKind.i64.wrap ((left : Int) - l.length - kU (l.take i) - s.length) = (left : Int) - l.length - kU (l.take i) - s.length := wrap_i64 (by have : s.length ≤ maxLen := e5; unfold maxLen at this; omega) (by omega)
   by_cases hb : l.length + kU (l.take (i + 1)) ≤ left
   ·have hb' : ¬ ((left : Int) - l.length - kU (l.take i) - s.length < 0) := by omega
    simp [r0, r1, r5, hi, hv.len, e1, ld, hw, hw2, hb']
    exact ⟨k, by omega, i + 1, by omega, hb, by omega, by omega⟩
   ·have hb' : (left : Int) - l.length - kU (l.take i) - s.length < 0 := by omega
    have := yA (l := l) (i := i + 1)
    have hn : ¬ (l.length + kU l ≤ left) := by omega
    simp [r0, r1, r5, hi, hv.len, e1, ld, hw, hw2, hb', wt, hn]
 ·have h0' : (left : Int) - l.length < 0 := by omega
  have hw0 : IntKind.i64.wrap ((left : Int) - l.length) = (left : Int) - l.length := wrap_i64 (by have : l.length ≤ maxLen := hlen; unfold maxLen at this; omega) (by omega)
  have hn : ¬ (l.length + kU l ≤ left) := by omega
  simp [DF, Tryz.f11, aG, hv.len, hw0, h0', wt, hn]
theorem Hr {f g tS tE : Nat} {zs : List V} {fs : List Sh} {F : Func} (hop : ∀ {a : List V} {H : List Ob} {R : V → List Ob → Prop}, Ret C f a H R ↔ WP C f (ren [(22, tS), (99, tE)] [(45, g)] xE) ⟨ae a, 0, H⟩ (aB C F H R))
  (hF : F.results = #[.tmp 4]) (hS : C.ty tS = ⟨.slice tE, 1, 24, zs⟩) (hE : (C.ty tE).size = (Sh.st fs).size) (hE2 : (C.ty tE).isAgg = true) (hE0 : (C.ty tE).size ≠ 0) (hg : wR g (.st fs)) : wR f (.slice (.st fs)) := by
 intro H cs u left h hleft
 simp only [At] at h
 obtain ⟨v, l, rfl, rfl, hlen, hv⟩ := h
 apply Ret.eq
 rw [hop]
 by_cases h0 : (l.length : Int) ≤ left
 ·have h0' : ¬ ((left : Int) - l.length < 0) := by omega
  have hw0 : IntKind.i64.wrap ((left : Int) - l.length) = (left : Int) - l.length := wrap_i64 (by omega) (by omega)
  simp [xE, Tryz.f29, ren, Ox, Ov, nM, sub, aG, hS, hv.len, hw0, h0']
  refine aA (fun k σ => ∃ (i : Nat) (r : Nat → R), i + k = l.length ∧ σ = ⟨r, 0, H⟩ ∧ r 0 = .val v ∧ l.length + kU (l.take i) ≤ left ∧ r 1 = .val (.int .i64 ((left : Int) - l.length - kU (l.take i))) ∧ r 5 = .val (.int .i64 i)) ?_ l.length _ ⟨0, _, by simp, rfl, by simp, by simp [kU]; omega, by simp [kU], by simp⟩
  rintro k σ ⟨i, r, hik, rfl, r0, hle, r1, r5⟩
  cases k with
  | zero =>
   have hi : i = l.length := by omega
   subst hi
   rw [List.take_length] at hle r1
   simp [r0, r1, r5, hS, hv.len, wt, hle, hF]
   omega
  | succ k =>
   have hi : i < l.length := by omega
   obtain ⟨x, hx⟩ : ∃ x, l[i]? = some x := ⟨l[i], by simp [hi]⟩
   obtain ⟨eid, o, own, cells, e1, e2, e3, e4⟩ := hv.idx hx (by rw [← hE]; exact hE0)
   have e1 := fun (k : IntKind) => e1 tE 1 24 zs C.ty k hE
   have ld := rU (T := C.ty tE) e2 (by rw [hE]; exact e3) rfl hE0 hE2
   rw [hE] at ld
   have ht := Hz hx
   have hw : IntKind.i64.wrap ((i : Int) + 1) = ((i + 1 : Nat) : Int) := by rw [wrap_i64 (by omega) (by omega)]; omega
   have hc := hg H _ x (left - l.length - kU (l.take i)) e4 (by omega)
   rw [show ((left - l.length - kU (l.take i) : Nat) : Int) = (left : Int) - l.length - kU (l.take i) by omega] at hc
   simp only [aG, Sh.size_st] at hc
   by_cases hb : l.length + kU (l.take (i + 1)) ≤ left
   ·have hb2 : wt x ≤ left - l.length - kU (l.take i) := by omega
    have hb' : ¬ (((left - l.length - kU (l.take i) - wt x : Nat) : Int) < 0) := by omega
    rw [if_pos hb2] at hc
    simp [r0, r1, r5, hi, hS, hv.len, e1, ld, hw, hc, hb']
    exact ⟨k, by omega, i + 1, by omega, hb, by omega, by omega⟩
   ·have hb2 : ¬ (wt x ≤ left - l.length - kU (l.take i)) := by omega
    have := yA (l := l) (i := i + 1)
    have hn : ¬ (l.length + kU l ≤ left) := by omega
    rw [if_neg hb2] at hc
    simp [r0, r1, r5, hi, hS, hv.len, e1, ld, hw, hc, wt, hn, hF]
 ·have h0' : (left : Int) - l.length < 0 := by omega
  have hw0 : IntKind.i64.wrap ((left : Int) - l.length) = (left : Int) - l.length := wrap_i64 (by have : l.length ≤ maxLen := hlen; unfold maxLen at this; omega) (by omega)
  have hn : ¬ (l.length + kU l ≤ left) := by omega
  simp [xE, Tryz.f29, ren, Ox, Ov, nM, sub, aG, hS, hv.len, hw0, h0', wt, hn, hF]
end Go.Proofs.Try1
end
section
namespace Go.Lite
open Go
def Bq (b : Str) : List V := b.map fun c => .int .u8 c.toNat
theorem Hf {b : Str} : (Bq b).length = b.length := by simp [Bq]
theorem Ux {b : Str} {i : Nat} {c : UInt8} (h : b[i]? = some c) : (Bq b)[i]? = some (.int .u8 c.toNat) := by simp [Bq, h]
theorem O6 {c : UInt8} : jr (.int .u8 c.toNat) = some c := by
 simp [jr]
theorem kz : ∀ {b : Str}, (Bq b).mapM jr = some b
 | [] => rfl
 | c :: b => by
  have := kz (b := b)
  simp only [Bq, List.map_cons, List.mapM_cons, O6] at this ⊢
  rw [this]
  rfl
theorem JM {a b : Str} : Bq (a ++ b) = Bq a ++ Bq b := by simp [Bq]
theorem Qy {b : Str} {n : Nat} : (Bq b).take n = Bq (b.take n) := by simp [Bq, List.map_take]
def Bs (H G : List Ob) (v : V) (b : Str) : Prop := ∃ T id, G = H ++ T ∧ H.length ≤ id ∧ G[id]? = some (.mk true 1 (Bq b)) ∧ v = .slc (some (id, 0)) b.length
theorem Bs.init {H : List Ob} : Bs H (H ++ [.mk true 1 []]) (.slc (some (H.length, 0)) 0) [] := ⟨_, H.length, rfl, Nat.le_refl _, by simp [Bq], rfl⟩
section
variable {H G : List Ob} {v : V} {b : Str}
theorem Bs.push (h : Bs H G v b) (hb : b.length ≤ 1000000000) {c : UInt8} {z : List V} {d : LD} (hz : z.length = 1) : ∃ v' G', bI ⟨d, 1, 1, z⟩ (G ++ [.mk true 1 [.int .u8 c.toNat]]) v (.slc (some (G.length, 0)) 1) = some (v', G') ∧ Bs H G' v' (b ++ [c]) := by
 obtain ⟨T, id, rfl, h1, h2, rfl⟩ := h
 have hid : id < (H ++ T).length := (List.getElem?_eq_some_iff.1 h2).1
 have hid' : id < H.length + T.length := by simpa using hid
 have hg : (H ++ T ++ [Ob.mk true 1 [.int .u8 c.toNat]])[id]? = some (.mk true 1 (Bq b)) := by rw [List.getElem?_append_left hid]; exact h2
 have hnew : aU ⟨d, 1, 1, z⟩ (H ++ T ++ [Ob.mk true 1 [.int .u8 c.toNat]]) (.slc (some ((H ++ T).length, 0)) 1) = some ([.int .u8 c.toNat], 1) := by
  simp only [aU, Nat.mul_one, bH, get_last]
  rfl
 refine ⟨.slc (some ((H ++ T ++ [Ob.mk true 1 [.int .u8 c.toNat]]).length, 0)) (b.length + 1), (H ++ T ++ [Ob.mk true 1 [.int .u8 c.toNat]]).set id .dead ++ [.mk true 1 (Bq b ++ [.int .u8 c.toNat])], ?_, ?_⟩
 ·unfold bI
  rw [if_pos (by simp [gW, hz]), hnew]
  simp only [Nat.one_ne_zero, if_false, List.all_cons, List.all_nil, xB, Bool.and_true, if_true, hg]
  have e1 : ¬ (0 + (b.length + 1) * 1 ≤ (Bq b).length) := by rw [Hf]; omega
  have e2 : (0 + b.length * 1 = (Bq b).length ∨ b.length = 0 ∧ (Bq b).length ≤ 0) ∧ (b.length + 1) * 1 ≤ aK := ⟨.inl (by rw [Hf]; simp), by unfold aK; omega⟩
  rw [if_neg e1, if_pos e2, List.drop_zero]
 ·refine ⟨T.set (id - H.length) .dead ++ [.mk true 1 [.int .u8 c.toNat]] ++ [.mk true 1 (Bq b ++ [.int .u8 c.toNat])], (H ++ T ++ [Ob.mk true 1 [.int .u8 c.toNat]]).length, ?_, by simp only [List.length_append]; omega, ?_, by simp⟩
  ·rw [List.append_assoc H T, List.set_append_right _ _ h1, List.set_append_left _ _ (by omega)]
   simp
  ·have hl : ((H ++ T ++ [Ob.mk true 1 [V.int .u8 c.toNat]]).set id .dead).length = (H ++ T ++ [Ob.mk true 1 [V.int .u8 c.toNat]]).length := List.length_set
   rw [← hl, get_last, JM]
   rfl
theorem Bs.last (h : Bs H G v b) {d : UInt8} (hd : b.getLast? = some d) : ∃ id, v = .slc (some (id, 0)) b.length ∧ ∀ T : LT, T.one → ∀ r c, loadAt T ⟨r, c, G⟩ (.hp id (b.length - 1)) = some (.int .u8 d.toNat) := by
 obtain ⟨T, id, rfl, h1, h2, rfl⟩ := h
 refine ⟨id, rfl, aY h2 (Ux ?_)⟩
 rw [List.getLast?_eq_getElem?] at hd
 exact hd
theorem Bs.cut (h : Bs H G v b) {n : Nat} (hn : n ≤ b.length) : ∃ id, v = .slc (some (id, 0)) b.length ∧ bF G id 1 = true ∧ bH G (some (id, 0)) n = some (Bq (b.take n)) := by
 obtain ⟨T, id, rfl, h1, h2, rfl⟩ := h
 refine ⟨id, rfl, by simp [bF, h2], ?_⟩
 simp only [bH, h2]
 by_cases h0 : n = 0
 ·subst h0; rfl
 ·rw [if_neg h0]
  unfold eP
  rw [if_pos (by rw [Hf]; omega), List.drop_zero, Qy]
theorem Bs.ext (h : Bs H G v b) : ∃ T, G = H ++ T := by
 obtain ⟨T, id, h, _⟩ := h
 exact ⟨T, h⟩
theorem Bs.len (h : Bs H G v b) {e s n : Nat} {z : List V} : lenV ⟨.slice e, s, n, z⟩ v = some (.int .i64 b.length) := by
 obtain ⟨T, id, _, _, _, rfl⟩ := h
 rfl
end
abbrev shRdn : Sh := .st [.str, .str]
abbrev shAttr : Sh := .st [.str, .slice .str]
abbrev shEntry : Sh := .st [.slice shRdn, .slice shAttr]
abbrev bz : Sh := .st [.str, .slice .str, .slice .str, .slice .str]
structure PRdn where
 attr : Str
 value : Str
structure PAttr where
 name : Str
 vals : List Str
structure PEntry where
 dn : List PRdn
 attrs : List PAttr
structure PClass where
 name : Str
 must : List Str
 may : List Str
 single : List Str
abbrev jl (s : Str) : U := .str s
def PRdn.u (r : PRdn) : U := .st [.str r.attr, .str r.value]
def PAttr.u (a : PAttr) : U := .st [.str a.name, .lst (a.vals.map jl)]
def PEntry.u (e : PEntry) : U := .st [.lst (e.dn.map PRdn.u), .lst (e.attrs.map PAttr.u)]
def PClass.u (c : PClass) : U := .st [.str c.name, .lst (c.must.map jl), .lst (c.may.map jl), .lst (c.single.map jl)]
section
variable (H : List Ob)
def ASl {α : Type} (sh : Sh) (f : α → U) (v : V) (l : List α) : Prop := At H (.slice sh) [v] (.lst (l.map f))
abbrev AStrs (v : V) (l : List Str) : Prop := ASl H .str jl v l
abbrev dK (v : V) (l : List PRdn) : Prop := ASl H shRdn PRdn.u v l
abbrev bK (v : V) (l : List PAttr) : Prop := ASl H shAttr PAttr.u v l
abbrev bg (v : V) (l : List PClass) : Prop := ASl H bz PClass.u v l
end
section
variable {H H' T : List Ob} {v : V} {α : Type} {sh : Sh} {f : α → U} {l : List α}
theorem ASl.at (h : ASl H sh f v l) : At H (.slice sh) [v] (.lst (l.map f)) := h
theorem ASl.sl (h : ASl H sh f v l) : Sl H sh.size (At H sh) v (l.map f) := by
 obtain ⟨w, m, hw, hm, _, h⟩ := aj.1 h.at
 cases hw
 cases hm
 exact h
theorem ASl.bound (h : ASl H sh f v l) : l.length ≤ maxLen := by
 obtain ⟨w, m, hw, hm, h, _⟩ := aj.1 h.at
 cases hm
 simpa using h
theorem ASl.len (h : ASl H sh f v l) {e s b : Nat} {z : List V} : lenV ⟨.slice e, s, b, z⟩ v = some (.int .i64 l.length) := by
 have := h.sl.len (e := e) (s := s) (b := b) (z := z)
 simpa using this
theorem ASl.one (h : ASl H sh f v l) : aP v = true ∧ cellsOf v = some [v] := h.sl.one
theorem ASl.ext (h : ASl H sh f v l) : ASl (H ++ T) sh f v l := At.ext h
theorem ASl.up (h : ASl H sh f v l) (hH : ∀ (id : Nat) o, H[id]? = some o → H'[id]? = some o) : ASl H' sh f v l := At.up hH _ h
theorem ASl.idx (h : ASl H sh f v l) {i : Nat} {x : α} (hx : l[i]? = some x) (hs : sh.size ≠ 0) : ∃ id o own cells,
  (∀ (e s b : Nat) (z : List V) (ty : Nat → LT) (k : IntKind), (ty e).size = sh.size → fQ ⟨.slice e, s, b, z⟩ ty (.val v) (.int k i) = some (.val (.ptr (some (id, o))))) ∧
  H[id]? = some (.mk own sh.size cells) ∧ o + sh.size ≤ cells.length ∧ At H sh ((cells.drop o).take sh.size) (f x) :=
 h.sl.idx (by rw [List.getElem?_map, hx]; rfl) hs
theorem Sl.typed (hf : ∀ cs u, At H sh cs u → ∃ x : α, u = f x) {us : List U} {n : Nat} (h : Sl H n (At H sh) v us) : ∃ l : List α, us = l.map f := by
 have h2 : ∀ u ∈ us, ∃ x : α, u = f x := by
  intro u hu
  rcases h with ⟨_, rfl⟩ | ⟨id, off, own, cells, _, _, _, h4⟩
  ·cases hu
  ·obtain ⟨i, hi, rfl⟩ := List.getElem_of_mem hu
   exact hf _ _ (h4 i _ (List.getElem?_eq_getElem hi))
 clear h
 induction us with
 | nil => exact ⟨[], rfl⟩
 | cons u us ih =>
  obtain ⟨x, rfl⟩ := h2 u List.mem_cons_self
  obtain ⟨l, rfl⟩ := ih fun w hw => h2 w (List.mem_cons_of_mem _ hw)
  exact ⟨x :: l, rfl⟩
theorem ASl.typed (hf : ∀ cs u, At H sh cs u → ∃ x : α, u = f x) {cs : List V} {u : U} (h : At H (.slice sh) cs u) : ∃ v l, cs = [v] ∧ u = .lst (l.map f) ∧ ASl H sh f v l := by
 have h0 := h
 obtain ⟨v, us, rfl, rfl, _, hs⟩ := aj.1 h
 obtain ⟨l, rfl⟩ := Sl.typed hf hs
 exact ⟨v, l, rfl, rfl, h0⟩
theorem mJ {cs : List V} {u : U} (h : At H (.slice .str) cs u) : ∃ v l, cs = [v] ∧ u = .lst (l.map jl) ∧ AStrs H v l :=
 ASl.typed (fun cs u h => by obtain ⟨s, _, rfl, _⟩ := bn.1 h; exact ⟨s, rfl⟩) h
theorem Rk {cs : List V} {r : PRdn} : At H shRdn cs r.u ↔ cs = [.str r.attr, .str r.value] ∧ r.attr.length ≤ maxLen ∧ r.value.length ≤ maxLen := by
 constructor
 ·intro h
  obtain ⟨us, hu, h⟩ := bV.1 h
  cases hu
  obtain ⟨c1, c2, u1, us1, rfl, hu, h1, h⟩ := ag.1 h
  cases hu
  obtain ⟨c3, c4, u2, us2, rfl, hu, h2, h⟩ := ag.1 h
  cases hu
  obtain ⟨rfl, _⟩ := aO.1 h
  obtain ⟨s, rfl, hs, w1⟩ := bn.1 h1
  cases hs
  obtain ⟨s, rfl, hs, w2⟩ := bn.1 h2
  cases hs
  exact ⟨rfl, w1, w2⟩
 ·rintro ⟨rfl, h1, h2⟩
  exact bV.2 ⟨_, rfl, ag.2 ⟨[_], _, _, _, rfl, rfl, bn.2 ⟨_, rfl, rfl, h1⟩, ag.2 ⟨[_], _, _, _, rfl, rfl, bn.2 ⟨_, rfl, rfl, h2⟩, aO.2 ⟨rfl, rfl⟩⟩⟩⟩
theorem Ce {cs : List V} {u : U} (h : At H shRdn cs u) : ∃ r : PRdn, u = r.u := by
 replace h := bV.1 h
 obtain ⟨us, rfl, h⟩ := h
 obtain ⟨c1, c2, u1, us1, rfl, rfl, h1, h⟩ := ag.1 h
 obtain ⟨c3, c4, u2, us2, rfl, rfl, h2, h⟩ := ag.1 h
 obtain ⟨rfl, rfl⟩ := aO.1 h
 obtain ⟨s, rfl, rfl, w1⟩ := bn.1 h1
 obtain ⟨t, rfl, rfl, w2⟩ := bn.1 h2
 exact ⟨⟨s, t⟩, rfl⟩
theorem FV {cs : List V} {a : PAttr} : At H shAttr cs a.u ↔ ∃ v, cs = [.str a.name, v] ∧ a.name.length ≤ maxLen ∧ AStrs H v a.vals := by
 constructor
 ·intro h
  obtain ⟨us, hu, h⟩ := bV.1 h
  cases hu
  obtain ⟨c1, c2, u1, us1, rfl, hu, h1, h⟩ := ag.1 h
  cases hu
  obtain ⟨c3, c4, u2, us2, rfl, hu, h2, h⟩ := ag.1 h
  cases hu
  obtain ⟨rfl, _⟩ := aO.1 h
  obtain ⟨s, rfl, hs, w1⟩ := bn.1 h1
  cases hs
  obtain ⟨v, _, rfl, _⟩ := aj.1 h2
  exact ⟨v, rfl, w1, h2⟩
 ·rintro ⟨v, rfl, h1, h2⟩
  exact bV.2 ⟨_, rfl, ag.2 ⟨[_], _, _, _, rfl, rfl, bn.2 ⟨_, rfl, rfl, h1⟩, ag.2 ⟨[_], _, _, _, rfl, rfl, h2, aO.2 ⟨rfl, rfl⟩⟩⟩⟩
theorem MH {cs : List V} {u : U} (h : At H shAttr cs u) : ∃ r : PAttr, u = r.u := by
 replace h := bV.1 h
 obtain ⟨us, rfl, h⟩ := h
 obtain ⟨c1, c2, u1, us1, rfl, rfl, h1, h⟩ := ag.1 h
 obtain ⟨c3, c4, u2, us2, rfl, rfl, h2, h⟩ := ag.1 h
 obtain ⟨rfl, rfl⟩ := aO.1 h
 obtain ⟨s, rfl, rfl, w1⟩ := bn.1 h1
 obtain ⟨v, l, rfl, rfl, _⟩ := mJ h2
 exact ⟨⟨s, l⟩, rfl⟩
theorem rO {cs : List V} {c : PClass} : At H bz cs c.u ↔ ∃ v1 v2 v3, cs = [.str c.name, v1, v2, v3] ∧ c.name.length ≤ maxLen ∧ AStrs H v1 c.must ∧ AStrs H v2 c.may ∧ AStrs H v3 c.single := by
 constructor
 ·intro h
  obtain ⟨us, hu, h⟩ := bV.1 h
  cases hu
  obtain ⟨c1, c2, u1, us1, rfl, hu, h1, h⟩ := ag.1 h
  cases hu
  obtain ⟨c3, c4, u2, us2, rfl, hu, h2, h⟩ := ag.1 h
  cases hu
  obtain ⟨c5, c6, u3, us3, rfl, hu, h3, h⟩ := ag.1 h
  cases hu
  obtain ⟨c7, c8, u4, us4, rfl, hu, h4, h⟩ := ag.1 h
  cases hu
  obtain ⟨rfl, _⟩ := aO.1 h
  obtain ⟨s, rfl, hs, w1⟩ := bn.1 h1
  cases hs
  obtain ⟨v1, _, rfl, _⟩ := aj.1 h2
  obtain ⟨v2, _, rfl, _⟩ := aj.1 h3
  obtain ⟨v3, _, rfl, _⟩ := aj.1 h4
  exact ⟨v1, v2, v3, rfl, w1, h2, h3, h4⟩
 ·rintro ⟨v1, v2, v3, rfl, h1, h2, h3, h4⟩
  exact bV.2 ⟨_, rfl, ag.2 ⟨[_], _, _, _, rfl, rfl, bn.2 ⟨_, rfl, rfl, h1⟩, ag.2 ⟨[_], _, _, _, rfl, rfl, h2, ag.2 ⟨[_], _, _, _, rfl, rfl, h3, ag.2 ⟨[_], _, _, _, rfl, rfl, h4, aO.2 ⟨rfl, rfl⟩⟩⟩⟩⟩⟩
theorem II {cs : List V} {u : U} (h : At H bz cs u) : ∃ r : PClass, u = r.u := by
 replace h := bV.1 h
 obtain ⟨us, rfl, h⟩ := h
 obtain ⟨c1, c2, u1, us1, rfl, rfl, h1, h⟩ := ag.1 h
 obtain ⟨c3, c4, u2, us2, rfl, rfl, h2, h⟩ := ag.1 h
 obtain ⟨c5, c6, u3, us3, rfl, rfl, h3, h⟩ := ag.1 h
 obtain ⟨c7, c8, u4, us4, rfl, rfl, h4, h⟩ := ag.1 h
 obtain ⟨rfl, rfl⟩ := aO.1 h
 obtain ⟨s, rfl, rfl, w1⟩ := bn.1 h1
 obtain ⟨v, l, rfl, rfl, _⟩ := mJ h2
 obtain ⟨v', l', rfl, rfl, _⟩ := mJ h3
 obtain ⟨v'', l'', rfl, rfl, _⟩ := mJ h4
 exact ⟨⟨s, l, l', l''⟩, rfl⟩
theorem iw {cs : List V} {e : PEntry} : At H shEntry cs e.u ↔ ∃ v1 v2, cs = [v1, v2] ∧ dK H v1 e.dn ∧ bK H v2 e.attrs := by
 constructor
 ·intro h
  obtain ⟨us, hu, h⟩ := bV.1 h
  cases hu
  obtain ⟨c1, c2, u1, us1, rfl, hu, h1, h⟩ := ag.1 h
  cases hu
  obtain ⟨c3, c4, u2, us2, rfl, hu, h2, h⟩ := ag.1 h
  cases hu
  obtain ⟨rfl, _⟩ := aO.1 h
  obtain ⟨v1, _, rfl, _⟩ := aj.1 h1
  obtain ⟨v2, _, rfl, _⟩ := aj.1 h2
  exact ⟨v1, v2, rfl, h1, h2⟩
 ·rintro ⟨v1, v2, rfl, h1, h2⟩
  exact bV.2 ⟨_, rfl, ag.2 ⟨[_], _, _, _, rfl, rfl, h1, ag.2 ⟨[_], _, _, _, rfl, rfl, h2, aO.2 ⟨rfl, rfl⟩⟩⟩⟩
theorem IK {cs : List V} {u : U} (h : At H shEntry cs u) : ∃ r : PEntry, u = r.u := by
 replace h := bV.1 h
 obtain ⟨us, rfl, h⟩ := h
 obtain ⟨c1, c2, u1, us1, rfl, rfl, h1, h⟩ := ag.1 h
 obtain ⟨c3, c4, u2, us2, rfl, rfl, h2, h⟩ := ag.1 h
 obtain ⟨rfl, rfl⟩ := aO.1 h
 obtain ⟨v, l, rfl, rfl, _⟩ := ASl.typed (fun _ _ => Ce) h1
 obtain ⟨v', l', rfl, rfl, _⟩ := ASl.typed (fun _ _ => MH) h2
 exact ⟨⟨l, l'⟩, rfl⟩
theorem dB {xs : List Str} (h : AStrs H v xs) {i : Nat} {s : Str} (hx : xs[i]? = some s) : ∃ id o,
  (∀ (e s b : Nat) (z : List V) (ty : Nat → LT) (k : IntKind), (ty e).size = 1 → fQ ⟨.slice e, s, b, z⟩ ty (.val v) (.int k i) = some (.val (.ptr (some (id, o))))) ∧
  (∀ T : LT, T.one → ∀ r c, loadAt T ⟨r, c, H⟩ (.hp id o) = some (.str s)) ∧ s.length ≤ maxLen := by
 obtain ⟨id, o, own, cells, e1, e2, e3, e4⟩ := ASl.idx h hx (by decide)
 obtain ⟨t, e4, ht, e5⟩ := bn.1 e4
 cases ht
 exact ⟨id, o, e1, aY e2 (by simpa using aX e4 (j := 0) rfl), e5⟩
theorem qX {xs : List PRdn} (h : dK H v xs) {i : Nat} {x : PRdn} (hx : xs[i]? = some x) : ∃ id o,
  (∀ (e s b : Nat) (z : List V) (ty : Nat → LT) (k : IntKind), (ty e).size = 2 → fQ ⟨.slice e, s, b, z⟩ ty (.val v) (.int k i) = some (.val (.ptr (some (id, o))))) ∧
  (∀ T : LT, T.one → ∀ r c, loadAt T ⟨r, c, H⟩ (.hp id o) = some (.str x.attr)) ∧ (∀ T : LT, T.one → ∀ r c, loadAt T ⟨r, c, H⟩ (.hp id (o + 1)) = some (.str x.value)) ∧
  (∀ T : LT, T.many 2 → ∀ r c, loadAt T ⟨r, c, H⟩ (.hp id o) = some (.agg [.str x.attr, .str x.value])) ∧ At H shRdn [.str x.attr, .str x.value] x.u := by
 obtain ⟨id, o, own, cells, e1, e2, e3, e4⟩ := ASl.idx h hx (by decide)
 have e6 := e4
 obtain ⟨e4, e5⟩ := Rk.1 e4
 rw [e4] at e6
 exact ⟨id, o, e1, aY e2 (by simpa using aX e4 (j := 0) rfl), aY e2 (by simpa using aX e4 (j := 1) rfl), nT e2 e3 (by decide) e4, e6⟩
theorem fK {xs : List PAttr} (h : bK H v xs) {i : Nat} {x : PAttr} (hx : xs[i]? = some x) : ∃ id o w,
  (∀ (e s b : Nat) (z : List V) (ty : Nat → LT) (k : IntKind), (ty e).size = 2 → fQ ⟨.slice e, s, b, z⟩ ty (.val v) (.int k i) = some (.val (.ptr (some (id, o))))) ∧
  (∀ T : LT, T.one → ∀ r c, loadAt T ⟨r, c, H⟩ (.hp id o) = some (.str x.name)) ∧ (∀ T : LT, T.one → ∀ r c, loadAt T ⟨r, c, H⟩ (.hp id (o + 1)) = some w) ∧
  (∀ T : LT, T.many 2 → ∀ r c, loadAt T ⟨r, c, H⟩ (.hp id o) = some (.agg [.str x.name, w])) ∧ AStrs H w x.vals ∧ At H shAttr [.str x.name, w] x.u ∧ x.name.length ≤ maxLen := by
 obtain ⟨id, o, own, cells, e1, e2, e3, e4⟩ := ASl.idx h hx (by decide)
 have e6 := e4
 obtain ⟨w, e4, e7, e5⟩ := FV.1 e4
 rw [e4] at e6
 exact ⟨id, o, w, e1, aY e2 (by simpa using aX e4 (j := 0) rfl), aY e2 (by simpa using aX e4 (j := 1) rfl), nT e2 e3 (by decide) e4, e5, e6, e7⟩
theorem gQ {xs : List PClass} (h : bg H v xs) {i : Nat} {x : PClass} (hx : xs[i]? = some x) : ∃ id o w1 w2 w3,
  (∀ (e s b : Nat) (z : List V) (ty : Nat → LT) (k : IntKind), (ty e).size = 4 → fQ ⟨.slice e, s, b, z⟩ ty (.val v) (.int k i) = some (.val (.ptr (some (id, o))))) ∧
  (∀ T : LT, T.one → ∀ r c, loadAt T ⟨r, c, H⟩ (.hp id o) = some (.str x.name)) ∧
  (∀ T : LT, T.many 4 → ∀ r c, loadAt T ⟨r, c, H⟩ (.hp id o) = some (.agg [.str x.name, w1, w2, w3])) ∧ AStrs H w1 x.must ∧ AStrs H w2 x.may ∧ AStrs H w3 x.single ∧ At H bz [.str x.name, w1, w2, w3] x.u ∧ x.name.length ≤ maxLen := by
 obtain ⟨id, o, own, cells, e1, e2, e3, e4⟩ := ASl.idx h hx (by decide)
 have e6 := e4
 obtain ⟨w1, w2, w3, e4, e7, e8, e9, e5⟩ := rO.1 e4
 rw [e4] at e6
 exact ⟨id, o, w1, w2, w3, e1, aY e2 (by simpa using aX e4 (j := 0) rfl), nT e2 e3 (by decide) e4, e8, e9, e5, e6, e7⟩
theorem pW {xs : List PClass} (h : bg H v xs) {i : Nat} {x : PClass} (hx : xs[i]? = some x) : ∃ id o w1 w2 w3,
  (∀ (e s b : Nat) (z : List V) (ty : Nat → LT) (k : IntKind), (ty e).size = 4 → fQ ⟨.slice e, s, b, z⟩ ty (.val v) (.int k i) = some (.val (.ptr (some (id, o))))) ∧
  (∀ T' : List Ob, ∀ T : LT, T.many 4 → ∀ r c, loadAt T ⟨r, c, H ++ T'⟩ (.hp id o) = some (.agg [.str x.name, w1, w2, w3])) ∧ AStrs H w1 x.must ∧ AStrs H w2 x.may ∧ AStrs H w3 x.single := by
 obtain ⟨id, o, own, cells, e1, e2, e3, e4⟩ := ASl.idx h hx (by decide)
 obtain ⟨w1, w2, w3, e4, e7, e8, e9, e5⟩ := rO.1 e4
 exact ⟨id, o, w1, w2, w3, e1, fun T' => nT (aS _ _ e2) e3 (by decide) e4, e8, e9, e5⟩
end
def df (a b : Str) : Prop := Op.bytesLess a b = true
def cu {α : Type} (key : α → Str) (l : List α) (j : Nat) (x : α) : Prop := ∀ y, 0 < j → l[j - 1]? = some y → df (key y) (key x)
def DnOk (l : List PRdn) : Prop := (∀ (j : Nat) x, l[j]? = some x → aQ x.attr ∧ aN x.value) ∧ l.length ≤ 6
def eH (l : List Str) : Prop := ∀ (j : Nat) x, l[j]? = some x → aQ x ∧ cu (fun x => x) l j x
def aZ (l : List Str) : Prop := (∀ (j : Nat) x, l[j]? = some x → aN x ∧ cu norm l j x) ∧ 1 ≤ l.length ∧ l.length ≤ 4
def fZ (l : List PAttr) : Prop := (∀ (j : Nat) x, l[j]? = some x → aQ x.name ∧ cu PAttr.name l j x ∧ aZ x.vals) ∧ l.length ≤ 8
def EntryOk (e : PEntry) : Prop := 0 < e.dn.length ∧ DnOk e.dn ∧ fZ e.attrs
def gI : Str := [99, 108, 97, 115, 115]
structure ClassOk (c : PClass) : Prop where
 name : aQ c.name
 l1 : c.must.length ≤ 10
 l2 : c.may.length ≤ 10
 l3 : c.single.length ≤ 10
 n1 : eH c.must
 n2 : eH c.may
 n3 : eH c.single
 apart : ∀ t ∈ c.must, t ∉ c.may
 known : ∀ t ∈ c.single, t ∈ c.may ∨ t ∈ c.must
 noMust : gI ∉ c.must
 noMay : gI ∉ c.may
def fE (l : List PClass) : Prop := (∀ (j : Nat) x, l[j]? = some x → ClassOk x ∧ cu PClass.name l j x) ∧ l.length ≤ 6
theorem di {α : Type} {l : List α} {i : Nat} {P : Nat → α → Prop} (h : ∀ j x, j < i → l[j]? = some x → P j x) {c : α} (hc : l[i]? = some c) (hp : P i c) : ∀ j x, j < i + 1 → l[j]? = some x → P j x := by
 intro j x hj hx
 by_cases hji : j = i
 ·subst hji; rw [hc] at hx; cases hx; exact hp
 ·exact h j x (by omega) hx
theorem fD {α : Type} {l : List α} {P : Nat → α → Prop} (h : ∀ j x, j < l.length → l[j]? = some x → P j x) : ∀ j x, l[j]? = some x → P j x :=
 fun j x hx => h j x (List.getElem?_eq_some_iff.1 hx).1 hx
def FirstAt {α : Type} (key : α → Str) (l : List α) (n : Str) (r : Int) : Prop :=
 (∃ (k : Nat) (a : α), l[k]? = some a ∧ key a = n ∧ (∀ j b, j < k → l[j]? = some b → key b ≠ n) ∧ r = k) ∨ ((∀ (j : Nat) b, l[j]? = some b → key b ≠ n) ∧ r = -1)
def bT {α : Type} (key : α → Str) (l : List α) (n : Str) : Option α := l.find? fun a => key a == n
theorem FirstAt.pos {α : Type} {key : α → Str} {l : List α} {n : Str} {r : Int} (h : FirstAt key l n r) : (∃ (k : Nat) (a : α), l[k]? = some a ∧ r = k ∧ bT key l n = some a) ∨ (r = -1 ∧ bT key l n = none) := by
 rcases h with ⟨k, a, h1, h2, h3, rfl⟩ | ⟨h1, rfl⟩
 ·refine .inl ⟨k, a, h1, rfl, ?_⟩
  unfold bT
  rw [List.find?_eq_some_iff_getElem]
  obtain ⟨hk, h1⟩ := List.getElem?_eq_some_iff.1 h1
  refine ⟨by simp [h2], k, hk, h1, fun j hj => ?_⟩
  have := h3 j l[j] hj (List.getElem?_eq_getElem _)
  simp [this]
 ·refine .inr ⟨rfl, ?_⟩
  unfold bT
  rw [List.find?_eq_none]
  intro x hx
  obtain ⟨j, hj, rfl⟩ := List.getElem_of_mem hx
  simpa using h1 j _ (List.getElem?_eq_getElem hj)
def valsOf (l : List PAttr) (n : Str) : List Str := match bT PAttr.name l n with
 | some a => a.vals
 | none => []
noncomputable def jg (l : List PClass) (az : List PAttr) : Option PClass := match valsOf az gI with
 | [v] => bT PClass.name l (norm v)
 | _ => none
noncomputable def lacks (c : PClass) (az : List PAttr) : List Str := c.must.filter fun t => (bT PAttr.name az t).isNone
def Gs (H G : List Ob) (v : V) (cs : List V) : Prop := ∃ T id, G = H ++ T ∧ H.length ≤ id ∧ G[id]? = some (.mk true 1 cs) ∧ v = .slc (some (id, 0)) cs.length
theorem Gs.init {H : List Ob} : Gs H (H ++ [.mk true 1 []]) (.slc (some (H.length, 0)) 0) [] := ⟨_, H.length, rfl, Nat.le_refl _, by simp, rfl⟩
section
variable {H G : List Ob} {v : V} {cs : List V}
theorem Gs.push (h : Gs H G v cs) {x : V} {z : List V} {d : LD} {b : Nat} (hx : aP x = true) (hb : (cs.length + 1) * b ≤ aK) (hb0 : 0 < b) (hb1 : b ≤ 1000000) (hz : z.length = 1) : ∃ v' G', bI ⟨d, 1, b, z⟩ (G ++ [.mk true 1 [x]]) v (.slc (some (G.length, 0)) 1) = some (v', G') ∧ Gs H G' v' (cs ++ [x]) := by
 obtain ⟨T, id, rfl, h1, h2, rfl⟩ := h
 have hid : id < (H ++ T).length := (List.getElem?_eq_some_iff.1 h2).1
 have hid' : id < H.length + T.length := by simpa using hid
 have hg : (H ++ T ++ [Ob.mk true 1 [x]])[id]? = some (.mk true 1 cs) := by rw [List.getElem?_append_left hid]; exact h2
 have hnew : aU ⟨d, 1, b, z⟩ (H ++ T ++ [Ob.mk true 1 [x]]) (.slc (some ((H ++ T).length, 0)) 1) = some ([x], 1) := by
  simp only [aU, Nat.mul_one, bH, get_last]
  rfl
 refine ⟨.slc (some ((H ++ T ++ [Ob.mk true 1 [x]]).length, 0)) (cs.length + 1), (H ++ T ++ [Ob.mk true 1 [x]]).set id .dead ++ [.mk true 1 (cs ++ [x])], ?_, ?_⟩
 ·unfold bI
  rw [if_pos (by simp [gW, hz, hb0, hb1]), hnew]
  simp only [Nat.one_ne_zero, if_false, List.all_cons, List.all_nil, hx, Bool.and_true, if_true, hg]
  have e1 : ¬ (0 + (cs.length + 1) * 1 ≤ cs.length) := by omega
  have e2 : (0 + cs.length * 1 = cs.length ∨ cs.length = 0 ∧ cs.length ≤ 0) ∧ (cs.length + 1) * b ≤ aK := ⟨.inl (by simp), hb⟩
  rw [if_neg e1, if_pos e2, List.drop_zero]
 ·refine ⟨T.set (id - H.length) .dead ++ [.mk true 1 [x]] ++ [.mk true 1 (cs ++ [x])], (H ++ T ++ [Ob.mk true 1 [x]]).length, ?_, by simp only [List.length_append]; omega, ?_, by simp⟩
  ·rw [List.append_assoc H T, List.set_append_right _ _ h1, List.set_append_left _ _ (by omega)]
   simp
  ·have hl : ((H ++ T ++ [Ob.mk true 1 [x]]).set id .dead).length = (H ++ T ++ [Ob.mk true 1 [x]]).length := List.length_set
   rw [← hl, get_last]
theorem Gs.ext (h : Gs H G v cs) : ∃ T, G = H ++ T := by
 obtain ⟨T, id, h, _⟩ := h
 exact ⟨T, h⟩
theorem Gs.gc (h : Gs H G v cs) : fB H G v = G := by
 obtain ⟨T, id, rfl, h1, h2, rfl⟩ := h
 unfold fB
 rw [if_neg]
 rintro ⟨_, own, es, cells, h⟩
 have := (List.getElem?_eq_some_iff.1 h).1
 omega
theorem Gs.one (h : Gs H G v cs) : aP v = true ∧ cellsOf v = some [v] := by
 obtain ⟨T, id, rfl, h1, h2, rfl⟩ := h
 exact ⟨rfl, rfl⟩
theorem Gs.strs {l : List Str} (h : Gs H G v (l.map V.str)) (hl : l.length ≤ maxLen) (hs : ∀ s ∈ l, s.length ≤ maxLen) : AStrs G v l ∧ ∃ id, AtF G (.slice .str) [v] (.lst (l.map jl)) [id] ∧ H.length ≤ id := by
 obtain ⟨T, id, rfl, h1, h2, rfl⟩ := h
 have hF : AtF (H ++ T) (.slice .str) [.slc (some (id, 0)) (l.map V.str).length] (.lst (l.map jl)) [id] := by
  refine aF.2 ⟨_, _, rfl, rfl, by simpa using hl, .inr ⟨id, 0, l.map V.str, List.replicate l.length [], by simp, h2, by simp, by simp, by simp, fun i x G hx hG => ?_⟩⟩
  rw [List.getElem?_map] at hx
  obtain ⟨s, hs', rfl⟩ := Option.map_eq_some_iff.1 hx
  have hi : i < l.length := (List.getElem?_eq_some_iff.1 hs').1
  rw [List.getElem?_replicate, if_pos hi] at hG
  cases hG
  refine dh.2 ⟨⟨s, ?_, rfl, hs s (List.mem_of_getElem? hs')⟩, rfl⟩
  rw [Sh.size_str, Nat.zero_add, Nat.mul_one, List.drop_eq_getElem_cons (by simpa using hi)]
  obtain ⟨_, rfl⟩ := List.getElem?_eq_some_iff.1 hs'
  simp
 exact ⟨AtF.at _ hF, id, hF, h1⟩
end
abbrev dL : Sh := .st [.slice bz, .slice shEntry]
structure PTree where
 schema : List PClass
 entries : List PEntry
def PTree.u (t : PTree) : U := .st [.lst (t.schema.map PClass.u), .lst (t.entries.map PEntry.u)]
abbrev bW (H : List Ob) (v : V) (l : List PEntry) : Prop := ASl H shEntry PEntry.u v l
section
variable {H H' T : List Ob} {v : V}
theorem pM {cs : List V} {t : PTree} : At H dL cs t.u ↔ ∃ v1 v2, cs = [v1, v2] ∧ bg H v1 t.schema ∧ bW H v2 t.entries := by
 constructor
 ·intro h
  obtain ⟨us, hu, h⟩ := bV.1 h
  cases hu
  obtain ⟨c1, c2, u1, us1, rfl, hu, h1, h⟩ := ag.1 h
  cases hu
  obtain ⟨c3, c4, u2, us2, rfl, hu, h2, h⟩ := ag.1 h
  cases hu
  obtain ⟨rfl, _⟩ := aO.1 h
  obtain ⟨v1, _, rfl, _⟩ := aj.1 h1
  obtain ⟨v2, _, rfl, _⟩ := aj.1 h2
  exact ⟨v1, v2, rfl, h1, h2⟩
 ·rintro ⟨v1, v2, rfl, h1, h2⟩
  exact bV.2 ⟨_, rfl, ag.2 ⟨[_], _, _, _, rfl, rfl, h1, ag.2 ⟨[_], _, _, _, rfl, rfl, h2, aO.2 ⟨rfl, rfl⟩⟩⟩⟩
theorem uu {cs : List V} {u : U} (h : At H dL cs u) : ∃ r : PTree, u = r.u := by
 replace h := bV.1 h
 obtain ⟨us, rfl, h⟩ := h
 obtain ⟨c1, c2, u1, us1, rfl, rfl, h1, h⟩ := ag.1 h
 obtain ⟨c3, c4, u2, us2, rfl, rfl, h2, h⟩ := ag.1 h
 obtain ⟨rfl, rfl⟩ := aO.1 h
 obtain ⟨v, l, rfl, rfl, _⟩ := ASl.typed (fun _ _ => II) h1
 obtain ⟨v', l', rfl, rfl, _⟩ := ASl.typed (fun _ _ => IK) h2
 exact ⟨⟨l, l'⟩, rfl⟩
theorem dM {xs : List PEntry} (h : bW H v xs) {i : Nat} {x : PEntry} (hx : xs[i]? = some x) : ∃ id o w1 w2,
  (∀ (e s b : Nat) (z : List V) (ty : Nat → LT) (k : IntKind), (ty e).size = 2 → fQ ⟨.slice e, s, b, z⟩ ty (.val v) (.int k i) = some (.val (.ptr (some (id, o))))) ∧
  (∀ T : LT, T.one → ∀ r c, loadAt T ⟨r, c, H⟩ (.hp id o) = some w1) ∧ (∀ T : LT, T.one → ∀ r c, loadAt T ⟨r, c, H⟩ (.hp id (o + 1)) = some w2) ∧
  (∀ T : LT, T.many 2 → ∀ r c, loadAt T ⟨r, c, H⟩ (.hp id o) = some (.agg [w1, w2])) ∧ dK H w1 x.dn ∧ bK H w2 x.attrs ∧ At H shEntry [w1, w2] x.u := by
 obtain ⟨id, o, own, cells, e1, e2, e3, e4⟩ := ASl.idx h hx (by decide)
 have e6 := e4
 obtain ⟨w1, w2, e4, e7, e8⟩ := iw.1 e4
 rw [e4] at e6
 exact ⟨id, o, w1, w2, e1, aY e2 (by simpa using aX e4 (j := 0) rfl), aY e2 (by simpa using aX e4 (j := 1) rfl), nT e2 e3 (by decide) e4, e7, e8, e6⟩
end
noncomputable def dG (dn : List PRdn) : Str := VY (dn.map fun r => (r.attr, r.value))
def nV (as' : List PAttr) (name n : Str) : Prop := n ≠ [] ∧ ∃ v ∈ valsOf as' name, norm v = n
def ku (c : PClass) (a : PAttr) : Prop := (a.name = gI ∨ a.name ∈ c.must ∨ a.name ∈ c.may) ∧ ¬ (1 < a.vals.length ∧ a.name ∈ c.single)
def fF (l : List PClass) (e : PEntry) : Prop := ∃ c, jg l e.attrs = some c ∧ lacks c e.attrs = [] ∧ (∀ a ∈ e.attrs, ku c a) ∧ ∃ r, e.dn[0]? = some r ∧ nV e.attrs r.attr (norm r.value)
def iy (es : List PEntry) (dn : List PRdn) : Prop := dn.length ≤ 1 ∨ ∃ y ∈ es, dG y.dn = dG dn.tail
def Oo (s : List PClass) (es : List PEntry) : Prop := es.length ≤ 20 ∧ ∀ (j : Nat) x, es[j]? = some x → EntryOk x ∧ fF s x ∧ cu (fun e => dG e.dn) es j x
def TreeOk (t : PTree) : Prop := fE t.schema ∧ Oo t.schema t.entries ∧ ∀ x ∈ t.entries, iy t.entries x.dn
abbrev pI (r : PRdn) : Str × Str := (r.attr, r.value)
theorem Ae : ∀ (l : List PRdn) (cs : List V), cs.length = l.length * 2 → (∀ (i : Nat) x, l[i]? = some x → cs[i * 2]? = some (.str x.attr) ∧ cs[i * 2 + 1]? = some (.str x.value)) → qA cs = some (l.map pI)
 | [], cs, hl, _ => by
  have : cs = [] := List.length_eq_zero_iff.1 (by simpa using hl)
  subst this
  rfl
 | x :: l, cs, hl, h => by
  match cs, hl, h with
  | a :: b :: cs, hl, h =>
   obtain ⟨h1, h2⟩ := h 0 x rfl
   simp at h1 h2
   subst h1 h2
   have ih := Ae l cs (by simp at hl; omega) (fun i y hy => by
    have := h (i + 1) y (by simpa using hy)
    rw [show (i + 1) * 2 = i * 2 + 1 + 1 by omega] at this
    simpa using this)
   simp [qA, ih]
  | [], hl, _ => simp at hl
  | [a], hl, _ => simp at hl; omega
theorem NJ {H : List Ob} {v : V} {l : List PRdn} (h : dK H v l) (hl : l.length ≤ 1048576) (hs : ∀ x ∈ l, x.attr.length ≤ 1048576 ∧ x.value.length ≤ 1048576) : uw [v] H = some (.str (dG l), H) := by
 rcases h.sl with ⟨rfl, h0⟩ | ⟨id, off, own, cells, rfl, h2, h3, h4⟩
 ·have : l = [] := by simpa using h0
  subst this
  rfl
 ·rw [List.length_map] at h3 ⊢
  have hsz : shRdn.size = 2 := rfl
  rw [hsz] at h2 h3 h4
  by_cases h0 : l.length = 0
  ·have : l = [] := List.length_eq_zero_iff.1 h0
   subst this
   rfl
  ·have hp : qA ((cells.drop off).take (l.length * 2)) = some (l.map pI) := by
    refine Ae l _ (by simp; omega) fun i x hx => ?_
    have hi : i < l.length := (List.getElem?_eq_some_iff.1 hx).1
    have h5 := h4 i x.u (by rw [List.getElem?_map, hx]; rfl)
    obtain ⟨h5, _⟩ := Rk.1 h5
    have g0 := aX h5 (j := 0) rfl
    have g1 := aX h5 (j := 1) rfl
    rw [List.getElem?_take_of_lt (by omega), List.getElem?_take_of_lt (by omega), List.getElem?_drop, List.getElem?_drop]
    refine ⟨?_, ?_⟩
    ·rw [← g0]; congr 1
    ·rw [← g1]; congr 1
   have hf : yf (l.map pI) = true := by
    simp only [yf, List.all_map, List.all_eq_true, Function.comp, Bool.and_eq_true, decide_eq_true_eq]
    exact fun x hx => hs x hx
   simp only [uw, if_neg h0, if_pos hl, h2, if_pos h3, hp]
   rw [if_pos ⟨hf, by simp⟩]
   rfl
noncomputable def tJ (l : List PRdn) (k : Nat) : Str := ((l.drop k).reverse.map pI).foldl jw []
theorem Si {l : List PRdn} : tJ l l.length = [] := by simp [tJ]
theorem Ot {l : List PRdn} : tJ l 0 = dG l := by
 show ((l.drop 0).reverse.map pI).foldl jw [] = (l.map fun r => (r.attr, r.value)).reverse.foldl jw []
 rw [List.drop_zero, List.map_reverse]
theorem NW {l : List PRdn} {k : Nat} {x : PRdn} (h : l[k]? = some x) : tJ l k = jw (tJ l (k + 1)) (pI x) := by
 obtain ⟨hk, rfl⟩ := List.getElem?_eq_some_iff.1 h
 unfold tJ
 rw [List.drop_eq_getElem_cons hk]
 simp only [List.reverse_cons, List.map_append, List.foldl_append, List.map_cons, List.map_nil, List.foldl_cons, List.foldl_nil]
theorem BV : ∀ (l : List (Str × Str)) (s : Str), (∀ p ∈ l, p.1.length ≤ 20) → (l.foldl jw s).length ≤ s.length + l.length * 122
 | [], s, _ => by simp
 | p :: l, s, h => by
  have ih := BV l (jw s p) fun q hq => h q (List.mem_cons_of_mem _ hq)
  have h1 := h p List.mem_cons_self
  have h2 := wS (t := p.2)
  have h3 : (jw s p).length ≤ s.length + 122 := by simp only [jw, List.length_append, List.length_cons]; omega
  simp only [List.foldl_cons, List.length_cons]
  omega
theorem Q9 {l : List PRdn} (hd : DnOk l) (k : Nat) : (tJ l k).length ≤ 1000 := by
 have h := BV ((l.drop k).reverse.map pI) [] (fun p hp => by
  obtain ⟨x, hx, rfl⟩ := List.mem_map.1 hp
  have hx := List.mem_of_mem_drop (List.mem_reverse.1 hx)
  obtain ⟨j, hj, rfl⟩ := List.getElem_of_mem hx
  exact (hd.1 j _ (List.getElem?_eq_getElem hj)).1.2.1)
 have := hd.2
 simp only [List.length_map, List.length_reverse, List.length_drop, List.length_nil] at h
 unfold tJ
 omega
theorem DnOk.small {l : List PRdn} (hd : DnOk l) : l.length ≤ 1048576 ∧ ∀ x ∈ l, x.attr.length ≤ 1048576 ∧ x.value.length ≤ 1048576 := by
 refine ⟨by have := hd.2; omega, fun x hx => ?_⟩
 obtain ⟨j, hj, rfl⟩ := List.getElem_of_mem hx
 obtain ⟨h1, h2⟩ := hd.1 j _ (List.getElem?_eq_getElem hj)
 have := h1.2.1
 have := h2.2.1
 omega
theorem DnOk.tail {l : List PRdn} (hd : DnOk l) : DnOk l.tail := by
 refine ⟨fun j x hx => hd.1 (j + 1) x (by rw [List.getElem?_tail] at hx; exact hx), ?_⟩
 have := hd.2
 simp
 omega
theorem CQ {H : List Ob} {v : V} {l : List PRdn} (h : dK H v l) (h1 : 1 ≤ l.length) : ∃ id off own cells, v = .slc (some (id, off)) l.length ∧ H[id]? = some (.mk own 2 cells) ∧ dK H (.slc (some (id, off + 2)) (l.length - 1)) l.tail := by
 have hb := h.bound
 rcases h.sl with ⟨rfl, h0⟩ | ⟨id, off, own, cells, rfl, h2, h3, h4⟩
 ·have : l = [] := by simpa using h0
  subst this
  simp at h1
 ·rw [List.length_map] at h3 ⊢
  refine ⟨id, off, own, cells, rfl, h2, ?_⟩
  have hsz : shRdn.size = 2 := rfl
  rw [hsz] at h2 h3 h4
  refine aj.2 ⟨_, _, rfl, rfl, by simp; omega, .inr ⟨id, off + 2, own, cells, by simp, h2, ?_, fun i x hx => ?_⟩⟩
  ·rw [hsz, List.length_map, List.length_tail]; omega
  ·have := h4 (i + 1) x (by rw [List.getElem?_map] at hx ⊢; rw [List.getElem?_tail] at hx; exact hx)
   rw [hsz, show off + 2 + i * 2 = off + (i + 1) * 2 by omega]
   exact this
section
variable {H H' T : List Ob}
theorem Sl.mapL {α : Type} {es : Nat} {R R' : List V → α → Prop} {v : V} {xs : List α} (h : Sl H es R v xs) (hH : ∀ (id : Nat) own es cells, H[id]? = some (.mk own es cells) → H'[id]? = some (.mk own es cells)) (hR : ∀ cs x, R cs x → R' cs x) : Sl H' es R' v xs := by
 rcases h with h | ⟨id, off, own, cells, h1, h2, h3, h4⟩
 ·exact .inl h
 ·exact .inr ⟨id, off, own, cells, h1, hH _ _ _ _ h2, h3, fun i x hx => hR _ _ (h4 i x hx)⟩
mutual
theorem At.upL (hH : ∀ (id : Nat) own es cells, H[id]? = some (.mk own es cells) → H'[id]? = some (.mk own es cells)) : ∀ (sh : Sh) {cs : List V} {u : U}, At H sh cs u → At H' sh cs u
 | .int k, _, _, h => h
 | .bool, _, _, h => h
 | .str, _, _, h => h
 | .slice e, _, _, h => by
  simp only [At] at h ⊢
  obtain ⟨v, l, h1, h2, h3, h4⟩ := h
  exact ⟨v, l, h1, h2, h3, h4.mapL hH fun _ _ h => At.upL hH e h⟩
 | .st fs, _, _, h => by
  simp only [At] at h ⊢
  obtain ⟨us, h1, h2⟩ := h
  exact ⟨us, h1, Ats.upL hH fs h2⟩
theorem Ats.upL (hH : ∀ (id : Nat) own es cells, H[id]? = some (.mk own es cells) → H'[id]? = some (.mk own es cells)) : ∀ (fs : List Sh) {cs : List V} {us : List U}, Ats H fs cs us → Ats H' fs cs us
 | [], _, _, h => h
 | f :: fs, _, _, h => by
  simp only [Ats] at h ⊢
  obtain ⟨c1, c2, u, us', h1, h2, h3, h4⟩ := h
  exact ⟨c1, c2, u, us', h1, h2, At.upL hH f h3, Ats.upL hH fs h4⟩
end
theorem At.undead {id : Nat} {sh : Sh} {cs : List V} {u : U} (h : At (H.set id .dead) sh cs u) : At H sh cs u := by
 refine At.upL (fun q own es cells hq => ?_) sh h
 by_cases e : id = q
 ·subst e
  by_cases hl : id < H.length
  ·rw [List.getElem?_set_self hl] at hq; cases hq
  ·rw [List.getElem?_eq_none (by simp; omega)] at hq; cases hq
 ·rwa [List.getElem?_set_ne e] at hq
theorem AtF.kill {id : Nat} {sh : Sh} {cs : List V} {u : U} {F : List Nat} (h : AtF H sh cs u F) (hF : id ∉ F) {o : Ob} : AtF (H.set id o) sh cs u F :=
 h.frame sh fun q hq => List.getElem?_set_ne fun e => hF (by rw [e]; exact hq)
theorem Eo {id : Nat} {o : Ob} (h : id < H.length) : (H ++ T).set id o = H.set id o ++ T := List.set_append_left _ _ h
theorem TI {id : Nat} {o : Ob} (h : H.length ≤ id) : ∃ T', (H ++ T).set id o = H ++ T' := ⟨_, List.set_append_right _ _ h⟩
end
def New (b e : Nat) (G : List Ob) (sh : Sh) (cs : List V) (u : U) : Prop := ∃ F, AtF G sh cs u F ∧ F.Nodup ∧ ∀ q ∈ F, b ≤ q ∧ q < e
def News (b e : Nat) (G : List Ob) (fs : List Sh) (cs : List V) (us : List U) : Prop := ∃ F, AtsF G fs cs us F ∧ F.Nodup ∧ ∀ q ∈ F, b ≤ q ∧ q < e
section
variable {b e b' e' : Nat} {G G' T : List Ob} {sh : Sh} {fs : List Sh} {cs c1 c2 : List V} {u : U} {us : List U}
theorem New.at (h : New b e G sh cs u) : At G sh cs u := h.elim fun _ h => AtF.at _ h.1
theorem New.ext (h : New b e G sh cs u) : New b e (G ++ T) sh cs u := h.imp fun _ h => ⟨h.1.ext, h.2⟩
theorem New.wide (h : New b e G sh cs u) (hb : b' ≤ b) (he : e ≤ e') : New b' e' G sh cs u := h.imp fun _ h => ⟨h.1, h.2.1, fun q hq => ⟨Nat.le_trans hb (h.2.2 q hq).1, Nat.lt_of_lt_of_le (h.2.2 q hq).2 he⟩⟩
theorem New.frame (h : New b e G sh cs u) (hG : ∀ q, b ≤ q → q < e → G'[q]? = G[q]?) : New b e G' sh cs u := h.imp fun _ h => ⟨h.1.frame _ fun q hq => hG q (h.2.2 q hq).1 (h.2.2 q hq).2, h.2⟩
theorem New.inG (h : New b e G sh cs u) : New b G.length G sh cs u := h.imp fun _ h => ⟨h.1, h.2.1, fun q hq => ⟨(h.2.2 q hq).1, AtF.mem _ h.1 q hq⟩⟩
theorem New.kill (h : New b e G sh cs u) {id : Nat} (hid : id < b ∨ e ≤ id) {o : Ob} : New b e (G.set id o) sh cs u := h.frame fun q h1 h2 => List.getElem?_set_ne (by omega)
theorem New.str {s : Str} (h : s.length ≤ maxLen) : New b e G .str [.str s] (.str s) := ⟨[], dh.2 ⟨⟨s, rfl, rfl, h⟩, rfl⟩, by simp, by simp⟩
theorem New.int {k : IntKind} {n : Int} (h : (Lit.int k n).wf = true) : New b e G (.int k) [.int k n] (.int n) := ⟨[], lQ.2 ⟨⟨n, rfl, rfl, h⟩, rfl⟩, by simp, by simp⟩
theorem New.bool {t : Bool} : New b e G .bool [.bool t] (.bool t) := ⟨[], Aw.2 ⟨⟨t, rfl, rfl⟩, rfl⟩, by simp, by simp⟩
theorem New.nil : New b e G (.slice sh) [.slc none 0] (.lst []) := ⟨[], aF.2 ⟨_, _, rfl, rfl, by simp, .inl ⟨rfl, rfl, rfl⟩⟩, by simp, by simp⟩
theorem News.nil : News b e G [] [] [] := ⟨[], dC.2 ⟨rfl, rfl, rfl⟩, by simp, by simp⟩
theorem News.ext (h : News b e G fs cs us) : News b e (G ++ T) fs cs us := by
 obtain ⟨F, h1, h2⟩ := h
 exact ⟨F, AtsF.frame _ (fun q hq => List.getElem?_append_left (AtsF.mem _ h1 q hq)) h1, h2⟩
theorem News.frame (h : News b e G fs cs us) (hG : ∀ q, b ≤ q → q < e → G'[q]? = G[q]?) : News b e G' fs cs us := h.imp fun _ h => ⟨h.1.frame _ fun q hq => hG q (h.2.2 q hq).1 (h.2.2 q hq).2, h.2⟩
theorem New.st (h : News b e G fs cs us) : New b e G (.st fs) cs (.st us) := h.imp fun _ h => ⟨eQ.2 ⟨_, rfl, h.1⟩, h.2⟩
theorem News.cons {m : Nat} (h : New b m G sh c1 u) (hs : News m e G fs c2 us) (h1 : b ≤ m) (h2 : m ≤ e) : News b e G (sh :: fs) (c1 ++ c2) (u :: us) := by
 obtain ⟨F, f1, f2, f3⟩ := h
 obtain ⟨K, k1, k2, k3⟩ := hs
 refine ⟨F ++ K, aC.2 ⟨c1, c2, u, us, F, K, rfl, rfl, rfl, f1, k1⟩, List.nodup_append.2 ⟨f2, k2, fun x hx y hy e => ?_⟩, fun q hq => ?_⟩
 ·subst e; have := f3 x hx; have := k3 x hy; omega
 ·rcases List.mem_append.1 hq with hq | hq
  ·have := f3 q hq; omega
  ·have := k3 q hq; omega
theorem News.cons0 (h : AtF G sh c1 u []) (hs : News b e G fs c2 us) : News b e G (sh :: fs) (c1 ++ c2) (u :: us) := by
 obtain ⟨K, k1, k2⟩ := hs
 exact ⟨K, aC.2 ⟨c1, c2, u, us, [], K, rfl, rfl, rfl, h, k1⟩, k2⟩
theorem News.str {s : Str} (hl : s.length ≤ maxLen) (hs : News b e G fs c2 us) : News b e G (.str :: fs) (.str s :: c2) (.str s :: us) := News.cons0 (c1 := [.str s]) (dh.2 ⟨⟨s, rfl, rfl, hl⟩, rfl⟩) hs
theorem News.int {k : IntKind} {n : Int} (hn : (Lit.int k n).wf = true) (hs : News b e G fs c2 us) : News b e G (.int k :: fs) (.int k n :: c2) (.int n :: us) := News.cons0 (c1 := [.int k n]) (lQ.2 ⟨⟨n, rfl, rfl, hn⟩, rfl⟩) hs
theorem News.bool {t : Bool} (hs : News b e G fs c2 us) : News b e G (.bool :: fs) (.bool t :: c2) (.bool t :: us) := News.cons0 (c1 := [.bool t]) (Aw.2 ⟨⟨t, rfl, rfl⟩, rfl⟩) hs
theorem News.nilS {e' : Sh} (hs : News b e G fs c2 us) : News b e G (.slice e' :: fs) (.slc none 0 :: c2) (.lst [] :: us) := News.cons0 (c1 := [.slc none 0]) (aF.2 ⟨_, _, rfl, rfl, by simp, .inl ⟨rfl, rfl, rfl⟩⟩) hs
theorem News.one (h : New b e G sh cs u) (h1 : b ≤ e) : News b e G [sh] cs [u] := by
 have := News.cons h (News.nil (b := e) (e := e) (G := G)) h1 (Nat.le_refl _)
 simpa using this
theorem New.gc {H : List Ob} {v : V} (hv : eY H v ↔ iD H cs) (h : New H.length e (H ++ T) sh cs u) : ∃ T', fB H (H ++ T) v = H ++ T' ∧ New H.length (H ++ T').length (H ++ T') sh cs u := by
 by_cases hl : eY H v
 ·refine ⟨[], by rw [jA hl, List.append_nil], ?_⟩
  obtain ⟨F, h1, h2, h3⟩ := h
  have hF : F = [] := AtF.cut _ h1 (fun q hq => (h3 q hq).1) (hv.1 hl)
  subst hF
  exact ⟨[], AtF.frame _ (fun q hq => by cases hq) h1, by simp, by simp⟩
 ·refine ⟨T, ?_, h.inG⟩
  unfold fB
  rw [if_neg fun h => hl h.2]
theorem New.one1 {v : V} {e0 : Sh} (h : New b e G (.slice e0) [v] u) : aP v = true ∧ cellsOf v = some [v] := by
 obtain ⟨w, l, hw, _, _, h4⟩ := aj.1 h.at
 cases hw
 exact h4.one
theorem New.gc1 {H : List Ob} {v : V} (h : New H.length e (H ++ T) sh [v] u) : ∃ T', fB H (H ++ T) v = H ++ T' ∧ New H.length (H ++ T').length (H ++ T') sh [v] u := h.gc (by simp [iD])
theorem New.gcA {H : List Ob} (h : New H.length e (H ++ T) sh cs u) : ∃ T', fB H (H ++ T) (.agg cs) = H ++ T' ∧ New H.length (H ++ T').length (H ++ T') sh cs u := h.gc (by simp [eY])
end
theorem gJ {d : LD} {sz by_ : Nat} {z : List V} {G : List Ob} {id n m : Nat} {cs xs : List V} {x : V} (hz : z.length = sz) (h0 : 0 < sz) (hb0 : 0 < by_) (hb1 : by_ ≤ 1000000) (h : G[id]? = some (.mk true sz cs)) (hl : cs.length = n * sz)
  (hx : aU ⟨d, sz, by_, z⟩ G x = some (xs, m)) (hm : m ≠ 0) (ho : xs.all aP = true) (hb : (n + m) * by_ ≤ aK) :
  bI ⟨d, sz, by_, z⟩ G (.slc (some (id, 0)) n) x = some (.slc (some (G.length, 0)) (n + m), G.set id .dead ++ [.mk true sz (cs ++ xs)]) := by
 have e0 : 0 < m * sz := Nat.mul_pos (by omega) h0
 have e1 : (n + m) * sz = n * sz + m * sz := Nat.add_mul _ _ _
 unfold bI
 rw [if_pos (by simp [gW, h0, hb0, hb1, hz]), hx]
 simp only [hm, if_false, ho, if_true, h]
 rw [if_neg (by omega), if_pos ⟨.inl (by omega), hb⟩, List.drop_zero]
theorem og {d : LD} {sz by_ : Nat} {z : List V} {G : List Ob} {m : Nat} {xs : List V} {x : V} (hz : z.length = sz) (h0 : 0 < sz) (hb0 : 0 < by_) (hb1 : by_ ≤ 1000000)
  (hx : aU ⟨d, sz, by_, z⟩ G x = some (xs, m)) (hm : m ≠ 0) (ho : xs.all aP = true) (hb : m * by_ ≤ aK) :
  bI ⟨d, sz, by_, z⟩ G (.slc none 0) x = some (.slc (some (G.length, 0)) m, G ++ [.mk true sz xs]) := by
 unfold bI
 rw [if_pos (by simp [gW, h0, hb0, hb1, hz]), hx]
 simp only [hm, if_false, ho, if_true]
 rw [if_pos hb]
theorem qi {d : LD} {by_ : Nat} {z : List V} {G : List Ob} {es : Nat} {c : List V} (h0 : 0 < c.length) : aU ⟨d, c.length, by_, z⟩ (G ++ [.mk true es c]) (.slc (some (G.length, 0)) 1) = some (c, 1) := by
 have : ¬ c.length = 0 := by omega
 simp [aU, bH, this]
def Lst {α : Type} (B G : List Ob) (sh : Sh) (f : α → U) (v : V) (l : List α) : Prop := (∃ T, G = B ++ T) ∧ ((v = .slc none 0 ∧ l = []) ∨ ∃ id cs, B.length ≤ id ∧ G[id]? = some (.mk true sh.size cs) ∧ v = .slc (some (id, 0)) l.length ∧
 cs.length = l.length * sh.size ∧ ∀ i x, l[i]? = some x → At (G.set id .dead) sh ((cs.drop (i * sh.size)).take sh.size) (f x))
section
variable {α : Type} {B G T : List Ob} {sh : Sh} {f : α → U} {v : V} {l : List α}
theorem Lst.nil : Lst B B sh f (.slc none 0) [] := ⟨⟨[], by simp⟩, .inl ⟨rfl, rfl⟩⟩
theorem Lst.init : Lst B (B ++ [.mk true sh.size []]) sh f (.slc (some (B.length, 0)) 0) [] := ⟨⟨_, rfl⟩, .inr ⟨B.length, [], Nat.le_refl _, by simp, rfl, by simp, fun i x h => by simp at h⟩⟩
theorem Lst.pre (h : Lst B G sh f v l) : ∃ T, G = B ++ T := h.1
theorem Lst.ext (h : Lst B G sh f v l) : Lst B (G ++ T) sh f v l := by
 obtain ⟨⟨S, hS⟩, h⟩ := h
 refine ⟨⟨S ++ T, by rw [hS, List.append_assoc]⟩, ?_⟩
 rcases h with h | ⟨id, cs, h1, h2, h3, h4, h5⟩
 ·exact .inl h
 ·have hid := (List.getElem?_eq_some_iff.1 h2).1
  exact .inr ⟨id, cs, h1, by rw [List.getElem?_append_left hid]; exact h2, h3, h4, fun i x hx => by rw [Eo hid]; exact (h5 i x hx).ext⟩
theorem Lst.one (h : Lst B G sh f v l) : aP v = true ∧ cellsOf v = some [v] := by
 obtain ⟨_, ⟨rfl, _⟩ | ⟨id, cs, _, _, rfl, _⟩⟩ := h <;> exact ⟨rfl, rfl⟩
theorem Lst.len (h : Lst B G sh f v l) {e s b : Nat} {z : List V} : lenV ⟨.slice e, s, b, z⟩ v = some (.int .i64 l.length) := by
 obtain ⟨_, ⟨rfl, rfl⟩ | ⟨id, cs, _, _, rfl, _⟩⟩ := h <;> rfl
theorem Lst.at (h : Lst B G sh f v l) (hl : l.length ≤ maxLen) : ASl G sh f v l := by
 obtain ⟨_, ⟨rfl, rfl⟩ | ⟨id, cs, h1, h2, rfl, h4, h5⟩⟩ := h
 ·exact aj.2 ⟨_, _, rfl, rfl, by simp, .inl ⟨rfl, rfl⟩⟩
 ·refine aj.2 ⟨_, _, rfl, rfl, by simpa using hl, .inr ⟨id, 0, true, cs, by simp, h2, by simp; omega, fun i x hx => ?_⟩⟩
  rw [List.getElem?_map] at hx
  obtain ⟨y, hy, rfl⟩ := Option.map_eq_some_iff.1 hx
  rw [Nat.zero_add]
  exact (h5 i y hy).undead
theorem Ia {cs c : List V} {n s : Nat} (hl : cs.length = n * s) (hc : c.length = s) {P : Nat → List V → Prop} (h1 : ∀ i, i < n → P i ((cs.drop (i * s)).take s)) (h2 : P n c) : ∀ i, i < n + 1 → P i (((cs ++ c).drop (i * s)).take s) := by
 intro i hi
 by_cases e : i = n
 ·subst e
  rw [List.drop_append_of_le_length (by omega), List.drop_of_length_le (by omega), List.nil_append, List.take_of_length_le (by omega)]
  exact h2
 ·have h3 : i * s + s ≤ n * s := dY (by omega)
  rw [List.drop_append_of_le_length (by omega), List.take_append_of_le_length (by simp; omega)]
  exact h1 i (by omega)
theorem Lst.apart (h : Lst B G sh f v l) {q n : Nat} (hq : G.length ≤ q) : v ≠ .slc (some (q, 0)) n := by
 obtain ⟨_, ⟨rfl, _⟩ | ⟨id, cs, _, h2, rfl, _⟩⟩ := h
 ·simp
 ·have := (List.getElem?_eq_some_iff.1 h2).1
  simp
  omega
theorem Lst.push {d : LD} {sz by_ : Nat} {z : List V} (h : Lst B G sh f v l) {x : α} {c : List V} (hx : (∃ F, AtF (G ++ T) sh c (f x) F ∧ ∀ q ∈ F, ∀ n, v ≠ .slc (some (q, 0)) n) ∨ At B sh c (f x)) (hs : sz = sh.size) (hz : z.length = sz) (h0 : 0 < sz) (hb0 : 0 < by_) (hb1 : by_ ≤ 1000000) (hb : (l.length + 1) * by_ ≤ aK) :
  ∃ v' G', bI ⟨d, sz, by_, z⟩ (G ++ T ++ [.mk true sz c]) v (.slc (some ((G ++ T).length, 0)) 1) = some (v', G') ∧ Lst B G' sh f v' (l ++ [x]) ∧ c.length = sz ∧ c.all aP = true ∧
   v' = .slc (some ((G ++ T).length + 1, 0)) (l.length + 1) ∧ (∀ q, q < (G ++ T).length → (∀ n, v ≠ .slc (some (q, 0)) n) → G'[q]? = (G ++ T)[q]?) ∧ (G ++ T).length + 2 = G'.length := by
 obtain ⟨S, hS⟩ := h.1
 have hat : At (G ++ T) sh c (f x) := by
  rcases hx with ⟨F, h1, _⟩ | hx
  ·exact AtF.at _ h1
  ·rw [hS, List.append_assoc]; exact hx.ext
 have hcl : c.length = sz := by rw [hs]; exact At.len _ hat
 have hco := At.ones _ hat
 subst hcl
 have hnew := qi (d := d) (by_ := by_) (z := z) (G := G ++ T) (es := c.length) h0
 obtain ⟨_, ⟨rfl, rfl⟩ | ⟨id, cs, h1, h2, rfl, h4, h5⟩⟩ := h
 ·refine ⟨_, _, og hz h0 hb0 hb1 hnew (by decide) hco (by simpa using hb), ⟨⟨_, by rw [hS, List.append_assoc, List.append_assoc, List.append_assoc]⟩, .inr ⟨_, c, ?_, get_last.trans (by rw [hs]), by simp, by simp [hs], fun i y hy => ?_⟩⟩, rfl, hco, by simp [Nat.add_assoc], fun q hq _ => ?_, by simp [Nat.add_assoc]⟩
  ·simp [hS]
  ·rw [rM]
   have : i = 0 := by
    have := (List.getElem?_eq_some_iff.1 hy).1
    simp at this; omega
   subst this
   cases hy
   rw [Nat.zero_mul, List.drop_zero, List.take_of_length_le (by omega)]
   exact hat.ext.ext
  ·rw [List.append_assoc, List.getElem?_append_left hq]
 ·have hid := (List.getElem?_eq_some_iff.1 h2).1
  have h2' : (G ++ T ++ [Ob.mk true c.length c])[id]? = some (.mk true c.length cs) := by rw [List.append_assoc, List.getElem?_append_left hid, h2, hs]
  refine ⟨_, _, gJ hz h0 hb0 hb1 h2' (by rw [h4, hs]) hnew (by decide) hco hb, ⟨?_, .inr ⟨(G ++ T ++ [Ob.mk true c.length c]).length, cs ++ c, by simp [hS], ?_, by simp, by simp [h4, hs, Nat.add_mul], ?_⟩⟩, rfl, hco, by simp [Nat.add_assoc], fun q hq hn => ?_, by simp [Nat.add_assoc]⟩
  ·rw [hS, List.append_assoc, List.append_assoc, List.set_append_right _ _ h1, List.append_assoc]
   exact ⟨_, rfl⟩
  ·have : (G ++ T ++ [Ob.mk true c.length c]).length = ((G ++ T ++ [Ob.mk true c.length c]).set id .dead).length := List.length_set.symm
   rw [this, get_last, hs]
  ·have hlen : (G ++ T ++ [Ob.mk true c.length c]).length = ((G ++ T ++ [Ob.mk true c.length c]).set id .dead).length := List.length_set.symm
   have hG' : ((G ++ T ++ [Ob.mk true c.length c]).set id .dead ++ [Ob.mk true c.length (cs ++ c)]).set (G ++ T ++ [Ob.mk true c.length c]).length .dead = G.set id .dead ++ (T ++ [Ob.mk true c.length c] ++ [.dead]) := by
    rw [hlen, rM, List.append_assoc G, Eo hid, List.append_assoc]
   rw [hG']
   have key := Ia (n := l.length) (s := sh.size) (cs := cs) (c := c) (by rw [h4]) hs (P := fun i cc => ∀ y, (l ++ [x])[i]? = some y → At (G.set id .dead ++ (T ++ [Ob.mk true c.length c] ++ [.dead])) sh cc (f y)) (fun i hi y hy => by
     rw [List.getElem?_append_left hi] at hy
     exact (h5 i y hy).ext) (fun y hy => by
     simp at hy
     subst hy
     rcases hx with ⟨F, f1, f2⟩ | hx
     ·have := AtF.at _ (AtF.kill (id := id) (o := .dead) f1 fun hm => f2 id hm _ rfl)
      rw [Eo hid] at this
      have := this.ext (T := [Ob.mk true c.length c] ++ [.dead])
      simpa [List.append_assoc] using this
     ·rw [hS, List.set_append_right _ _ h1, List.append_assoc]
      exact hx.ext)
   intro i y hy
   have hi : i < l.length + 1 := by
    have := (List.getElem?_eq_some_iff.1 hy).1
    simpa using this
   exact key i hi y hy
  ·have hne : q ≠ id := fun e => hn _ (by rw [e])
   rw [List.getElem?_append_left (by simp at hq ⊢; omega), List.getElem?_set_ne (fun e => hne e.symm), List.getElem?_append_left hq]
end
mutual
def Sh.flat : Sh → Bool
 | .slice _ => false
 | .st fs => Sh.flats fs
 | _ => true
def Sh.flats : List Sh → Bool
 | [] => true
 | f :: fs => f.flat && Sh.flats fs
end
section
variable {H H' : List Ob}
mutual
theorem At.flat : ∀ (sh : Sh) {cs : List V} {u : U}, sh.flat = true → At H sh cs u → AtF H' sh cs u []
 | .int k, _, _, _, h => lQ.2 ⟨jK.1 h, rfl⟩
 | .bool, _, _, _, h => Aw.2 ⟨D8.1 h, rfl⟩
 | .str, _, _, _, h => dh.2 ⟨bn.1 h, rfl⟩
 | .slice e, _, _, hf, _ => by simp [Sh.flat] at hf
 | .st fs, _, _, hf, h => by
  obtain ⟨us, h1, h2⟩ := bV.1 h
  exact eQ.2 ⟨us, h1, Ats.flat fs (by simpa [Sh.flat] using hf) h2⟩
theorem Ats.flat : ∀ (fs : List Sh) {cs : List V} {us : List U}, Sh.flats fs = true → Ats H fs cs us → AtsF H' fs cs us []
 | [], _, _, _, h => by obtain ⟨rfl, rfl⟩ := aO.1 h; exact dC.2 ⟨rfl, rfl, rfl⟩
 | f :: fs, _, _, hf, h => by
  obtain ⟨c1, c2, u, us', h1, h2, h3, h4⟩ := ag.1 h
  simp only [Sh.flats, Bool.and_eq_true] at hf
  exact aC.2 ⟨c1, c2, u, us', [], [], h1, h2, rfl, At.flat f hf.1 h3, Ats.flat fs hf.2 h4⟩
end
end
theorem kT {cells : List V} {off n s i : Nat} (h : off + n * s ≤ cells.length) (hi : i < n) : ((((cells.drop off).take (n * s)).drop (i * s)).take s) = (cells.drop (off + i * s)).take s := by
 have h1 : i * s + s ≤ n * s := dY hi
 apply List.ext_getElem?
 intro j
 by_cases hj : j < s
 ·rw [List.getElem?_take_of_lt hj, List.getElem?_take_of_lt hj, List.getElem?_drop, List.getElem?_take_of_lt (by omega), List.getElem?_drop, List.getElem?_drop]
  congr 1
  omega
 ·rw [List.getElem?_eq_none (by simp; omega), List.getElem?_eq_none (by simp; omega)]
theorem rY {cs : List V} {n s : Nat} (hl : cs.length = n * s) (h : ∀ i, i < n → ((cs.drop (i * s)).take s).all aP = true) : cs.all aP = true := by
 rw [List.all_eq_true]
 intro x hx
 obtain ⟨j, hj, rfl⟩ := List.getElem_of_mem hx
 have hs : 0 < s := by
  rcases Nat.eq_zero_or_pos s with h0 | h0
  ·subst h0; simp at hl; simp [hl] at hj
  ·exact h0
 have hd : j / s < n := Nat.div_lt_of_lt_mul (by rw [Nat.mul_comm]; omega)
 have h1 := h (j / s) hd
 rw [List.all_eq_true] at h1
 refine h1 _ (List.mem_iff_getElem?.2 ⟨j % s, ?_⟩)
 rw [List.getElem?_take_of_lt (Nat.mod_lt _ hs), List.getElem?_drop, show j / s * s + j % s = j from Nat.div_add_mod' j s, List.getElem?_eq_getElem hj]
section
variable {α : Type} {H T : List Ob} {sh : Sh} {f : α → U} {v : V} {l : List α}
theorem ASl.cells (h : ASl H sh f v l) (hs : sh.size ≠ 0) : ∃ p cs, v = .slc p l.length ∧ (∀ T, bH (H ++ T) p (l.length * sh.size) = some cs) ∧ cs.length = l.length * sh.size ∧ cs.all aP = true ∧ (p = none → l = []) ∧
  (∀ i x, l[i]? = some x → At H sh ((cs.drop (i * sh.size)).take sh.size) (f x)) := by
 rcases h.sl with ⟨rfl, hl⟩ | ⟨id, off, own, cells, rfl, h2, h3, h4⟩
 ·have : l = [] := by simpa using hl
  subst this
  exact ⟨none, [], rfl, fun T => by simp [bH], by simp, rfl, fun _ => rfl, fun i x hx => by simp at hx⟩
 ·rw [List.length_map] at h3 ⊢
  have hch : ∀ i x, l[i]? = some x → At H sh ((((cells.drop off).take (l.length * sh.size)).drop (i * sh.size)).take sh.size) (f x) := fun i x hx => by
   rw [kT h3 (List.getElem?_eq_some_iff.1 hx).1]
   exact h4 i (f x) (by rw [List.getElem?_map, hx]; rfl)
  refine ⟨some (id, off), (cells.drop off).take (l.length * sh.size), rfl, fun T => ?_, by simp; omega, ?_, (fun h => by cases h), hch⟩
  ·by_cases h0 : l.length * sh.size = 0
   ·simp [bH, h0]
   ·simp only [bH, aS _ _ h2, if_neg h0]
    unfold eP
    rw [if_pos h3]
  ·exact rY (n := l.length) (s := sh.size) (by simp; omega) fun i hi => At.ones _ (hch i l[i] (List.getElem?_eq_getElem hi))
theorem gX {d : LD} {sz by_ : Nat} {z : List V} (h : ASl H sh f v l) (hf : sh.flat = true) (hs : sz = sh.size) (hz : z.length = sz) (h0 : 0 < sz) (hb0 : 0 < by_) (hb1 : by_ ≤ 1000000) (hb : l.length * by_ ≤ aK) :
  ∃ w T', bI ⟨d, sz, by_, z⟩ (H ++ [.mk true sz []]) (.slc (some (H.length, 0)) 0) v = some (w, H ++ T') ∧ New H.length (H ++ T').length (H ++ T') (.slice sh) [w] (.lst (l.map f)) := by
 obtain ⟨p, cs, rfl, hc, hl, ho, hp, hat⟩ := h.cells (by omega)
 have hbd := h.bound
 subst hs
 have hnew : aU ⟨d, sh.size, by_, z⟩ (H ++ [.mk true sh.size []]) (.slc p l.length) = some (cs, l.length) := by simp only [aU, hc]
 by_cases hm : l.length = 0
 ·have hl0 : l = [] := List.length_eq_zero_iff.1 hm
  subst hl0
  refine ⟨.slc (some (H.length, 0)) 0, [.mk true sh.size []], ?_, ⟨[H.length], aF.2 ⟨_, [], rfl, rfl, by simp, .inr ⟨H.length, 0, [], [], rfl, by simp, by simp, rfl, rfl, fun i x F hx => by simp at hx⟩⟩, by simp, by simp⟩⟩
  unfold bI
  rw [if_pos (by simp [gW, h0, hb0, hb1, hz]), hnew]
  simp
 ·have ha := gJ (n := 0) (cs := []) (id := H.length) hz h0 hb0 hb1 (G := H ++ [.mk true sh.size []]) (by simp) (by simp) hnew hm ho (by simpa using hb)
  rw [Nat.zero_add, List.nil_append] at ha
  refine ⟨.slc (some (H.length + 1, 0)) l.length, [.dead, .mk true sh.size cs], by rw [ha, List.set_append_right _ _ (Nat.le_refl _), List.append_assoc]; simp, ⟨[H.length + 1], ?_, by simp, by simp⟩⟩
  refine aF.2 ⟨.slc (some (H.length + 1, 0)) l.length, l.map f, rfl, rfl, by simpa using hbd, .inr ⟨H.length + 1, 0, cs, List.replicate l.length [], by simp, ?_, by simp; omega, by simp, by simp, fun i x F hx hF => ?_⟩⟩
  ·rw [List.getElem?_append_right (by omega)]; simp
  ·rw [List.getElem?_map] at hx
   obtain ⟨y, hy, rfl⟩ := Option.map_eq_some_iff.1 hx
   have hi : i < l.length := (List.getElem?_eq_some_iff.1 hy).1
   rw [List.getElem?_replicate, if_pos hi] at hF
   cases hF
   rw [Nat.zero_add]
   exact At.flat _ hf (hat i y hy)
end
theorem cZ (a : Str) : ¬ df a a := by
 induction a with
 | nil => simp [df, Op.bytesLess]
 | cons x xs ih => simpa [df, Op.bytesLess] using ih
noncomputable def wX (l : List Str) (x : Str) : List Str := l.takeWhile (fun y => dec (df (norm y) (norm x))) ++ x :: l.dropWhile (fun y => dec (df (norm y) (norm x)))
noncomputable def dw (l : List Str) : List Str := l.foldl wX []
def lC (l : List Str) : Prop := (∀ (i : Nat) x, l[i]? = some x → aN x ∧ ∀ j y, j < i → l[j]? = some y → norm y ≠ norm x) ∧ l.length ≤ 4
theorem OV (l : List Str) (x : Str) : (wX l x).Perm (x :: l) := by
 unfold wX
 have : l.takeWhile (fun y => dec (df (norm y) (norm x))) ++ l.dropWhile (fun y => dec (df (norm y) (norm x))) = l := List.takeWhile_append_dropWhile
 refine (List.perm_middle).trans ?_
 rw [this]
theorem jq : ∀ (l a : List Str), (l.foldl wX a).Perm (a ++ l)
 | [], a => by simp
 | x :: l, a => by
  have h1 := jq l (wX a x)
  simp only [List.foldl_cons]
  refine h1.trans ?_
  refine ((OV a x).append_right l).trans ?_
  simpa using (List.perm_middle (l₁ := a) (a := x) (l₂ := l)).symm
theorem mW (l : List Str) : (dw l).Perm l := by
 have := jq l []
 rwa [List.nil_append] at this
theorem jW (l : List Str) : (dw l).length = l.length := (mW l).length_eq
theorem O7 : dw [] = [] := rfl
noncomputable def bC (l : List PAttr) (n : Str) (vs : List Str) : List PAttr := l.filter (fun a => dec (df a.name n)) ++ (if vs = [] then [] else [⟨n, vs⟩]) ++ l.filter (fun a => dec (df n a.name))
noncomputable def xy (e : PEntry) (n : Str) (vs : List Str) : PEntry := ⟨e.dn, bC e.attrs n vs⟩
structure PEntryOut where
 entry : PEntry
 code : Int
def PEntryOut.u (o : PEntryOut) : U := .st [o.entry.u, .int o.code]
abbrev kR : Sh := .st [shEntry, .int .i64]
def lJ (c : Int) : PEntryOut := ⟨⟨[], []⟩, c⟩
noncomputable def jm (e : PEntry) (n : Str) (vs : List Str) : PEntryOut := if vs ≠ [] ∧ 8 ≤ e.attrs.length ∧ bT PAttr.name e.attrs n = none then lJ 9 else ⟨xy e n (dw vs), 0⟩
theorem fU {H : List Ob} {cs : List V} {o : PEntryOut} : At H kR cs o.u ↔ ∃ v1 v2, cs = [v1, v2, .int .i64 o.code] ∧ dK H v1 o.entry.dn ∧ bK H v2 o.entry.attrs ∧ (Lit.int .i64 o.code).wf = true := by
 constructor
 ·intro h
  obtain ⟨us, hu, h⟩ := bV.1 h
  cases hu
  obtain ⟨c1, c2, u1, us1, rfl, hu, h1, h⟩ := ag.1 h
  cases hu
  obtain ⟨c3, c4, u2, us2, rfl, hu, h2, h⟩ := ag.1 h
  cases hu
  obtain ⟨rfl, _⟩ := aO.1 h
  obtain ⟨v1, v2, rfl, a1, a2⟩ := iw.1 h1
  obtain ⟨n, rfl, hn, w⟩ := jK.1 h2
  cases hn
  exact ⟨v1, v2, rfl, a1, a2, w⟩
 ·rintro ⟨v1, v2, rfl, h1, h2, w⟩
  exact bV.2 ⟨_, rfl, ag.2 ⟨[v1, v2], _, _, _, rfl, rfl, iw.2 ⟨_, _, rfl, h1, h2⟩, ag.2 ⟨[_], _, _, _, rfl, rfl, jK.2 ⟨_, rfl, rfl, w⟩, aO.2 ⟨rfl, rfl⟩⟩⟩⟩
theorem UU {n : Int} (h1 : 0 ≤ n) (h2 : n ≤ 100) : (Lit.int .i64 n).wf = true := by
 have e1 : IntKind.i64.min = -9223372036854775808 := by decide
 have e2 : IntKind.i64.max = 9223372036854775807 := by decide
 simp [Lit.wf, e1, e2]
 omega
section
variable {α : Type} {H T : List Ob} {sh : Sh} {f : α → U} {v : V} {l : List α}
theorem ASl.sub (h : ASl H sh f v l) : (v = .slc none 0 ∧ l = []) ∨ ∃ id off own cells, v = .slc (some (id, off)) l.length ∧ H[id]? = some (.mk own sh.size cells) ∧ off + l.length * sh.size ≤ cells.length ∧
  ∀ lo hi, lo ≤ hi → hi ≤ l.length → ASl H sh f (.slc (some (id, off + lo * sh.size)) (hi - lo)) ((l.take hi).drop lo) := by
 have hb := h.bound
 rcases h.sl with ⟨rfl, hl⟩ | ⟨id, off, own, cells, rfl, h2, h3, h4⟩
 ·exact .inl ⟨rfl, by simpa using hl⟩
 ·rw [List.length_map] at h3 ⊢
  refine .inr ⟨id, off, own, cells, rfl, h2, h3, fun lo hi h5 h6 => ?_⟩
  have hlen : ((l.take hi).drop lo).length = hi - lo := by simp; omega
  have hm : lo * sh.size + (hi - lo) * sh.size ≤ l.length * sh.size := by rw [← Nat.add_mul]; exact Nat.mul_le_mul_right _ (by omega)
  refine aj.2 ⟨_, _, rfl, rfl, by simp; omega, .inr ⟨id, off + lo * sh.size, own, cells, by rw [List.length_map, hlen], h2, by rw [List.length_map, hlen]; omega, fun i x hx => ?_⟩⟩
  rw [List.getElem?_map, List.getElem?_drop] at hx
  have hi2 : lo + i < hi := by
   rcases Nat.lt_or_ge (lo + i) hi with hh | hh
   ·exact hh
   ·rw [List.getElem?_eq_none (by simp; omega)] at hx; cases hx
  rw [List.getElem?_take_of_lt hi2] at hx
  have := h4 (lo + i) x (by rw [List.getElem?_map]; exact hx)
  rw [Nat.add_mul] at this
  rwa [show off + lo * sh.size + i * sh.size = off + (lo * sh.size + i * sh.size) by omega]
end
theorem AY {α : Type} {p : α → Bool} : ∀ {l : List α} {k : Nat}, k ≤ l.length → (∀ j x, j < k → l[j]? = some x → p x = true) → (∀ x, l[k]? = some x → p x = false) → l.takeWhile p = l.take k ∧ l.dropWhile p = l.drop k
 | [], k, _, _, _ => by simp
 | x :: l, 0, _, _, h => by have := h x rfl; simp [this]
 | x :: l, k + 1, hk, h1, h2 => by
  have hx := h1 0 x (by omega) rfl
  have ih := AY (l := l) (k := k) (by simpa using hk) (fun j y hj hy => h1 (j + 1) y (by omega) (by simpa using hy)) (fun y hy => h2 y (by simpa using hy))
  simp [hx, ih.1, ih.2]
section
variable {H G : List Ob} {v : V} {cs : List V}
theorem Gs.low {B : List Ob} (h : Gs G B v cs) (hG : ∃ T, G = H ++ T) : Gs H B v cs := by
 obtain ⟨T, id, rfl, h1, h2, h3⟩ := h
 obtain ⟨S, rfl⟩ := hG
 exact ⟨S ++ T, id, by simp, by simp at h1; omega, h2, h3⟩
theorem Gs.grow (h : Gs H G v cs) (T : List Ob) : Gs H (G ++ T) v cs := by
 obtain ⟨S, id, rfl, h1, h2, h3⟩ := h
 exact ⟨S ++ T, id, by simp, h1, aS _ _ h2, h3⟩
theorem Gs.many (h : Gs H G v cs) {x : V} {xs : List V} {z : List V} {d : LD} {b : Nat} (hx : aU ⟨d, 1, b, z⟩ G x = some (xs, xs.length)) (ho : xs.all aP = true) (hb : (cs.length + xs.length) * b ≤ aK) (hb0 : 0 < b) (hb1 : b ≤ 1000000) (hz : z.length = 1) :
  ∃ v' G', bI ⟨d, 1, b, z⟩ G v x = some (v', G') ∧ Gs H G' v' (cs ++ xs) := by
 obtain ⟨T, id, rfl, h1, h2, rfl⟩ := h
 by_cases hm : xs.length = 0
 ·have hx0 : xs = [] := List.length_eq_zero_iff.1 hm
  subst hx0
  refine ⟨.slc (some (id, 0)) cs.length, H ++ T, ?_, ⟨T, id, rfl, h1, by simpa using h2, by simp⟩⟩
  unfold bI
  rw [if_pos (by simp [gW, hb0, hb1, hz]), hx]
  simp
 ·refine ⟨_, _, gJ (n := cs.length) hz (by decide) hb0 hb1 h2 (by simp) hx hm ho hb, ⟨T.set (id - H.length) .dead ++ [.mk true 1 (cs ++ xs)], (H ++ T).length, ?_, by simp, ?_, by simp⟩⟩
  ·rw [List.set_append_right _ _ h1, List.append_assoc]
  ·have hl : ((H ++ T).set id .dead).length = (H ++ T).length := List.length_set
   rw [← hl, get_last]
theorem Gs.new {l : List Str} (h : Gs H G v (l.map V.str)) (hl : l.length ≤ maxLen) (hs : ∀ s ∈ l, s.length ≤ maxLen) : New H.length G.length G (.slice .str) [v] (.lst (l.map jl)) := by
 obtain ⟨_, id, h1, h2⟩ := h.strs hl hs
 exact New.inG (e := id + 1) ⟨[id], h1, by simp, by simp; exact h2⟩
end
theorem AStrs.max {H : List Ob} {v : V} {l : List Str} (h : AStrs H v l) : ∀ s ∈ l, s.length ≤ maxLen := fun s hs => by
 obtain ⟨j, hj, rfl⟩ := List.getElem_of_mem hs
 obtain ⟨_, _, _, _, h⟩ := dB h (List.getElem?_eq_getElem hj)
 exact h
theorem OY {H : List Ob} {v : V} {xs : List Str} (h : AStrs H v xs) {i : Nat} {s : Str} (hx : xs[i]? = some s) : ∃ id o,
  (∀ (e s b : Nat) (z : List V) (ty : Nat → LT) (k : IntKind), (ty e).size = 1 → fQ ⟨.slice e, s, b, z⟩ ty (.val v) (.int k i) = some (.val (.ptr (some (id, o))))) ∧
  (∀ G : List Ob, (∃ T', G = H ++ T') → ∀ T : LT, T.one → ∀ r c, loadAt T ⟨r, c, G⟩ (.hp id o) = some (.str s)) ∧ s.length ≤ maxLen ∧ id < H.length := by
 obtain ⟨id, o, own, cells, e1, e2, e3, e4⟩ := ASl.idx h hx (by decide)
 obtain ⟨t, e4, ht, e5⟩ := bn.1 e4
 cases ht
 refine ⟨id, o, e1, ?_, e5, (List.getElem?_eq_some_iff.1 e2).1⟩
 rintro G ⟨T', rfl⟩
 exact aY (aS _ _ e2) (by simpa using aX e4 (j := 0) rfl)
theorem uH {H : List Ob} {v : V} {xs : List PAttr} (h : bK H v xs) {i : Nat} {x : PAttr} (hx : xs[i]? = some x) : ∃ id o w,
  (∀ (e s b : Nat) (z : List V) (ty : Nat → LT) (k : IntKind), (ty e).size = 2 → fQ ⟨.slice e, s, b, z⟩ ty (.val v) (.int k i) = some (.val (.ptr (some (id, o))))) ∧
  (∀ G : List Ob, (∃ T', G = H ++ T') → (∀ T : LT, T.one → ∀ r c, loadAt T ⟨r, c, G⟩ (.hp id o) = some (.str x.name)) ∧ (∀ T : LT, T.one → ∀ r c, loadAt T ⟨r, c, G⟩ (.hp id (o + 1)) = some w) ∧
   (∀ T : LT, T.many 2 → ∀ r c, loadAt T ⟨r, c, G⟩ (.hp id o) = some (.agg [.str x.name, w]))) ∧ AStrs H w x.vals ∧ x.name.length ≤ maxLen ∧ id < H.length ∧ At H shAttr [.str x.name, w] x.u := by
 obtain ⟨id, o, own, cells, e1, e2, e3, e4⟩ := ASl.idx h hx (by decide)
 have e6 := e4
 obtain ⟨w, e4, e7, e5⟩ := FV.1 e4
 rw [e4] at e6
 refine ⟨id, o, w, e1, ?_, e5, e7, (List.getElem?_eq_some_iff.1 e2).1, e6⟩
 rintro G ⟨T', rfl⟩
 have e2' := aS (T := T') _ _ e2
 exact ⟨aY e2' (by simpa using aX e4 (j := 0) rfl), aY e2' (by simpa using aX e4 (j := 1) rfl), nT e2' e3 (by decide) e4⟩
theorem Ig {n : Nat} {H A B : List Ob} (h : n ≤ H.length) : Keep n (H ++ A) (H ++ B) := fun id hid => by rw [List.getElem?_append_left (by omega), List.getElem?_append_left (by omega)]
def LstF {α : Type} (B G : List Ob) (sh : Sh) (f : α → U) (v : V) (l : List α) : Prop := (∃ T, G = B ++ T) ∧ ((v = .slc none 0 ∧ l = []) ∨ ∃ (id : Nat) (cs : List V) (Fs : List (List Nat)), B.length ≤ id ∧ G[id]? = some (.mk true sh.size cs) ∧ v = .slc (some (id, 0)) l.length ∧
 cs.length = l.length * sh.size ∧ Fs.length = l.length ∧ (∀ i x F, l[i]? = some x → Fs[i]? = some F → AtF G sh ((cs.drop (i * sh.size)).take sh.size) (f x) F) ∧ Fs.flatten.Nodup ∧ ∀ q ∈ Fs.flatten, B.length ≤ q ∧ q ≠ id ∧ q < G.length)
section
variable {α : Type} {B G T : List Ob} {sh : Sh} {f : α → U} {v : V} {l : List α}
theorem LstF.nil : LstF B B sh f (.slc none 0) [] := ⟨⟨[], by simp⟩, .inl ⟨rfl, rfl⟩⟩
theorem LstF.init : LstF B (B ++ [.mk true sh.size []]) sh f (.slc (some (B.length, 0)) 0) [] :=
 ⟨⟨_, rfl⟩, .inr ⟨B.length, [], [], Nat.le_refl _, by simp, rfl, by simp, rfl, fun i x F h => by simp at h, by simp, by simp⟩⟩
theorem LstF.pre (h : LstF B G sh f v l) : ∃ T, G = B ++ T := h.1
theorem LstF.ext (h : LstF B G sh f v l) : LstF B (G ++ T) sh f v l := by
 obtain ⟨⟨S, hS⟩, h⟩ := h
 refine ⟨⟨S ++ T, by rw [hS, List.append_assoc]⟩, ?_⟩
 rcases h with h | ⟨id, cs, Fs, h1, h2, h3, h4, h5, h6, h7, h8⟩
 ·exact .inl h
 ·exact .inr ⟨id, cs, Fs, h1, aS _ _ h2, h3, h4, h5, fun i x F hx hF => (h6 i x F hx hF).ext, h7, fun q hq => by have := h8 q hq; simp; omega⟩
theorem LstF.one (h : LstF B G sh f v l) : aP v = true ∧ cellsOf v = some [v] := by
 obtain ⟨_, ⟨rfl, _⟩ | ⟨id, cs, Fs, _, _, rfl, _⟩⟩ := h <;> exact ⟨rfl, rfl⟩
theorem LstF.len (h : LstF B G sh f v l) {e s b : Nat} {z : List V} : lenV ⟨.slice e, s, b, z⟩ v = some (.int .i64 l.length) := by
 obtain ⟨_, ⟨rfl, rfl⟩ | ⟨id, cs, Fs, _, _, rfl, _⟩⟩ := h <;> rfl
theorem LstF.new (h : LstF B G sh f v l) (hl : l.length ≤ maxLen) : New B.length G.length G (.slice sh) [v] (.lst (l.map f)) := by
 obtain ⟨_, ⟨rfl, rfl⟩ | ⟨id, cs, Fs, h1, h2, rfl, h4, h5, h6, h7, h8⟩⟩ := h
 ·exact New.nil
 ·refine ⟨id :: Fs.flatten, aF.2 ⟨_, _, rfl, rfl, by simpa using hl, .inr ⟨id, 0, cs, Fs, by simp, h2, by simp; omega, by simpa using h5, rfl, fun i x F hx hF => ?_⟩⟩, ?_, fun q hq => ?_⟩
  ·rw [List.getElem?_map] at hx
   obtain ⟨y, hy, rfl⟩ := Option.map_eq_some_iff.1 hx
   rw [Nat.zero_add]
   exact h6 i y F hy hF
  ·exact List.nodup_cons.2 ⟨fun hm => (h8 id hm).2.1 rfl, h7⟩
  ·rcases List.mem_cons.1 hq with rfl | hq
   ·exact ⟨h1, (List.getElem?_eq_some_iff.1 h2).1⟩
   ·have := h8 q hq; omega
theorem LstF.at (h : LstF B G sh f v l) (hl : l.length ≤ maxLen) : ASl G sh f v l := (h.new hl).at
theorem LstF.push {d : LD} {sz by_ e : Nat} {z : List V} (h : LstF B G sh f v l) {x : α} {c : List V} (hx : New G.length e (G ++ T) sh c (f x)) (hs : sz = sh.size) (hz : z.length = sz) (h0 : 0 < sz) (hb0 : 0 < by_) (hb1 : by_ ≤ 1000000) (hb : (l.length + 1) * by_ ≤ aK) :
  ∃ v' G', bI ⟨d, sz, by_, z⟩ (G ++ T ++ [.mk true sz c]) v (.slc (some ((G ++ T).length, 0)) 1) = some (v', G') ∧ LstF B G' sh f v' (l ++ [x]) ∧ c.length = sz ∧ c.all aP = true := by
 obtain ⟨S, hS⟩ := h.1
 obtain ⟨F, f1, f2, f3⟩ := hx
 have hat : At (G ++ T) sh c (f x) := AtF.at _ f1
 have hcl : c.length = sz := by rw [hs]; exact At.len _ hat
 have hco := At.ones _ hat
 subst hcl
 have hnew := qi (d := d) (by_ := by_) (z := z) (G := G ++ T) (es := c.length) h0
 have hFl : ∀ q ∈ F, q < (G ++ T).length := AtF.mem _ f1
 obtain ⟨_, ⟨rfl, rfl⟩ | ⟨id, cs, Fs, h1, h2, rfl, h4, h5, h6, h7, h8⟩⟩ := h
 ·refine ⟨_, _, og hz h0 hb0 hb1 hnew (by decide) hco (by simpa using hb), ⟨⟨_, by rw [hS, List.append_assoc, List.append_assoc, List.append_assoc]⟩, .inr ⟨_, c, [F], ?_, get_last.trans (by rw [hs]), by simp, by simp [hs], by simp, fun i y K hy hK => ?_, by simpa using f2, fun q hq => ?_⟩⟩, rfl, hco⟩
  ·simp [hS]
  ·have : i = 0 := by
    have := (List.getElem?_eq_some_iff.1 hy).1
    simp at this; omega
   subst this
   cases hy
   cases hK
   rw [Nat.zero_mul, List.drop_zero, List.take_of_length_le (by omega)]
   exact f1.ext.ext
  ·simp at hq
   have e1 := hFl q hq
   have e2 := f3 q hq
   simp at e1
   simp [hS] at e2 e1 ⊢
   omega
 ·have hid := (List.getElem?_eq_some_iff.1 h2).1
  have h2' : (G ++ T ++ [Ob.mk true c.length c])[id]? = some (.mk true c.length cs) := by rw [List.append_assoc, aS _ _ h2, hs]
  have hlen : (G ++ T ++ [Ob.mk true c.length c]).length = ((G ++ T ++ [Ob.mk true c.length c]).set id .dead).length := List.length_set.symm
  have hfr : ∀ q, q ≠ id → q < (G ++ T ++ [Ob.mk true c.length c]).length → ((G ++ T ++ [Ob.mk true c.length c]).set id .dead ++ [Ob.mk true c.length (cs ++ c)])[q]? = (G ++ T ++ [Ob.mk true c.length c])[q]? := fun q hq hql => by
   rw [List.getElem?_append_left (by rw [← hlen]; exact hql), List.getElem?_set_ne (fun e => hq e.symm)]
  refine ⟨_, _, gJ hz h0 hb0 hb1 h2' (by rw [h4, hs]) hnew (by decide) hco hb, ⟨?_, .inr ⟨(G ++ T ++ [Ob.mk true c.length c]).length, cs ++ c, Fs ++ [F], by simp [hS], ?_, by simp, by simp [h4, hs, Nat.add_mul], by simp [h5], fun i y K hy hK => ?_, ?_, ?_⟩⟩, rfl, hco⟩
  ·rw [hS, List.append_assoc, List.append_assoc, List.set_append_right _ _ h1, List.append_assoc]
   exact ⟨_, rfl⟩
  ·rw [hlen, get_last, hs]
  ·have key := Ia (n := l.length) (s := sh.size) (cs := cs) (c := c) (by rw [h4]) hs (P := fun i cc => ∀ y K, (l ++ [x])[i]? = some y → (Fs ++ [F])[i]? = some K → AtF ((G ++ T ++ [Ob.mk true c.length c]).set id .dead ++ [Ob.mk true c.length (cs ++ c)]) sh cc (f y) K) (fun i hi y K hy hK => by
     rw [List.getElem?_append_left hi] at hy
     rw [List.getElem?_append_left (by omega)] at hK
     refine AtF.frame _ (fun q hq => ?_) (((h6 i y K hy hK).ext (T := T)).ext (T := [Ob.mk true c.length c]))
     have h9 := h8 q (List.mem_flatten.2 ⟨K, List.mem_of_getElem? hK, hq⟩)
     exact hfr q h9.2.1 (by simp; omega)) (fun y K hy hK => by
     simp at hy
     subst hy
     rw [List.getElem?_append_right (by omega), h5, Nat.sub_self] at hK
     cases hK
     refine AtF.frame _ (fun q hq => ?_) (f1.ext (T := [Ob.mk true c.length c]))
     have e1 := hFl q hq
     have e2 := f3 q hq
     exact hfr q (by omega) (by simp at e1 ⊢; omega))
   have hi : i < l.length + 1 := by
    have := (List.getElem?_eq_some_iff.1 hy).1
    simpa using this
   exact key i hi y K hy hK
  ·rw [List.flatten_append, List.nodup_append]
   refine ⟨h7, by simpa using f2, fun a ha b hb hab => ?_⟩
   subst hab
   simp at hb
   have e1 := h8 a ha
   have e2 := f3 a hb
   omega
  ·intro q hq
   rw [List.flatten_append] at hq
   rcases List.mem_append.1 hq with hq | hq
   ·have := h8 q hq
    simp
    omega
   ·simp at hq
    have e1 := hFl q hq
    have e2 := f3 q hq
    simp [hS] at e1 e2 ⊢
    omega
end
theorem pq {sh0 : Sh} {c0 : List V} {u0 : U} {F : List Nat} {G G' : List Ob} {v v' : V} {m : Nat} (hx : AtF G sh0 c0 u0 F) (hw : ∀ q ∈ F, ∀ n, v ≠ .slc (some (q, 0)) n) (hv' : v' = .slc (some (G.length + 1, 0)) m)
  (hfr : ∀ q, q < G.length → (∀ n, v ≠ .slc (some (q, 0)) n) → G'[q]? = G[q]?) : AtF G' sh0 c0 u0 F ∧ ∀ q ∈ F, ∀ n, v' ≠ .slc (some (q, 0)) n := by
 have hl := AtF.mem _ hx
 refine ⟨AtF.frame _ (fun q hq => hfr q (hl q hq) (hw q hq)) hx, fun q hq n => ?_⟩
 rw [hv']
 have := hl q hq
 simp
 omega
theorem Lst.notlow {α : Type} {B G H : List Ob} {sh : Sh} {f : α → U} {v : V} {l : List α} (h : Lst B G sh f v l) (hv : v ≠ .slc none 0) (hB : H.length ≤ B.length) : ¬ eY H v := by
 obtain ⟨_, ⟨rfl, _⟩ | ⟨id, cs, h1, _, rfl, _⟩⟩ := h
 ·exact absurd rfl hv
 ·rintro ⟨own, es, cells, h⟩
  have := (List.getElem?_eq_some_iff.1 h).1
  omega
theorem kD {H G : List Ob} {r : V} (h : ¬ eY H r) : fB H G r = G := by
 unfold fB
 rw [if_neg fun h' => h h'.2]
structure PNode where
 op : Int
 attr : Str
 value : Str
 many : Int
def PNode.u (n : PNode) : U := .st [.int n.op, .str n.attr, .str n.value, .int n.many]
abbrev PNode.cs (n : PNode) : List V := [.int .i64 n.op, .str n.attr, .str n.value, .int .i64 n.many]
section
variable {H : List Ob} {v : V}
theorem ASl.drop {α : Type} {sh : Sh} {f : α → U} {l : List α} (h : ASl H sh f v l) {k : Nat} (hk : k ≤ l.length) (h0 : 0 < l.length) :
  ∃ id off own cells, v = .slc (some (id, off)) l.length ∧ H[id]? = some (.mk own sh.size cells) ∧ ASl H sh f (.slc (some (id, off + k * sh.size)) (l.length - k)) (l.drop k) := by
 have hb := h.bound
 rcases h.sl with ⟨rfl, h1⟩ | ⟨id, off, own, cells, rfl, h2, h3, h4⟩
 ·have : l = [] := by simpa using h1
  subst this
  simp at h0
 ·rw [List.length_map] at h3 ⊢
  refine ⟨id, off, own, cells, rfl, h2, ?_⟩
  refine aj.2 ⟨_, _, rfl, rfl, by simp; omega, .inr ⟨id, off + k * sh.size, own, cells, by simp, h2, ?_, fun i x hx => ?_⟩⟩
  ·rw [List.length_map, List.length_drop, Nat.add_assoc, ← Nat.add_mul]
   rw [show k + (l.length - k) = l.length by omega]
   exact h3
  ·have := h4 (k + i) x (by rw [List.getElem?_map] at hx ⊢; rw [List.getElem?_drop] at hx; exact hx)
   rw [Nat.add_assoc, ← Nat.add_mul]
   exact this
end
structure PPart where
 op : Int
 text : Str
 n : Int
def PPart.u (n : PPart) : U := .st [.int n.op, .str n.text, .int n.n]
abbrev PPart.cs (n : PPart) : List V := [.int .i64 n.op, .str n.text, .int .i64 n.n]
section
variable {H : List Ob} {v : V}
end
def PPart.many (p : PPart) : Nat := if p.op = 3 ∨ p.op = 4 ∨ p.op = 7 then 1 else if p.op = 5 ∨ p.op = 6 then 2 else 0
theorem Wv {n : Nat} (h : n ≤ 100000000) : (Lit.int .i64 (n : Int)).wf = true := by
 have e1 : IntKind.i64.min = -9223372036854775808 := by decide
 have e2 : IntKind.i64.max = 9223372036854775807 := by decide
 simp [Lit.wf, e1, e2]
 omega
structure PFlow where
 base : List PRdn
 filter : List PNode
 login : List PPart
 mail : List PPart
 phone : List PPart
 back : Bool
def PFlow.u (f : PFlow) : U := .st [.lst (f.base.map PRdn.u), .lst (f.filter.map PNode.u), .lst (f.login.map PPart.u), .lst (f.mail.map PPart.u), .lst (f.phone.map PPart.u), .bool f.back]
section
variable {H : List Ob}
end
abbrev iJ : Sh := .st [.int .i64, .str, .slice .str]
structure PMod where
 kind : Int
 attr : Str
 vals : List Str
def PMod.u (m : PMod) : U := .st [.int m.kind, .str m.attr, .lst (m.vals.map jl)]
abbrev lq (H : List Ob) (v : V) (l : List PMod) : Prop := ASl H iJ PMod.u v l
section
variable {H : List Ob} {v : V}
theorem Ku {cs : List V} {m : PMod} : At H iJ cs m.u ↔ ∃ w, cs = [.int .i64 m.kind, .str m.attr, w] ∧ (Lit.int .i64 m.kind).wf = true ∧ m.attr.length ≤ maxLen ∧ AStrs H w m.vals := by
 constructor
 ·intro h
  obtain ⟨us, hu, h⟩ := bV.1 h
  cases hu
  obtain ⟨c1, c2, u1, us1, rfl, hu, h1, h⟩ := ag.1 h
  cases hu
  obtain ⟨c3, c4, u2, us2, rfl, hu, h2, h⟩ := ag.1 h
  cases hu
  obtain ⟨c5, c6, u3, us3, rfl, hu, h3, h⟩ := ag.1 h
  cases hu
  obtain ⟨rfl, _⟩ := aO.1 h
  obtain ⟨s, rfl, hs, w1⟩ := jK.1 h1
  cases hs
  obtain ⟨s, rfl, hs, w2⟩ := bn.1 h2
  cases hs
  obtain ⟨w, _, rfl, _⟩ := aj.1 h3
  exact ⟨w, rfl, w1, w2, h3⟩
 ·rintro ⟨w, rfl, h1, h2, h3⟩
  exact bV.2 ⟨_, rfl, ag.2 ⟨[_], _, _, _, rfl, rfl, jK.2 ⟨_, rfl, rfl, h1⟩, ag.2 ⟨[_], _, _, _, rfl, rfl, bn.2 ⟨_, rfl, rfl, h2⟩, ag.2 ⟨[_], _, _, _, rfl, rfl, h3, aO.2 ⟨rfl, rfl⟩⟩⟩⟩⟩
theorem OI {cs : List V} {u : U} (h : At H iJ cs u) : ∃ m : PMod, u = m.u := by
 replace h := bV.1 h
 obtain ⟨us, rfl, h⟩ := h
 obtain ⟨c1, c2, u1, us1, rfl, rfl, h1, h⟩ := ag.1 h
 obtain ⟨c3, c4, u2, us2, rfl, rfl, h2, h⟩ := ag.1 h
 obtain ⟨c5, c6, u3, us3, rfl, rfl, h3, h⟩ := ag.1 h
 obtain ⟨rfl, rfl⟩ := aO.1 h
 obtain ⟨s1, rfl, rfl, w1⟩ := jK.1 h1
 obtain ⟨s2, rfl, rfl, w2⟩ := bn.1 h2
 obtain ⟨v', l', rfl, rfl, _⟩ := mJ h3
 exact ⟨⟨s1, s2, l'⟩, rfl⟩
theorem Jo {xs : List PMod} (h : lq H v xs) {i : Nat} {x : PMod} (hx : xs[i]? = some x) : ∃ id o w,
  (∀ (e s b : Nat) (z : List V) (ty : Nat → LT) (k : IntKind), (ty e).size = 3 → fQ ⟨.slice e, s, b, z⟩ ty (.val v) (.int k i) = some (.val (.ptr (some (id, o))))) ∧
  (∀ T' : List Ob, ∀ T : LT, T.one → ∀ r c, loadAt T ⟨r, c, H ++ T'⟩ (.hp id o) = some (.int .i64 x.kind) ∧ loadAt T ⟨r, c, H ++ T'⟩ (.hp id (o + 1)) = some (.str x.attr) ∧ loadAt T ⟨r, c, H ++ T'⟩ (.hp id (o + 2)) = some w) ∧
  (∀ T' : List Ob, ∀ T : LT, T.many 3 → ∀ r c, loadAt T ⟨r, c, H ++ T'⟩ (.hp id o) = some (.agg [.int .i64 x.kind, .str x.attr, w])) ∧ (Lit.int .i64 x.kind).wf = true ∧ x.attr.length ≤ maxLen ∧ AStrs H w x.vals := by
 obtain ⟨id, o, own, cells, e1, e2, e3, e4⟩ := ASl.idx h hx (by decide)
 obtain ⟨w, e4, e5, e6, e7⟩ := Ku.1 e4
 refine ⟨id, o, w, e1, fun T' T hT r c => ?_, fun T' => nT (aS _ _ e2) e3 (by decide) e4, e5, e6, e7⟩
 have e2' := aS (T := T') _ _ e2
 exact ⟨aY e2' (by simpa using aX e4 (j := 0) rfl) T hT r c, aY e2' (by simpa using aX e4 (j := 1) rfl) T hT r c, aY e2' (by simpa using aX e4 (j := 2) rfl) T hT r c⟩
end
end Go.Lite
end
