/- Part 14 of the proof of a law: the interpreter, its soundness, and what functions of the program compute over it. Conditions: none but those that each theorem names. -/
import Derived.Test.YtipjjjlomghdfaaGreatDoorU13
import Derived.Test.YtipjjjlomghdfaaGreatDoorU06
import Derived.Test.YtipjjjlomghdfaaGreatDoorU10
import Derived.Test.YtipjjjlomghdfaaGreatDoorU11
import Derived.Test.YtipjjjlomghdfaaGreatDoorU09
import Derived.Test.YtipjjjlomghdfaaGreatDoorU08

set_option linter.all false
set_option maxRecDepth 20000
set_option maxHeartbeats 40000000
section
namespace Go.Lite
open Go
def Chunks (s : Nat) (rows : List (List V)) : Prop := ∀ c ∈ rows, c.length = s ∧ c.all isOne = true
section
variable {s i n : Nat} {rows : List (List V)} {c : List V}
theorem Chunks.len (h : Chunks s rows) : rows.flatten.length = rows.length * s := by
 induction rows with
 | nil => simp
 | cons a l ih =>
  have h1 := (h a (by simp)).1
  have h2 := ih fun c hc => h c (by simp [hc])
  simp only [List.flatten_cons, List.length_append, List.length_cons, Nat.add_mul, h1, h2]
  omega
theorem Chunks.take (h : Chunks s rows) : Chunks s (rows.take i) := fun c hc => h c (List.mem_of_mem_take hc)
theorem Chunks.drop (h : Chunks s rows) : Chunks s (rows.drop i) := fun c hc => h c (List.mem_of_mem_drop hc)
theorem Chunks.set (h : Chunks s rows) (hc : c.length = s ∧ c.all isOne = true) : Chunks s (rows.set i c) := fun d hd => by
 rcases List.mem_or_eq_of_mem_set hd with hd | rfl
 ·exact h d hd
 ·exact hc
theorem Chunks.app {r2 : List (List V)} (h : Chunks s rows) (h2 : Chunks s r2) : Chunks s (rows ++ r2) := fun d hd => by
 rcases List.mem_append.1 hd with hd | hd
 ·exact h d hd
 ·exact h2 d hd
theorem Chunks.split (h : Chunks s rows) (hi : i ≤ rows.length) : rows.flatten.take (i * s) = (rows.take i).flatten ∧ rows.flatten.drop (i * s) = (rows.drop i).flatten := by
 have hl := (Chunks.take (i := i) h).len
 rw [List.length_take, Nat.min_eq_left hi] at hl
 have e : rows.flatten = (rows.take i).flatten ++ (rows.drop i).flatten := by rw [← List.flatten_append, List.take_append_drop]
 constructor
 ·rw [e, ← hl, List.take_left']; rfl
 ·rw [e, ← hl, List.drop_left']; rfl
theorem Chunks.at (h : Chunks s rows) (hc : rows[i]? = some c) : (rows.flatten.drop (i * s)).take s = c := by
 obtain ⟨hi, rfl⟩ := List.getElem?_eq_some_iff.1 hc
 rw [(h.split (by omega)).2, List.drop_eq_getElem_cons hi, List.flatten_cons, ← (h rows[i] (List.getElem_mem hi)).1, List.take_left']
 rfl
theorem Chunks.put (h : Chunks s rows) (hi : i < rows.length) (hc : c.length = s) : setRange rows.flatten (i * s) c = (rows.set i c).flatten := by
 unfold setRange
 rw [(h.split (by omega)).1, show i * s + c.length = (i + 1) * s by rw [hc, Nat.add_mul]; omega, (h.split (by omega)).2, List.set_eq_take_append_cons_drop, if_pos hi]
 simp
theorem Chunks.fill {r2 : List (List V)} (h : Chunks s rows) (h2 : Chunks s r2) (hi : i + r2.length = rows.length) : setRange rows.flatten (i * s) r2.flatten = (rows.take i ++ r2).flatten := by
 unfold setRange
 rw [(h.split (by omega)).1, h2.len, ← Nat.add_mul, hi, ← h.len, List.drop_length]
 simp
theorem chunks_of (hs : 0 < s) : ∀ (n : Nat) (cs : List V), cs.length = n * s → cs.all isOne = true → ∃ rows, Chunks s rows ∧ rows.length = n ∧ rows.flatten = cs
 | 0, cs, hl, _ => ⟨[], fun _ h => by simp at h, rfl, by simp at hl; simp [hl]⟩
 | n + 1, cs, hl, ho => by
  have hl' : (cs.drop s).length = n * s := by rw [List.length_drop, hl, Nat.add_mul]; omega
  have ho' : (cs.take s).all isOne = true ∧ (cs.drop s).all isOne = true := by
   rw [← Bool.and_eq_true, ← List.all_append, List.take_append_drop]; exact ho
  obtain ⟨rows, h1, h2, h3⟩ := chunks_of hs n (cs.drop s) hl' ho'.2
  refine ⟨cs.take s :: rows, fun c hc => ?_, by simp [h2], by rw [List.flatten_cons, h3, List.take_append_drop]⟩
  rcases List.mem_cons.1 hc with rfl | hc
  ·exact ⟨by rw [List.length_take, hl, Nat.add_mul]; omega, ho'.1⟩
  ·exact h1 c hc
theorem Chunks.zeros {z : List V} (hz : z.length = s ∧ z.all isOne = true) : Chunks s (List.replicate n z) := fun c hc => by
 rw [List.eq_of_mem_replicate hc]; exact hz
end
def renSO (τ : List (Nat × Nat)) (o : Oper) : Oper := match o.op with
 | .slice t x lo hi mx => { dst := o.dst, op := .slice (sub τ t) x lo hi mx, type := o.type, pos := o.pos, after := o.after, guard := o.guard }
 | _ => o
def renS (τ : List (Nat × Nat)) : Code → Code
 | .region id ops draw => .region id ⟨ops.toList.map (renSO τ)⟩ draw
 | .seq a b => .seq (renS τ a) (renS τ b)
 | .cond c a b => .cond c (renS τ a) (renS τ b)
 | .block id b => .block id (renS τ b)
 | .loop b => .loop (renS τ b)
 | c => c
def FirstIn {α : Type} (p : α → Bool) (l : List α) (r : Int) : Prop := (∃ (k : Nat) (x : α), l[k]? = some x ∧ p x = true ∧ (∀ (j : Nat) y, j < k → l[j]? = some y → p y = false) ∧ r = k) ∨ ((∀ (j : Nat) y, l[j]? = some y → p y = false) ∧ r = -1)
def LstP {α : Type} (B G : List Ob) (sh : Sh) (f : α → U) (id : Nat) (l : List α) (i : Nat) (cells : List V) : Prop :=
 (∃ T, G = B ++ T) ∧ B.length ≤ id ∧ G[id]? = some (.mk true sh.size cells) ∧ cells.length = l.length * sh.size ∧ cells.all isOne = true ∧
 (∃ Fs : List (List Nat), Fs.length = i ∧ (∀ k x F, l[k]? = some x → Fs[k]? = some F → AtF G sh ((cells.drop (k * sh.size)).take sh.size) (f x) F) ∧ Fs.flatten.Nodup ∧ ∀ q ∈ Fs.flatten, B.length ≤ q ∧ q ≠ id ∧ q < G.length) ∧
 ∀ k x, i ≤ k → l[k]? = some x → At B sh ((cells.drop (k * sh.size)).take sh.size) (f x)
section
variable {α : Type} {B G T : List Ob} {sh : Sh} {f : α → U} {v : V} {l : List α} {id i : Nat} {cells : List V}
theorem LstP.pre (h : LstP B G sh f id l i cells) : ∃ T, G = B ++ T := h.1
theorem LstP.ob (h : LstP B G sh f id l i cells) : G[id]? = some (.mk true sh.size cells) := h.2.2.1
theorem LstP.lenC (h : LstP B G sh f id l i cells) : cells.length = l.length * sh.size := h.2.2.2.1
theorem LstP.ge (h : LstP B G sh f id l i cells) : B.length ≤ id := h.2.1
theorem LstP.old (h : LstP B G sh f id l i cells) {x : α} (hx : l[i]? = some x) : At B sh ((cells.drop (i * sh.size)).take sh.size) (f x) := h.2.2.2.2.2.2 i x (Nat.le_refl _) hx
theorem LstP.ext (h : LstP B G sh f id l i cells) : LstP B (G ++ T) sh f id l i cells := by
 obtain ⟨⟨S, hS⟩, h1, h2, h3, h4, ⟨Fs, h5, h6, h7, h8⟩, h9⟩ := h
 exact ⟨⟨S ++ T, by rw [hS, List.append_assoc]⟩, h1, up_append _ _ h2, h3, h4, ⟨Fs, h5, fun k x F hx hF => (h6 k x F hx hF).ext, h7, fun q hq => by have := h8 q hq; simp; omega⟩, h9⟩
theorem LstP.fit (h : LstP B G sh f id l i cells) (hi : i < l.length) : i * sh.size + sh.size ≤ cells.length := by
 rw [h.lenC]
 have : (i + 1) * sh.size ≤ l.length * sh.size := Nat.mul_le_mul_right _ hi
 rw [Nat.add_mul, Nat.one_mul] at this
 exact this
theorem LstP.start {d : LD} {sz by_ : Nat} {z : List V} (h : ASl B sh f v l) (hs : sz = sh.size) (hz : z.length = sz) (h0 : 0 < sz) (hb0 : 0 < by_) (hb1 : by_ ≤ 1000000) (hb : l.length * by_ ≤ maxMade) :
  ∃ id G cells, appendV ⟨d, sz, by_, z⟩ (B ++ [.mk true sz []]) (.slc (some (B.length, 0)) 0) v = some (.slc (some (id, 0)) l.length, G) ∧ LstP B G sh f id l 0 cells := by
 obtain ⟨p, cs, rfl, hc, hl, ho, hp, hat⟩ := h.cells (by omega)
 subst hs
 have hnew : newCells ⟨d, sh.size, by_, z⟩ (B ++ [.mk true sh.size []]) (.slc p l.length) = some (cs, l.length) := by simp only [newCells, hc]
 by_cases hm : l.length = 0
 ·have hl0 : l = [] := List.length_eq_zero_iff.1 hm
  subst hl0
  refine ⟨B.length, _, [], ?_, ⟨⟨_, rfl⟩, Nat.le_refl _, get_last, by simp, by simp, ⟨[], rfl, fun k x F hx => by simp at hx, by simp, by simp⟩, fun k x _ hx => by simp at hx⟩⟩
  unfold appendV
  rw [if_pos (by simp [growOk, h0, hb0, hb1, hz]), hnew]
  simp
 ·have ha := appendV_row (n := 0) (cs := []) (id := B.length) hz h0 hb0 hb1 (G := B ++ [.mk true sh.size []]) (by simp) (by simp) hnew hm ho (by simpa using hb)
  rw [Nat.zero_add, List.nil_append] at ha
  refine ⟨_, _, cs, ha, ⟨⟨[.dead, .mk true sh.size cs], by rw [List.set_append_right _ _ (Nat.le_refl _), List.append_assoc]; simp⟩, by simp, ?_, hl, ho, ⟨[], rfl, fun k x F hx hF => by simp at hF, by simp, by simp⟩, fun k x _ hx => hat k x hx⟩⟩
  rw [List.getElem?_append_right (by simp)]
  simp
theorem LstP.step {e : Nat} {c : List V} {x : α} (h : LstP B G sh f id l i cells) (hx : l[i]? = some x) (hn : New G.length e (G ++ T) sh c (f x)) :
  LstP B ((G ++ T).set id (.mk true sh.size (setRange cells (i * sh.size) c))) sh f id l (i + 1) (setRange cells (i * sh.size) c) := by
 obtain ⟨⟨S, hS⟩, h1, h2, h3, h4, ⟨Fs, h5, h6, h7, h8⟩, h9⟩ := h
 obtain ⟨F, f1, f2, f3⟩ := hn
 have hat : At (G ++ T) sh c (f x) := AtF.at _ f1
 have hcl : c.length = sh.size := At.len _ hat
 have hco := At.ones _ hat
 have hi := (List.getElem?_eq_some_iff.1 hx).1
 have hfit : i * sh.size + c.length ≤ cells.length := by
  rw [h3, hcl]
  have : (i + 1) * sh.size ≤ l.length * sh.size := Nat.mul_le_mul_right _ hi
  rw [Nat.add_mul, Nat.one_mul] at this
  exact this
 have hid := (List.getElem?_eq_some_iff.1 h2).1
 have hFl : ∀ q ∈ F, q < (G ++ T).length := AtF.mem _ f1
 have hfr : ∀ q, q ≠ id → ((G ++ T).set id (.mk true sh.size (setRange cells (i * sh.size) c)))[q]? = (G ++ T)[q]? := fun q hq => List.getElem?_set_ne (fun e => hq e.symm)
 have hsame : ((setRange cells (i * sh.size) c).drop (i * sh.size)).take sh.size = c := by
  have := setRange_same (cells := cells) (c := c) (o := i * sh.size) hfit
  rwa [hcl] at this
 have hoth : ∀ k, k ≠ i → ((setRange cells (i * sh.size) c).drop (k * sh.size)).take sh.size = (cells.drop (k * sh.size)).take sh.size := fun k hk => by
  refine setRange_apart hfit ?_
  rw [hcl]
  rcases Nat.lt_or_gt_of_ne hk with hk | hk
  ·left
   have : (k + 1) * sh.size ≤ i * sh.size := Nat.mul_le_mul_right _ hk
   rw [Nat.add_mul, Nat.one_mul] at this
   exact this
  ·right
   have : (i + 1) * sh.size ≤ k * sh.size := Nat.mul_le_mul_right _ hk
   rw [Nat.add_mul, Nat.one_mul] at this
   exact this
 refine ⟨?_, h1, ?_, ?_, ?_, ⟨Fs ++ [F], by simp [h5], fun k y K hy hK => ?_, ?_, ?_⟩, fun k y hk hy => ?_⟩
 ·rw [hS, List.append_assoc, List.set_append_right _ _ h1]
  exact ⟨_, rfl⟩
 ·rw [List.getElem?_set_self (by simp; omega)]
 ·rw [setRange_len hfit, h3]
 ·rw [List.all_eq_true] at *
  intro w hw
  unfold setRange at hw
  rcases List.mem_append.1 hw with hw | hw
  ·rcases List.mem_append.1 hw with hw | hw
   ·exact h4 w (List.mem_of_mem_take hw)
   ·exact hco w hw
  ·exact h4 w (List.mem_of_mem_drop hw)
 ·by_cases hk : k = i
  ·subst hk
   rw [hx] at hy
   cases hy
   rw [List.getElem?_append_right (by omega), h5, Nat.sub_self] at hK
   cases hK
   rw [hsame]
   refine AtF.frame _ (fun q hq => hfr q ?_) f1
   have := f3 q hq
   omega
  ·have hki : k < i := by
    have := (List.getElem?_eq_some_iff.1 hK).1
    simp at this
    omega
   rw [List.getElem?_append_left (by omega)] at hK
   rw [hoth k hk]
   refine AtF.frame _ (fun q hq => hfr q ?_) ((h6 k y K hy hK).ext (T := T))
   exact (h8 q (List.mem_flatten.2 ⟨K, List.mem_of_getElem? hK, hq⟩)).2.1
 ·rw [List.flatten_append, List.nodup_append]
  refine ⟨h7, by simpa using f2, fun a ha b hb hab => ?_⟩
  subst hab
  simp at hb
  have e1 := h8 a ha
  have e2 := f3 a hb
  omega
 ·intro q hq
  rw [List.flatten_append] at hq
  rw [List.length_set]
  rcases List.mem_append.1 hq with hq | hq
  ·have := h8 q hq
   simp
   omega
  ·simp at hq
   have e1 := hFl q hq
   have e2 := f3 q hq
   subst hS
   simp at *
   omega
 ·rw [hoth k (by omega)]
  exact h9 k y (by omega) hy
theorem LstP.done (h : LstP B G sh f id l l.length cells) : LstF B G sh f (.slc (some (id, 0)) l.length) l := by
 obtain ⟨hS, h1, h2, h3, h4, ⟨Fs, h5, h6, h7, h8⟩, h9⟩ := h
 exact ⟨hS, .inr ⟨id, cells, Fs, h1, h2, rfl, h3, h5, h6, h7, h8⟩⟩
end
theorem New.tail {b e id off n : Nat} {G : List Ob} {sh : Sh} {u : U} {us : List U} (h : New b e G (.slice sh) [.slc (some (id, off)) n] (.lst (u :: us))) : New b e G (.slice sh) [.slc (some (id, off + sh.size)) us.length] (.lst us) := by
 obtain ⟨F, h1, h2, h3⟩ := h
 obtain ⟨v, l, hv, hl, hb, hs⟩ := AtF_slice.1 h1
 cases hv
 cases hl
 rcases hs with ⟨h0, _⟩ | ⟨id', off', cells, Ks, k4, k1, k2, k3, hF, k5⟩
 ·cases h0
 ·cases k4
  rcases Ks with _ | ⟨K, Ks⟩
  ·simp at k3
  ·subst hF
   have hsub : ∀ q ∈ id :: Ks.flatten, q ∈ id :: (K :: Ks).flatten := fun q hq => by
    rcases List.mem_cons.1 hq with rfl | hq
    ·simp
    ·exact List.mem_cons_of_mem _ (by rw [List.flatten_cons]; exact List.mem_append_right _ hq)
   refine ⟨id :: Ks.flatten, AtF_slice.2 ⟨_, us, rfl, rfl, by simp at hb; omega, .inr ⟨id, off + sh.size, cells, Ks, rfl, k1, ?_, by simpa using k3, rfl, fun i x F hx hF => ?_⟩⟩, ?_, fun q hq => h3 q (hsub q hq)⟩
   ·rw [List.length_cons, Nat.add_mul] at k2
    omega
   ·have := k5 (i + 1) x F (by simpa using hx) (by simpa using hF)
    rw [Nat.add_mul, Nat.one_mul, Nat.add_comm (i * _), ← Nat.add_assoc] at this
    exact this
   ·have h2' := List.nodup_cons.1 h2
    refine List.nodup_cons.2 ⟨fun hm => h2'.1 (by rw [List.flatten_cons]; exact List.mem_append_right _ hm), ?_⟩
    have := h2'.2
    rw [List.flatten_cons] at this
    exact (List.nodup_append.1 this).2.1
theorem nI {α : Type} {R : List V → α → List Nat → Prop} (q : α → Bool) (p : List V → Bool) : ∀ (l : List α) (rows : List (List V)) (Fs : List (List Nat)), rows.length = l.length → Fs.length = l.length →
  (∀ (i : Nat) x c F, l[i]? = some x → rows[i]? = some c → Fs[i]? = some F → R c x F ∧ p c = q x) →
  ∃ Fs' : List (List Nat), Fs'.length = (l.filter q).length ∧ (rows.filter p).length = (l.filter q).length ∧ Fs'.flatten.Sublist Fs.flatten ∧ ∀ (i : Nat) x c F, (l.filter q)[i]? = some x → (rows.filter p)[i]? = some c → Fs'[i]? = some F → R c x F
 | [], [], [], _, _, _ => ⟨[], rfl, rfl, List.Sublist.refl _, fun i x c F h => by simp at h⟩
 | x :: l, c :: rows, F :: Fs, h1, h2, h => by
  obtain ⟨Fs', k1, k2, k3, k4⟩ := nI q p l rows Fs (by simpa using h1) (by simpa using h2) fun i => h (i + 1)
  obtain ⟨h0, hp⟩ := h 0 x c F rfl rfl rfl
  by_cases hq : q x = true
  ·rw [hq] at hp
   refine ⟨F :: Fs', ?_, ?_, ?_, fun i y d K hy hd hK => ?_⟩
   ·rw [List.filter_cons_of_pos hq, List.length_cons, List.length_cons, k1]
   ·rw [List.filter_cons_of_pos hq, List.filter_cons_of_pos hp, List.length_cons, List.length_cons, k2]
   ·rw [List.flatten_cons, List.flatten_cons]; exact List.Sublist.append_left k3 F
   ·rw [List.filter_cons_of_pos hq] at hy
    rw [List.filter_cons_of_pos hp] at hd
    cases i with
    | zero =>
     simp at hy hd hK
     subst hy hd hK
     exact h0
    | succ i => exact k4 i y d K (by simpa using hy) (by simpa using hd) (by simpa using hK)
  ·have hp' : ¬ p c = true := by rw [hp]; exact hq
   refine ⟨Fs', ?_, ?_, ?_, fun i y d K hy hd hK => ?_⟩
   ·rw [List.filter_cons_of_neg hq, k1]
   ·rw [List.filter_cons_of_neg hq, List.filter_cons_of_neg hp', k2]
   ·rw [List.flatten_cons]; exact k3.trans (List.sublist_append_right _ _)
   ·rw [List.filter_cons_of_neg hq] at hy
    rw [List.filter_cons_of_neg hp'] at hd
    exact k4 i y d K hy hd hK
theorem kZ {cells r c : List V} {p s o : Nat} (hr : (cells.drop p).take s = r) (hp : p + s ≤ cells.length) (ho : o + c.length ≤ s) : setRange cells (p + o) c = setRange cells p (setRange r o c) := by
 subst hr
 unfold setRange
 have e : cells = cells.take p ++ ((cells.drop p).take s ++ cells.drop (p + s)) := by
  rw [← List.drop_drop, List.take_append_drop, List.take_append_drop]
 have l1 : (cells.take p).length = p := by simp; omega
 have l2 : ((cells.drop p).take s).length = s := by simp; omega
 generalize cells.take p = a at *
 generalize hr : (cells.drop p).take s = r at *
 generalize cells.drop (p + s) = b at *
 subst l1
 subst l2
 rw [e]
 have h3 : (List.take o r ++ c ++ List.drop (o + c.length) r).length = r.length := by simp; omega
 rw [List.take_append, List.take_of_length_le (l := a) (by omega), show a.length + o - a.length = o by omega, List.take_append_of_le_length (by omega)]
 rw [List.drop_append, List.drop_of_length_le (l := a) (by omega), List.nil_append, show a.length + o + c.length - a.length = o + c.length by omega, List.drop_append_of_le_length (by omega)]
 rw [h3, List.drop_append, List.drop_of_length_le (l := a) (by omega), List.nil_append, show a.length + r.length - a.length = r.length by omega, List.drop_left]
 simp
end Go.Lite
end
section
namespace Go.Proofs.Try1
open Go Go.Lite
def dX (l : List PChange) : Prop := l.length ≤ 1048576 ∧ ∀ x ∈ l, gu x.entry
def lD (l : List PRule) : Prop := l.length ≤ 1048576 ∧ ∀ x ∈ l, x.base.length ≤ 1048576 ∧ x.attrs.length ≤ 1048576
def ja (s : PServer) : Prop := lN s.tree ∧ lD s.acl ∧ dX s.list
theorem jr {H : List Ob} {b e : Nat} {w1 w2 : V} {x : PChange} (hn : (Lit.int .i64 x.number).wf = true) (hk : (Lit.int .i64 x.kind).wf = true) (hd : x.dn.length ≤ maxLen) (h : New b e H shEntry [w1, w2] x.entry.u) (hbe : b ≤ e) :
  New b e H shChange [.int .i64 x.number, .int .i64 x.kind, .str x.dn, w1, w2] x.u := by
 exact New.st (News.int hn (News.int hk (News.str hd (News.one h hbe))))
theorem zQ {H : List Ob} {vl : V} {l : List PChange} (h : AChanges H vl l) (hb : dX l) :
  ∃ T w, callW C 244 [vl] H = some (w, H ++ T) ∧ New H.length (H ++ T).length (H ++ T) (.slice shChange) [w] (.lst (l.map PChange.u)) := by
 suffices hs : Ret C 244 [vl] H fun q H' => ∃ T, H' = H ++ T ∧ New H.length (H ++ T).length (H ++ T) (.slice shChange) [q] (.lst (l.map PChange.u)) by
  obtain ⟨q, H', hc, T, rfl, hr⟩ := hs
  exact ⟨T, q, hc, hr⟩
 rw [Iu]
 have hbl := hb.1
 have hol := h.one
 obtain ⟨id, G0, cells0, a0, p0⟩ := LstP.start (d := .struct [(0, 2), (1, 2), (2, 9), (3, 155)]) (by_ := 80) (z := [.int .i64 0, .int .i64 0, .str [], .slc none 0, .slc none 0]) (sz := 5) h rfl rfl (by decide) (by decide) (by decide) (by unfold maxMade; omega)
 simp [qI, Tryz.f244, hol, elemT, fillL, zerosL, St.new, a0]
 refine WP_loop (fun k σ => ∃ (i : Nat) (r : Nat → R) (G : List Ob) (cells : List V), i + k = l.length ∧ σ = ⟨r, 0, G⟩ ∧ r 3 = .val (.slc (some (id, 0)) l.length) ∧ r 4 = .val (.int .i64 i) ∧ LstP H G shChange PChange.u id l i cells) ?_ l.length _ ⟨0, _, G0, cells0, by simp, rfl, by simp, by simp, p0⟩
 rintro k σ ⟨i, r, G, cells, hik, rfl, r3, r4, hG⟩
 obtain ⟨S, hS⟩ := hG.pre
 cases k with
 | zero =>
  have hi : i = l.length := by omega
  subst hi
  have n2 := hG.done.new h.bound
  obtain ⟨T', hg, hn⟩ := (show New H.length G.length (H ++ S) (.slice shChange) [.slc (some (id, 0)) l.length] (.lst (l.map PChange.u)) by rw [← hS]; exact n2).gc1
  rw [← hS] at hg
  simp [r3, r4, lenV, hg]
  simpa using hn
 | succ k =>
  have hi : i < l.length := by omega
  obtain ⟨x, hx⟩ : ∃ c, l[i]? = some c := ⟨l[i], by simp [hi]⟩
  have hw : IntKind.i64.wrap ((i : Int) + 1) = ((i : Int) + 1) := wrap_i64 (by omega) (by omega)
  have hfit := hG.fit hi
  obtain ⟨v1, v2, hrow, c1, c2, c3, b1, b2⟩ := change_at.1 (hG.old hx)
  have hs5 : shChange.size = 5 := rfl
  rw [hs5] at hrow hfit
  have hob := hG.ob
  rw [hs5] at hob
  have hen : (cells.drop (i * 5 + 3)).take 2 = [v1, v2] := by
   have := congrArg (fun q => (q.drop 3).take 2) hrow
   simpa [List.drop_take, List.take_take, List.drop_drop, Nat.add_comm] using this
  have ld := loadN (o := i * 5 + 3) (n := 2) hob (by omega) (by decide) hen
  obtain ⟨T2, y1, y2, d2, n2⟩ := zA (H := G) (by rw [hS]; exact b1.ext) (by rw [hS]; exact b2.ext) (hb.2 x (List.mem_of_getElem? hx))
  obtain ⟨_, _, hcy, e1, e2⟩ := entry_at.1 n2.at
  cases hcy
  have st := storeN (H := G ++ T2) (o := i * 5 + 3) (l := [y1, y2]) (up_append _ _ hob) (by simp; omega) (by simp) (by simp [e1.one, e2.one])
  rw [kZ hrow hfit (by simp)] at st
  rw [show setRange [.int .i64 x.number, .int .i64 x.kind, .str x.dn, v1, v2] 3 [y1, y2] = [.int .i64 x.number, .int .i64 x.kind, .str x.dn, y1, y2] from rfl] at st
  have hp := hG.step hx (jr c1 c2 c3 n2 (by simp))
  rw [hs5] at hp
  have o1 := b1.one
  have o2 := b2.one
  have p1 := e1.one
  have p2 := e2.one
  simp [r3, r4, hi, lenV, ld, d2, st, o1, o2, p1, p2, hw, elemT, -setRange]
  exact ⟨k, by omega, i + 1, by omega, _, _, ⟨rfl, rfl⟩, by simp [r3], by simp, _, hp⟩
theorem mf {H : List Ob} {b m e : Nat} {w1 w2 : V} {x : PRule} (hd : x.who.length ≤ maxLen) (hr : (Lit.int .i64 x.right).wf = true) (h1 : New b m H (.slice shRdn) [w1] (.lst (x.base.map PRdn.u))) (h2 : New m e H (.slice .str) [w2] (.lst (x.attrs.map strU))) (hbm : b ≤ m) (hme : m ≤ e) :
  New b e H shRule [.str x.who, w1, w2, .int .i64 x.right, .bool x.allow] x.u :=
 New.st (News.str hd (News.cons (m := m) (c1 := [w1]) h1 (News.cons (m := e) (c1 := [w2]) h2 (News.int hr (News.bool News.nil)) hme (Nat.le_refl _)) hbm hme))
theorem wz {H : List Ob} {vl : V} {l : List PRule} (h : ARules H vl l) (hb : lD l) :
  ∃ T w, callW C 161 [vl] H = some (w, H ++ T) ∧ New H.length (H ++ T).length (H ++ T) (.slice shRule) [w] (.lst (l.map PRule.u)) := by
 suffices hs : Ret C 161 [vl] H fun q H' => ∃ T, H' = H ++ T ∧ New H.length (H ++ T).length (H ++ T) (.slice shRule) [q] (.lst (l.map PRule.u)) by
  obtain ⟨q, H', hc, T, rfl, hr⟩ := hs
  exact ⟨T, q, hc, hr⟩
 rw [IJ]
 have hbl := hb.1
 have hol := h.one
 obtain ⟨id, G0, cells0, a0, p0⟩ := LstP.start (d := .struct [(0, 9), (1, 56), (2, 148), (3, 2), (4, 4)]) (by_ := 80) (z := [.str [], .slc none 0, .slc none 0, .int .i64 0, .bool false]) (sz := 5) h rfl rfl (by decide) (by decide) (by decide) (by unfold maxMade; omega)
 simp [uf, Tryz.f161, hol, elemT, fillL, zerosL, St.new, a0]
 refine WP_loop (fun k σ => ∃ (i n : Nat) (r : Nat → R) (G : List Ob) (cells : List V), i + k = l.length ∧ σ = ⟨r, n, G⟩ ∧ r 3 = .val (.slc (some (id, 0)) l.length) ∧ r 4 = .val (.int .i64 i) ∧ LstP H G shRule PRule.u id l i cells) ?_ l.length _ ⟨0, _, _, G0, cells0, by simp, rfl, by simp, by simp, p0⟩
 rintro k σ ⟨i, n, r, G, cells, hik, rfl, r3, r4, hG⟩
 obtain ⟨S, hS⟩ := hG.pre
 cases k with
 | zero =>
  have hi : i = l.length := by omega
  subst hi
  have n2 := hG.done.new h.bound
  obtain ⟨T', hg, hn⟩ := (show New H.length G.length (H ++ S) (.slice shRule) [.slc (some (id, 0)) l.length] (.lst (l.map PRule.u)) by rw [← hS]; exact n2).gc1
  rw [← hS] at hg
  simp [r3, r4, lenV, hg]
  simpa using hn
 | succ k =>
  have hi : i < l.length := by omega
  obtain ⟨x, hx⟩ : ∃ c, l[i]? = some c := ⟨l[i], by simp [hi]⟩
  have hw : IntKind.i64.wrap ((i : Int) + 1) = ((i : Int) + 1) := wrap_i64 (by omega) (by omega)
  have hfit := hG.fit hi
  obtain ⟨v1, v2, hrow, q1, a1, a2, q2⟩ := rule_at.1 (hG.old hx)
  have hs5 : shRule.size = 5 := rfl
  rw [hs5] at hrow hfit
  have hob := hG.ob
  rw [hs5] at hob
  have hid := (List.getElem?_eq_some_iff.1 hob).1
  have hen : ∀ j w, [.str x.who, v1, v2, .int .i64 x.right, .bool x.allow][j]? = some w → cells[i * 5 + j]? = some w := fun j w hw => cells_get hrow hw
  have ld1 := load1 (H := G ++ [.mk true 2 []]) (up_append _ _ hob) (hen 1 v1 rfl)
  obtain ⟨y1, T1, d1, n1⟩ := append_clone (H := G) (d := .struct [(0, 9), (1, 9)]) (by_ := 32) (z := [.str [], .str []]) (sz := 2) (by rw [hS]; exact a1.ext : ARdns G v1 x.base) rfl rfl rfl (by decide) (by decide) (by decide) (by have := (hb.2 x (List.mem_of_getElem? hx)).1; unfold maxMade; omega)
  have p1 := New.one1 n1
  have st1 := store1 (H := G ++ T1) (v := y1) (up_append _ _ hob) (o := i * 5 + 1) (by omega) p1.2 p1.1
  obtain ⟨cells', hcells'⟩ : ∃ c, c = cells.set (i * 5 + 1) y1 := ⟨_, rfl⟩
  rw [← hcells'] at st1
  obtain ⟨K, hK⟩ : ∃ K, K = (G ++ T1).set id (.mk true 5 cells') := ⟨_, rfl⟩
  rw [← hK] at st1
  have hKid : K[id]? = some (.mk true 5 cells') := by rw [hK]; exact List.getElem?_set_self (by simp; omega)
  have ld2 := load1 (H := K ++ [.mk true 1 []]) (up_append _ _ hKid) (o := i * 5 + 2) (v := v2) (by rw [hcells', List.getElem?_set_ne (by omega)]; exact hen 2 v2 rfl)
  have hKH : ∃ T, K = H ++ T := by rw [hK, hS, List.append_assoc, List.set_append_right _ _ hG.ge]; exact ⟨_, rfl⟩
  obtain ⟨TK, hTK⟩ := hKH
  obtain ⟨y2, T2, d2, n2⟩ := append_clone (H := K) (d := .str) (by_ := 16) (z := [.str []]) (sz := 1) (by rw [hTK]; exact a2.ext : AStrs K v2 x.attrs) rfl rfl rfl (by decide) (by decide) (by decide) (by have := (hb.2 x (List.mem_of_getElem? hx)).2; unfold maxMade; omega)
  have p2 := New.one1 n2
  have st2 := store1 (H := K ++ T2) (v := y2) (up_append _ _ hKid) (o := i * 5 + 2) (by rw [hcells', List.length_set]; omega) p2.2 p2.1
  have hKl : K.length = (G ++ T1).length := by rw [hK, List.length_set]
  have hfr : ∀ q, q ≠ id → q < (G ++ T1 ++ T2).length → (G ++ T1 ++ T2)[q]? = (K ++ T2)[q]? := fun q hq _ => by
   by_cases h1 : q < (G ++ T1).length
   ·rw [List.getElem?_append_left (l₁ := G ++ T1) h1, List.getElem?_append_left (l₁ := K) (by omega), hK, List.getElem?_set_ne (fun e => hq e.symm)]
   ·rw [List.getElem?_append_right (l₁ := G ++ T1) (by omega), List.getElem?_append_right (l₁ := K) (by omega), hKl]
  have hn : New G.length (G ++ T1 ++ T2).length (G ++ (T1 ++ T2)) shRule [.str x.who, y1, y2, .int .i64 x.right, .bool x.allow] x.u := by
   rw [← List.append_assoc]
   refine mf (m := (G ++ T1).length) q1 q2 n1.ext ?_ (by simp) (by simp)
   rw [← hKl]
   have n3 := n2.wide (e' := (G ++ T1 ++ T2).length) (Nat.le_refl _) (by simp only [List.length_append] at *; omega)
   exact n3.frame fun q h1 h2 => hfr q (by simp only [List.length_append] at *; omega) h2
  have hp := hG.step hx hn
  rw [hs5] at hp
  have hset : (K ++ T2).set id (.mk true 5 (cells'.set (i * 5 + 2) y2)) = (G ++ (T1 ++ T2)).set id (.mk true 5 (setRange cells (i * 5) [.str x.who, y1, y2, .int .i64 x.right, .bool x.allow])) := by
   have hc : cells'.set (i * 5 + 2) y2 = setRange cells (i * 5) [.str x.who, y1, y2, .int .i64 x.right, .bool x.allow] := by
    refine List.ext_getElem? fun j => ?_
    have hrl : (setRange cells (i * 5) [.str x.who, y1, y2, .int .i64 x.right, .bool x.allow]).length = cells.length := setRange_len (by simp; omega)
    by_cases hj : i * 5 ≤ j ∧ j < i * 5 + 5
    ·obtain ⟨t, rfl⟩ : ∃ t, j = i * 5 + t := ⟨j - i * 5, by omega⟩
     have hs := setRange_same (cells := cells) (c := [.str x.who, y1, y2, .int .i64 x.right, .bool x.allow]) (o := i * 5) (by simp; omega)
     have ht : t < 5 := by omega
     have hR : (setRange cells (i * 5) [.str x.who, y1, y2, .int .i64 x.right, .bool x.allow])[i * 5 + t]? = [.str x.who, y1, y2, .int .i64 x.right, .bool x.allow][t]? := by
      have hq := congrArg (fun q => q[t]?) hs
      rw [List.getElem?_take_of_lt (by simpa using ht), List.getElem?_drop] at hq
      exact hq
     rw [hR, hcells']
     rcases t with _ | _ | _ | _ | _ | t
     ·rw [List.getElem?_set_ne (by omega), List.getElem?_set_ne (by omega)]; exact hen 0 _ rfl
     ·rw [List.getElem?_set_ne (by omega), List.getElem?_set_self (by omega)]; rfl
     ·rw [List.getElem?_set_self (by rw [List.length_set]; omega)]; rfl
     ·rw [List.getElem?_set_ne (by omega), List.getElem?_set_ne (by omega)]; exact hen 3 _ rfl
     ·rw [List.getElem?_set_ne (by omega), List.getElem?_set_ne (by omega)]; exact hen 4 _ rfl
     ·omega
    ·rw [hcells', List.getElem?_set_ne (by omega), List.getElem?_set_ne (by omega)]
     unfold setRange
     rcases Nat.lt_or_ge j (i * 5) with h1 | h1
     ·rw [List.append_assoc, List.getElem?_append_left (by simp; omega), List.getElem?_take_of_lt h1]
     ·rw [List.getElem?_append_right (by simp; omega), List.getElem?_drop]
      congr 1
      simp
      omega
   rw [hc]
   refine List.ext_getElem? fun q => ?_
   by_cases hq : q = id
   ·subst hq
    rw [List.getElem?_set_self (by simp only [List.length_append] at *; omega), List.getElem?_set_self (by simp only [List.length_append] at *; omega)]
   ·rw [List.getElem?_set_ne (fun e => hq e.symm), List.getElem?_set_ne (fun e => hq e.symm)]
    by_cases hl : q < (G ++ T1 ++ T2).length
    ·rw [← List.append_assoc]; exact (hfr q hq hl).symm
    ·rw [List.getElem?_eq_none (by simp only [List.length_append] at *; omega), List.getElem?_eq_none (by simp only [List.length_append] at *; omega)]
  rw [← hset] at hp
  have o1 := a1.one
  have o2 := a2.one
  simp [r3, r4, hi, lenV, ld1, ld2, d1, d2, st1, st2, o1, o2, p1, p2, hw, elemT, fillL, zerosL, St.new, hid, -setRange]
  exact ⟨k, by omega, i + 1, by omega, _, _, _, ⟨rfl, rfl, rfl⟩, by simp [r3], by simp, _, hp⟩
end Go.Proofs.Try1
end
section
namespace Go.Proofs.Try1
open Go Go.Lite
attribute [-simp] WP_region WP_cond
attribute [local simp] WP_regionF WP_condF ThenW_some ThenW_none CondW_true CondW_false
attribute [local simp low] CondW_bool
theorem aO {c n : UInt8} (h : ¬ c = n) : ¬ ((c.toNat : Int) = (n.toNat : Int)) := fun e => h (UInt8.toNat_inj.1 (by omega))
theorem FO {t : Str} {i : Nat} {c : UInt8} {H : List Ob} (hc : t[i]? = some c) (hl : t.length ≤ 1000000) : callW C 321 [.str t, .int .i64 i] H = some (.bool (oddAt t i c), H) := by
 apply Ret.eq
 rw [Gg]
 obtain ⟨hi, hc'⟩ := List.getElem?_eq_some_iff.1 hc
 have hw : IntKind.i64.wrap ((t.length : Int) - 1) = (t.length : Int) - 1 := wrap_i64 (by omega) (by omega)
 by_cases h1 : c = 44
 ·subst h1; simp [ay, Tryz.f321, hi, hc', oddAt, oddC]
 by_cases h2 : c = 43
 ·subst h2; simp [ay, Tryz.f321, hi, hc', oddAt, oddC]
 by_cases h3 : c = 34
 ·subst h3; simp [ay, Tryz.f321, hi, hc', oddAt, oddC]
 by_cases h4 : c = 92
 ·subst h4; simp [ay, Tryz.f321, hi, hc', oddAt, oddC]
 by_cases h5 : c = 60
 ·subst h5; simp [ay, Tryz.f321, hi, hc', oddAt, oddC]
 by_cases h6 : c = 62
 ·subst h6; simp [ay, Tryz.f321, hi, hc', oddAt, oddC]
 by_cases h7 : c = 59
 ·subst h7; simp [ay, Tryz.f321, hi, hc', oddAt, oddC]
 by_cases h8 : c = 61
 ·subst h8; simp [ay, Tryz.f321, hi, hc', oddAt, oddC]
 have e1 := aO h1
 have e2 := aO h2
 have e3 := aO h3
 have e4 := aO h4
 have e5 := aO h5
 have e6 := aO h6
 have e7 := aO h7
 have e8 := aO h8
 simp at e1 e2 e3 e4 e5 e6 e7 e8
 have ho : oddC c = false := by simp [oddC, h1, h2, h3, h4, h5, h6, h7, h8]
 by_cases h9 : c = 35
 ·subst h9
  by_cases g : i = 0
  ·subst g
   simp [ay, Tryz.f321, hi, hc', oddAt, oddC]
  ·have g' : ¬ (i : Int) = 0 := by omega
   simp [ay, Tryz.f321, hi, hc', oddAt, oddC, g, g']
 have e9 := aO h9
 simp at e9
 by_cases h10 : c = 32
 ·subst h10
  by_cases g : i = 0
  ·subst g
   simp [ay, Tryz.f321, hi, hc', oddAt, oddC]
  ·have g' : ¬ (i : Int) = 0 := by omega
   by_cases g2 : i + 1 = t.length
   ·have g2' : IntKind.i64.wrap ((t.length : Int) - 1) = (i : Int) := by rw [hw]; omega
    simp [ay, Tryz.f321, hi, hc', oddAt, oddC, g, g', g2, g2']
   ·have g2' : ¬ (i : Int) = (t.length : Int) - 1 := by omega
    simp [ay, Tryz.f321, hi, hc', oddAt, oddC, g, g', g2, g2', hw]
 have e10 := aO h10
 simp at e10
 simp [ay, Tryz.f321, hi, hc', oddAt, ho, h9, h10, e1, e2, e3, e4, e5, e6, e7, e8, e9, e10]
theorem jX {t : Str} {i : Nat} {c : UInt8} (hc : t[i]? = some c) : escN t (i + 1) = if oddAt t i c = true then escN t i ++ [92] ++ [c] else escN t i ++ [c] := by
 show escN t i ++ escB t i = _
 rw [show escB t i = if oddAt t i c = true then [92, c] else [c] by unfold escB; rw [hc]]
 split <;> simp
theorem xR {t : Str} {H : List Ob} (hl : t.length ≤ 1000) : callW C 289 [.str t] H = some (.str (esc t), H) := by
 apply Ret.eq
 rw [JC]
 simp [uw, Tryz.f289, elemT, fillL, zerosL, St.new]
 refine WP_loop (fun k σ => ∃ (i : Nat) (r : Nat → R) (G : List Ob) (v : V), i + k = t.length ∧ σ = ⟨r, 0, G⟩ ∧ r 0 = .val (.str t) ∧ r 3 = .val v ∧ r 4 = .val (.int .i64 i) ∧ Bs H G v (escN t i)) ?_ t.length _ ⟨0, _, _, _, by simp, rfl, by simp, by simp, by simp, Bs.init⟩
 rintro k σ ⟨i, r, G, v, hik, rfl, r0, r3, r4, hB⟩
 have hbl := escN_len t i
 cases k with
 | zero =>
  have hi : i = t.length := by omega
  subst hi
  obtain ⟨TT, rfl⟩ := hB.ext
  obtain ⟨id, rfl, hst, hsl⟩ := hB.cut (n := (escN t t.length).length) (Nat.le_refl _)
  rw [List.take_length] at hsl
  simp [r0, r3, r4, hsl, hst, isByte, bys_mapM, esc]
 | succ k =>
  have hi : i < t.length := by omega
  obtain ⟨c, hc⟩ : ∃ c, t[i]? = some c := ⟨t[i], by simp [hi]⟩
  have hc' : t[i] = c := (List.getElem?_eq_some_iff.1 hc).2
  have hw : IntKind.i64.wrap ((i : Int) + 1) = ((i : Int) + 1) := wrap_i64 (by omega) (by omega)
  have c1 : callW C 321 [.str t, .int .i64 i] G = some (.bool (oddAt t i c), G) := FO hc (by omega)
  have hes := jX hc
  cases ho : oddAt t i c with
  | false =>
   rw [ho] at c1
   rw [ho, if_neg (by simp)] at hes
   obtain ⟨v', G', ha, hB'⟩ := hB.push (by omega) (c := c) (d := .int .u8) (z := [.int .u8 0]) rfl
   rw [← hes] at hB'
   simp [r0, r3, r4, hi, hc', c1, elemT, fillL, zerosL, St.new, badArg, ha, hw]
   exact ⟨k, by omega, i + 1, by omega, _, _, ⟨rfl, rfl⟩, by simp [r0], _, by simp, by simp, hB'⟩
  | true =>
   rw [ho] at c1
   rw [ho, if_pos rfl] at hes
   obtain ⟨v', G', ha, hB'⟩ := hB.push (by omega) (c := 92) (d := .int .u8) (z := [.int .u8 0]) rfl
   obtain ⟨v2, G2, ha2, hB2⟩ := hB'.push (by simp; omega) (c := c) (d := .int .u8) (z := [.int .u8 0]) rfl
   rw [← hes] at hB2
   simp at ha
   simp [r0, r3, r4, hi, hc', c1, elemT, fillL, zerosL, St.new, badArg, ha, ha2, hw]
   exact ⟨k, by omega, i + 1, by omega, _, _, ⟨rfl, rfl⟩, by simp [r0], _, by simp, by simp, hB2⟩
theorem jZ {dn : List PRdn} {i : Nat} {x : PRdn} (hx : dn[i]? = some x) : txtN dn (i + 1) = (if 0 < i then txtN dn i ++ [44] else txtN dn i) ++ x.attr ++ [61] ++ esc x.value := by
 show txtN dn i ++ txtB dn i = _
 rw [show txtB dn i = (if 0 < i then [44] else []) ++ x.attr ++ [61] ++ esc x.value by unfold txtB; rw [hx]]
 split <;> simp
theorem tu {H : List Ob} {v : V} {xs : List PRdn} (h : ARdns H v xs) {i : Nat} {x : PRdn} (hx : xs[i]? = some x) : ∃ id o, id < H.length ∧
  (∀ (e s b : Nat) (z : List V) (ty : Nat → LT) (k : IntKind), (ty e).size = 2 → indexR ⟨.slice e, s, b, z⟩ ty (.val v) (.int k i) = some (.val (.ptr (some (id, o))))) ∧
  (∀ T' : List Ob, ∀ T : LT, T.one → ∀ r c, loadAt T ⟨r, c, H ++ T'⟩ (.hp id o) = some (.str x.attr) ∧ loadAt T ⟨r, c, H ++ T'⟩ (.hp id (o + 1)) = some (.str x.value)) ∧
  (∀ T' : List Ob, ∀ T : LT, T.many 2 → ∀ r c, loadAt T ⟨r, c, H ++ T'⟩ (.hp id o) = some (.agg [.str x.attr, .str x.value])) := by
 obtain ⟨id, o, own, cells, e1, e2, e3, e4⟩ := ASl.idx h hx (by decide)
 obtain ⟨e4, e5, e6⟩ := rdn_at.1 e4
 refine ⟨id, o, (List.getElem?_eq_some_iff.1 e2).1, e1, fun T' T hT r c => ?_, fun T' => loadN (up_append _ _ e2) e3 (by decide) e4⟩
 have e2' := up_append (T := T') _ _ e2
 exact ⟨load1 e2' (by simpa using cells_get e4 (j := 0) rfl) T hT r c, load1 e2' (by simpa using cells_get e4 (j := 1) rfl) T hT r c⟩
theorem DN {H : List Ob} {v : V} {dn : List PRdn} (h : ARdns H v dn) (hd : DnOk dn) : callW C 224 [v] H = some (.str (txt dn), H) := by
 apply Ret.eq
 rw [EQ]
 have hb : dn.length ≤ 6 := hd.2
 simp [uy, Tryz.f224]
 refine WP_loop (fun k σ => ∃ (i : Nat) (r : Nat → R), i + k = dn.length ∧ σ = ⟨r, 0, H⟩ ∧ r 0 = .val v ∧ r 3 = .val (.str (txtN dn i)) ∧ r 4 = .val (.int .i64 i)) ?_ dn.length _ ⟨0, _, by simp, rfl, by simp, by simp [txtN], by simp⟩
 rintro k σ ⟨i, r, hik, rfl, r0, r3, r4⟩
 have hbl := txtN_len hd i
 cases k with
 | zero =>
  have hi : i = dn.length := by omega
  subst hi
  simp [r0, r3, r4, h.len, txt]
 | succ k =>
  have hi : i < dn.length := by omega
  obtain ⟨x, hx⟩ : ∃ c, dn[i]? = some c := ⟨dn[i], by simp [hi]⟩
  have hw : IntKind.i64.wrap ((i : Int) + 1) = ((i : Int) + 1) := wrap_i64 (by omega) (by omega)
  obtain ⟨id, o, hid, e1, ll, _⟩ := tu h hx
  have l0 : ∀ T : LT, T.one → ∀ r c, loadAt T ⟨r, c, H⟩ (.hp id o) = some (.str x.attr) := fun T hT r c => by have := (ll [] T hT r c).1; rwa [List.append_nil] at this
  have l1 : ∀ T : LT, T.one → ∀ r c, loadAt T ⟨r, c, H⟩ (.hp id (o + 1)) = some (.str x.value) := fun T hT r c => by have := (ll [] T hT r c).2; rwa [List.append_nil] at this
  have h1 := (hd.1 i x hx).1.2.1
  have h2 := (hd.1 i x hx).2.2.1
  have h3 := esc_len x.value
  have c1 := xR (t := x.value) (H := H) (by omega)
  have hts := jZ hx
  have hM : ∀ n, n ≤ 2000 → n ≤ maxStr := fun n h => by unfold maxStr; omega
  have m1 := hM ((txtN dn i).length + 1) (by omega)
  have m2 := hM ((txtN dn i).length + (x.attr.length + 1)) (by omega)
  have m3 := hM ((txtN dn i).length + x.attr.length) (by omega)
  have m4 := hM ((txtN dn i).length + 1 + x.attr.length) (by omega)
  have m5 := hM ((txtN dn i).length + (x.attr.length + 1) + 1) (by omega)
  have m6 := hM ((txtN dn i).length + x.attr.length + 1) (by omega)
  have m7 := hM ((txtN dn i).length + (x.attr.length + 1) + (esc x.value).length) (by omega)
  have m8 := hM ((txtN dn i).length + (x.attr.length + 1 + 1) + (esc x.value).length) (by omega)
  have m9 := hM ((txtN dn i).length + (x.attr.length + 1 + 1)) (by omega)
  by_cases g : 0 < i
  ·rw [if_pos g] at hts
   simp [r0, r3, r4, h.len, hi, g, hid, e1, l0, l1, c1, m1, m2, m3, m4, m5, m6, m7, m8, m9, hw, regionL_none, regionL_some, List.lookup]
   exact ⟨k, by omega, i + 1, by omega, by rw [hts]; simp, by omega⟩
  ·rw [if_neg g] at hts
   simp [r0, r3, r4, h.len, hi, g, hid, e1, l0, l1, c1, m1, m2, m3, m4, m5, m6, m7, m8, m9, hw, regionL_none, regionL_some, List.lookup]
   exact ⟨k, by omega, i + 1, by omega, by rw [hts]; simp, by omega⟩
theorem nZ : ∀ (t : Str) (k : Nat), (∀ j c, j < k → t[j]? = some c → c ≠ 61) → t[k]? = some 61 → splitEq t = some (t.take k, t.drop (k + 1))
 | [], k, _, h => by simp at h
 | c :: t, 0, _, h => by
  simp only [List.getElem?_cons_zero, Option.some.injEq] at h
  subst h
  simp [splitEq]
 | c :: t, k + 1, hn, h => by
  have h0 : c ≠ 61 := hn 0 c (by omega) rfl
  unfold splitEq
  rw [if_neg h0, nZ t k (fun j d hj hd => hn (j + 1) d (by omega) (by simpa using hd)) (by simpa using h)]
  rfl
theorem jb : ∀ (t : Str), (∀ c ∈ t, c ≠ 61) → splitEq t = none
 | [], _ => rfl
 | c :: t, h => by
  unfold splitEq
  rw [if_neg (h c (by simp)), jb t (fun d hd => h d (by simp [hd]))]
  rfl
theorem zi {t : Str} {i : Nat} {c : UInt8} (hc : t[i]? = some c) (h : c ≠ 92 ∨ t.length ≤ i + 1) : bare (t.drop i) = c :: bare (t.drop (i + 1)) := by
 obtain ⟨hi, rfl⟩ := List.getElem?_eq_some_iff.1 hc
 rw [List.drop_eq_getElem_cons hi]
 cases hd : t.drop (i + 1) with
 | nil => rfl
 | cons d w =>
  rcases h with h | h
  ·simp only [bare, if_neg h]
  ·have := congrArg List.length hd
   simp at this
   omega
theorem xe {t : Str} {i : Nat} {d : UInt8} (hc : t[i]? = some 92) (hd : t[i + 1]? = some d) : bare (t.drop i) = d :: bare (t.drop (i + 2)) := by
 obtain ⟨hi, h1⟩ := List.getElem?_eq_some_iff.1 hc
 obtain ⟨hi2, h2⟩ := List.getElem?_eq_some_iff.1 hd
 rw [List.drop_eq_getElem_cons hi, List.drop_eq_getElem_cons hi2, h1, h2]
 simp only [bare, if_true]
theorem Ih {t : Str} {H : List Ob} (hl : t.length ≤ 2000000) : callW C 189 [.str t] H = some (.agg [.str (rdnS t).attr, .str (rdnS t).value], H) := by
 apply Ret.eq
 rw [Ij]
 simp [uj, Tryz.f189, elemT, fillL, zerosL, St.new]
 refine WP_loop (fun k' σ => ∃ (k : Nat) (r : Nat → R), k + k' = t.length ∧ σ = ⟨r, 1, H⟩ ∧ r 0 = .val (.str t) ∧ r 2 = .box 0 [.str [], .str []] ∧ r 3 = .val (.int .i64 k) ∧ ∀ j c, j < k → t[j]? = some c → c ≠ 61) ?_ t.length _ ⟨0, _, by simp, rfl, by simp, by simp, by simp, by omega⟩
 rintro k' σ ⟨k, r, hk, rfl, r0, r2, r3, hno⟩
 cases k' with
 | zero =>
  have hkl : k = t.length := by omega
  subst hkl
  have e : rdnS t = ⟨[], []⟩ := by
   unfold rdnS
   rw [jb t fun c hc => by
    obtain ⟨j, hj, rfl⟩ := List.getElem_of_mem hc
    exact hno j _ hj (List.getElem?_eq_getElem hj)]
  rw [e]
  simp [r0, r2, r3, fillL, zerosL, St.new, buildV, structPlace, elemT]
 | succ k' =>
  have hi : k < t.length := by omega
  obtain ⟨c, hc⟩ : ∃ c, t[k]? = some c := ⟨t[k], by simp [hi]⟩
  have hc' : t[k] = c := (List.getElem?_eq_some_iff.1 hc).2
  have hw : IntKind.i64.wrap ((k : Int) + 1) = ((k : Int) + 1) := wrap_i64 (by omega) (by omega)
  by_cases g : c = 61
  ·subst g
   have e : rdnS t = ⟨t.take k, bare (t.drop (k + 1))⟩ := by unfold rdnS; rw [nZ t k hno hc]
   rw [e]
   have hne : ¬ (k : Int) = (t.length : Int) := by omega
   have hne' : ¬ k = t.length := by omega
   simp [r0, r2, r3, hi, hc', hw, hne, hne', elemT, fillL, zerosL, St.new]
   refine WP_loop (fun m σ => ∃ (i : Nat) (r' : Nat → R) (G : List Ob) (vb : V) (b : Str), i + m = t.length ∧ σ = ⟨r', 1, G⟩ ∧ r' 0 = .val (.str t) ∧ r' 2 = .box 0 [.str [], .str []] ∧ r' 3 = .val (.int .i64 k) ∧ r' 4 = .val vb ∧ r' 5 = .val (.int .i64 i) ∧ Bs H G vb b ∧ b ++ bare (t.drop i) = bare (t.drop (k + 1)) ∧ b.length ≤ i) ?_ (t.length - (k + 1)) _ ⟨k + 1, _, _, _, [], by omega, rfl, by simp [r0], by simp [r2], by simp [r3], by simp, by simp, Bs.init, by simp, by simp⟩
   rintro m σ ⟨i, r', G, vb, b, him, rfl, s0, s2, s3, s4, s5, hB, hbare, hbl⟩
   cases m with
   | zero =>
    obtain rfl : i = t.length := by omega
    rw [List.drop_length, show bare [] = [] from rfl, List.append_nil] at hbare
    obtain ⟨TT, rfl⟩ := hB.ext
    obtain ⟨id, rfl, hst, hsl⟩ := hB.cut (n := b.length) (Nat.le_refl _)
    rw [List.take_length] at hsl
    have hkl : k ≤ t.length := by omega
    rw [← hbare]
    have hgc : ∀ a b : Str, gcH H (H ++ TT) (.agg [.str a, .str b]) = H := fun a b => gcH_low (by simp [lowV, lowVs])
    simp [hgc, s0, s2, s3, s4, s5, hsl, hst, isByte, bys_mapM, hkl, fillL, zerosL, St.new, buildV, structPlace, elemT, setRange, regionL_none, regionL_some, List.lookup]
   | succ m =>
    have hi2 : i < t.length := by omega
    obtain ⟨cc, hcc⟩ : ∃ c, t[i]? = some c := ⟨t[i], by simp [hi2]⟩
    have hcc' : t[i] = cc := (List.getElem?_eq_some_iff.1 hcc).2
    have hw2 : IntKind.i64.wrap ((i : Int) + 1) = ((i : Int) + 1) := wrap_i64 (by omega) (by omega)
    by_cases g2 : cc = 92 ∧ i + 1 < t.length
    ·obtain ⟨g92, g3⟩ := g2
     subst g92
     obtain ⟨d, hd⟩ : ∃ c, t[i + 1]? = some c := ⟨t[i + 1], by simp [g3]⟩
     have hd' : t[i + 1] = d := (List.getElem?_eq_some_iff.1 hd).2
     have hw3 : IntKind.i64.wrap ((i : Int) + 1 + 1) = ((i : Int) + 1 + 1) := wrap_i64 (by omega) (by omega)
     have g3' : (i : Int) + 1 < (t.length : Int) := by omega
     obtain ⟨v', G', hp, hB'⟩ := hB.push (by omega) (c := d) (d := .int .u8) (z := [.int .u8 0]) rfl
     rw [xe hcc hd] at hbare
     have hi0 : (0 : Int) ≤ (i : Int) + 1 := by omega
     simp [s0, s2, s3, s4, s5, hi2, hcc', hd', g3, g3', hi0, hw2, hw3, elemT, fillL, zerosL, St.new, badArg, hp]
     exact ⟨m - 1, by omega, i + 2, by omega, _, _, ⟨rfl, rfl⟩, by simp [s0], by simp [s2], by simp [s3], _, by simp, by simp; omega, _, hB', by rw [List.append_assoc]; exact hbare, by simp; omega⟩
    ·have hone : cc ≠ 92 ∨ t.length ≤ i + 1 := by
      by_cases h92 : cc = 92
      ·exact .inr ((Nat.lt_or_ge (i + 1) t.length).elim (fun h => absurd ⟨h92, h⟩ g2) id)
      ·exact .inl h92
     obtain ⟨v', G', hp, hB'⟩ := hB.push (by omega) (c := cc) (d := .int .u8) (z := [.int .u8 0]) rfl
     rw [zi hcc hone] at hbare
     by_cases h92 : cc = 92
     ·have g3 : ¬ i + 1 < t.length := fun h => g2 ⟨h92, h⟩
      have g3' : ¬ (i : Int) + 1 < (t.length : Int) := by omega
      have e92 : (cc.toNat : Int) = 92 := by rw [h92]; rfl
      rw [e92] at hp
      simp [s0, s2, s3, s4, s5, hi2, hcc', e92, g3, g3', hw2, elemT, fillL, zerosL, St.new, badArg, hp]
      exact ⟨m, by omega, i + 1, by omega, _, _, ⟨rfl, rfl⟩, by simp [s0], by simp [s2], by simp [s3], _, by simp, by simp, _, hB', by rw [List.append_assoc]; exact hbare, by simp; omega⟩
     ·have e92 := aO h92
      simp at e92
      simp [s0, s2, s3, s4, s5, hi2, hcc', h92, e92, hw2, elemT, fillL, zerosL, St.new, badArg, hp]
      exact ⟨m, by omega, i + 1, by omega, _, _, ⟨rfl, rfl⟩, by simp [s0], by simp [s2], by simp [s3], _, by simp, by simp, _, hB', by rw [List.append_assoc]; exact hbare, by simp; omega⟩
  ·have g' := aO g
   simp at g'
   simp [r0, r2, r3, hi, hc', g, g', hw]
   exact ⟨k', by omega, k + 1, by omega, by omega, fun j c hj hcj => all_step (P := fun _ c => c ≠ 61) (fun j hj c hc => hno j c hj hc) hc g j hj c hcj⟩
theorem nS {t : Str} {c : UInt8} {H : List Ob} : callW C 331 [.str t, .int .u8 c.toNat] H = some (.int .i64 (Lib.indexByte t c), H) := by
 have p : callW C 361 [.str t, .int .u8 c.toNat] H = some (.int .i64 (Lib.indexByte t c), H) := by
  rw [callW_prim (pr := idxPrim) rfl]
  simp [idxPrim]
 have q : callW C 352 [.str t, .int .u8 c.toNat] H = some (.int .i64 (Lib.indexByte t c), H) := by
  apply Ret.eq
  rw [F7]
  simp [uG, Tryz.f352, p]
 apply Ret.eq
 rw [IP]
 simp [sQ, Tryz.f331, q]
abbrev AY : Str := [44, 43, 34, 92, 60, 62, 59, 61]
theorem uP {c : UInt8} : 0 ≤ Lib.indexByte AY c ↔ oddC c = true := by
 rw [indexByte_nn]
 simp [oddC, AY, or_assoc]
theorem oZ {t : Str} {i : Nat} {c : UInt8} {H : List Ob} (hc : t[i]? = some c) (hl : t.length ≤ 1000000) : callW C 303 [.str t, .int .i64 i] H = some (.bool (oddAt t i c), H) := by
 apply Ret.eq
 rw [Gf]
 obtain ⟨hi, hc'⟩ := List.getElem?_eq_some_iff.1 hc
 have hw : IntKind.i64.wrap ((t.length : Int) - 1) = (t.length : Int) - 1 := wrap_i64 (by omega) (by omega)
 have c1 := nS (t := AY) (c := c) (H := H)
 by_cases ho : oddC c = true
 ·have h0 := uP.2 ho
  simp [bK, Tryz.f303, hi, hc', c1, h0, oddAt, ho]
 have h0 : ¬ 0 ≤ Lib.indexByte AY c := fun h => ho (uP.1 h)
 have ho' : oddC c = false := by simpa using ho
 by_cases h9 : c = 35
 ·have e9 : (c.toNat : Int) = 35 := by rw [h9]; rfl
  rw [e9] at c1
  by_cases g : i = 0
  ·have ha : oddAt t i c = true := by simp [oddAt, h9, g]
   have g' : (i : Int) = 0 := by omega
   subst g
   simp [bK, Tryz.f303, hi, hc', e9, c1, h0, ha]
  ·have g' : ¬ (i : Int) = 0 := by omega
   have ha : oddAt t i c = false := by simp [oddAt, oddC, h9, g]
   simp [bK, Tryz.f303, hi, hc', e9, c1, h0, ha, g, g']
 have e9 := aO h9
 simp at e9
 by_cases h10 : c = 32
 ·have e10 : (c.toNat : Int) = 32 := by rw [h10]; rfl
  rw [e10] at c1
  by_cases g : i = 0
  ·have ha : oddAt t i c = true := by simp [oddAt, h10, g]
   subst g
   simp [bK, Tryz.f303, hi, hc', e10, c1, h0, ha]
  ·have g' : ¬ (i : Int) = 0 := by omega
   by_cases g2 : i + 1 = t.length
   ·have g2' : IntKind.i64.wrap ((t.length : Int) - 1) = (i : Int) := by rw [hw]; omega
    have ha : oddAt t i c = true := by simp [oddAt, h10, g2]
    simp [bK, Tryz.f303, hi, hc', e10, c1, h0, ha, g, g', g2']
   ·have g2' : ¬ (i : Int) = (t.length : Int) - 1 := by omega
    have ha : oddAt t i c = false := by simp [oddAt, oddC, h10, g, g2]
    simp [bK, Tryz.f303, hi, hc', e10, c1, h0, ha, g, g', g2', hw]
 have e10 := aO h10
 simp at e10
 simp [bK, Tryz.f303, hi, hc', c1, h0, oddAt, ho', h9, h10, e9, e10]
theorem zC {H G : List Ob} {v : V} {b t : Str} (h : Bs H G v b) (hb : b.length + t.length ≤ 1000000000) {z : List V} {d : LD} (hz : z.length = 1) : ∃ v' G', appendV ⟨d, 1, 1, z⟩ G v (.str t) = some (v', G') ∧ Bs H G' v' (b ++ t) := by
 obtain ⟨T, id, h0, h1, h2, h3⟩ := h
 have hg : Gs H G v (bys b) := ⟨T, id, h0, h1, h2, by rw [h3, bys_len]⟩
 have hn : newCells ⟨d, 1, 1, z⟩ G (.str t) = some (bys t, (bys t).length) := by simp [newCells, bys]
 obtain ⟨v', G', ha, T', id', e0, e1, e2, e3⟩ := hg.many hn (by simp [bys]) (by simp [bys_len]; unfold maxMade; omega) (by decide) (by decide) hz
 exact ⟨v', G', ha, T', id', e0, e1, by rw [bys_append]; exact e2, by rw [e3]; simp [bys_len]⟩
theorem xZ {H : List Ob} {v : V} {dn : List PRdn} (h : ARdns H v dn) (hd : DnOk dn) : callW C 239 [v] H = some (.str (txt dn), H) := by
 apply Ret.eq
 rw [ED]
 have hb : dn.length ≤ 6 := hd.2
 simp [uQ, Tryz.f239, elemT, fillL, zerosL, St.new, h.len]
 refine WP_loop (fun k σ => ∃ (i : Nat) (r : Nat → R) (c : Nat) (G : List Ob) (vb : V), i + k = dn.length ∧ σ = ⟨r, c, G⟩ ∧ r 0 = .val v ∧ r 3 = .val vb ∧ r 8 = .val v ∧ r 9 = .val (.int .i64 dn.length) ∧ r 10 = .val (.int .i64 i) ∧ Bs H G vb (txtN dn i)) ?_ dn.length _ ⟨0, _, 0, _, _, by simp, rfl, by simp, by simp, by simp, by simp, by simp, Bs.init⟩
 rintro k σ ⟨i, r, c, G, vb, hik, rfl, r0, r3, r8, r9, r10, hB⟩
 have hbl := txtN_len hd i
 cases k with
 | zero =>
  have hi : i = dn.length := by omega
  subst hi
  obtain ⟨TT, rfl⟩ := hB.ext
  obtain ⟨id, rfl, hst, hsl⟩ := hB.cut (n := (txtN dn dn.length).length) (Nat.le_refl _)
  rw [List.take_length] at hsl
  simp [r0, r3, r8, r9, r10, hsl, hst, isByte, bys_mapM, txt]
 | succ k =>
  have hi : i < dn.length := by omega
  obtain ⟨x, hx⟩ : ∃ c, dn[i]? = some c := ⟨dn[i], by simp [hi]⟩
  have hw : IntKind.i64.wrap ((i : Int) + 1) = ((i : Int) + 1) := wrap_i64 (by omega) (by omega)
  obtain ⟨id, o, hid, e1, _, lm⟩ := tu h hx
  obtain ⟨TT, hG⟩ := hB.ext
  have lm0 := lm
  have lm := lm TT
  rw [← hG] at lm
  have q1 := (hd.1 i x hx).1.2.1
  have q2 := (hd.1 i x hx).2.2.1
  have hts := jZ hx
  obtain ⟨v1, G1, hB1, hcase⟩ : ∃ v1 G1, Bs H G1 v1 (if 0 < i then txtN dn i ++ [44] else txtN dn i) ∧ ((0 < i ∧ appendV ⟨.int .u8, 1, 1, [.int .u8 0]⟩ (G ++ [.mk true 1 [.int .u8 44]]) vb (.slc (some (G.length, 0)) 1) = some (v1, G1)) ∨ (¬ 0 < i ∧ (vb = v1 ∧ G = G1))) := by
   by_cases g : 0 < i
   ·obtain ⟨v', G', ha, hB'⟩ := hB.push (by omega) (c := 44) (d := .int .u8) (z := [.int .u8 0]) rfl
    rw [if_pos g]
    exact ⟨v', G', hB', .inl ⟨g, ha⟩⟩
   ·rw [if_neg g]
    exact ⟨vb, G, hB, .inr ⟨g, rfl, rfl⟩⟩
  have hl1 : (if 0 < i then txtN dn i ++ [44] else txtN dn i).length ≤ 102 * i + 1 := by
   split
   ·simp; omega
   ·omega
  generalize (if 0 < i then txtN dn i ++ [44] else txtN dn i) = b1 at hts hB1 hl1
  obtain ⟨T1, hG1⟩ := hB1.ext
  have lm1 := lm0 T1
  rw [← hG1] at lm1
  obtain ⟨v2, G2, ha2, hB2⟩ := zC (t := x.attr) hB1 (by omega) (d := .int .u8) (z := [.int .u8 0]) rfl
  obtain ⟨v3, G3, ha3, hB3⟩ := hB2.push (by simp; omega) (c := 61) (d := .int .u8) (z := [.int .u8 0]) rfl
  simp at ha3
  have hts' : txtN dn (i + 1) = b1 ++ x.attr ++ [61] ++ esc x.value := hts
  have hl3 : (b1 ++ x.attr ++ [61]).length ≤ 102 * i + 100 := by simp; omega
  generalize b1 ++ x.attr ++ [61] = b3 at hts' hB3 hl3
  rcases hcase with ⟨g, ha1⟩ | ⟨g, ha1⟩ <;> (
   simp [r0, r3, r8, r9, r10, hi, e1, lm, lm1, g, ha1, ha2, ha3, elemT, fillL, zerosL, St.new, badArg]
   refine WP_loop (fun m σ => ∃ (j : Nat) (r' : Nat → R) (G' : List Ob) (v' : V), j + m = x.value.length ∧ σ = ⟨r', c + 1, G'⟩ ∧ r' 0 = .val v ∧ r' 3 = .val v' ∧ r' 5 = .box c [.str x.attr, .str x.value] ∧ r' 8 = .val v ∧ r' 9 = .val (.int .i64 dn.length) ∧ r' 10 = .val (.int .i64 i) ∧ r' 28 = .val (.int .i64 x.value.length) ∧ r' 29 = .val (.int .i64 j) ∧ Bs H G' v' (b3 ++ escN x.value j)) ?_ x.value.length _ ⟨0, _, G3, v3, by simp, rfl, by simp [r0], by simp, by simp, by simp [r8], by simp [r9], by simp [r10], by simp, by simp, by simpa [escN] using hB3⟩
   rintro m σ ⟨j, r', G', v', hjm, rfl, s0, s3, s5, s8, s9, s10, s28, s29, hB4⟩
   have hbl2 := escN_len x.value j
   cases m with
   | zero =>
    have hj : j = x.value.length := by omega
    subst hj
    rw [show escN x.value x.value.length = esc x.value from rfl, ← hts'] at hB4
    simp [s0, s3, s5, s8, s9, s10, s28, s29, hw]
    exact ⟨k, by omega, i + 1, by omega, _, _, _, ⟨rfl, rfl, rfl⟩, by simp [s0], _, by simp [s3], by simp [s8], by simp [s9], by simp, hB4⟩
   | succ m =>
    have hj : j < x.value.length := by omega
    obtain ⟨cc, hcc⟩ : ∃ c, x.value[j]? = some c := ⟨x.value[j], by simp [hj]⟩
    have hcc' : x.value[j] = cc := (List.getElem?_eq_some_iff.1 hcc).2
    have hwj : IntKind.i64.wrap ((j : Int) + 1) = ((j : Int) + 1) := wrap_i64 (by omega) (by omega)
    have c1 : callW C 303 [.str x.value, .int .i64 j] G' = some (.bool (oddAt x.value j cc), G') := oZ hcc (by omega)
    have hes := jX hcc
    have hlb : (b3 ++ escN x.value j).length ≤ 1000 := by simp; omega
    cases ho : oddAt x.value j cc with
    | false =>
     rw [ho] at c1
     rw [ho, if_neg (by simp)] at hes
     obtain ⟨v5, G5, hb1, hB5⟩ := hB4.push (by omega) (c := cc) (d := .int .u8) (z := [.int .u8 0]) rfl
     rw [List.append_assoc, ← hes] at hB5
     simp [s0, s3, s5, s8, s9, s10, s28, s29, hj, hcc', c1, elemT, fillL, zerosL, St.new, badArg, hb1, hwj]
     exact ⟨m, by omega, j + 1, by omega, _, _, ⟨rfl, rfl⟩, by simp [s0], _, by simp, by simp [s5], by simp [s8], by simp [s9], by simp [s10], by simp [s28], by simp, hB5⟩
    | true =>
     rw [ho] at c1
     rw [ho, if_pos rfl] at hes
     obtain ⟨v5, G5, hb1, hB5⟩ := hB4.push (by omega) (c := 92) (d := .int .u8) (z := [.int .u8 0]) rfl
     obtain ⟨v6, G6, hb2, hB6⟩ := hB5.push (by rw [List.length_append]; simp only [List.length_cons, List.length_nil]; omega) (c := cc) (d := .int .u8) (z := [.int .u8 0]) rfl
     rw [List.append_assoc, List.append_assoc, ← List.append_assoc (escN x.value j), ← hes] at hB6
     simp at hb1
     simp [s0, s3, s5, s8, s9, s10, s28, s29, hj, hcc', c1, elemT, fillL, zerosL, St.new, badArg, hb1, hb2, hwj]
     exact ⟨m, by omega, j + 1, by omega, _, _, ⟨rfl, rfl⟩, by simp [s0], _, by simp, by simp [s5], by simp [s8], by simp [s9], by simp [s10], by simp [s28], by simp, hB6⟩)
def Two (v w : V) : Prop := ∀ q o n o' n', v = .slc (some (q, o)) n → w ≠ .slc (some (q, o')) n'
theorem mQ {H G G' S : List Ob} {v w v' y : V} {ds cs' : List V} {L : LT} (h2 : Gs H G w ds) (hne : Two v w) (ha : appendV L (G ++ S) v y = some (v', G')) (h1' : Gs H G' v' cs') : Gs H G' w ds ∧ Two v' w := by
 obtain ⟨T, id, hG, hle, hg, hw⟩ := h2
 obtain ⟨f1, f2, f3⟩ := appendV_frame ha
 have hid : id < G.length := (List.getElem?_eq_some_iff.1 hg).1
 have hid2 : id < (G ++ S).length := by simp; omega
 obtain ⟨T', hG'⟩ := h1'.ext
 refine ⟨⟨T', id, hG', hle, ?_, hw⟩, fun q o n o' n' hv hw' => ?_⟩
 ·rw [f1 id hid2 (fun off n hv => hne id off n 0 ds.length hv hw)]
  exact up_append _ _ hg
 ·rw [hw] at hw'
  cases hw'
  rcases f2 id o n hv with ⟨o2, n2, h⟩ | h
  ·exact hne id o2 n2 0 ds.length h hw
  ·omega
theorem Two.symm {v w : V} (h : Two v w) : Two w v := fun q o n o' n' hw hv => h q o' n' o n hv hw
theorem xE {H G : List Ob} {v : V} {b : Str} : Bs H G v b ↔ Gs H G v (bys b) :=
 ⟨fun ⟨T, id, h0, h1, h2, h3⟩ => ⟨T, id, h0, h1, h2, by rw [h3, bys_len]⟩, fun ⟨T, id, h0, h1, h2, h3⟩ => ⟨T, id, h0, h1, h2, by rw [h3, bys_len]⟩⟩
theorem DX {b t : Str} {i : Nat} {c : UInt8} (hc : t[i]? = some c) (h44 : c ≠ 44) (h : c ≠ 92 ∨ t.length ≤ i + 1) : cutG b (t.drop i) = cutG (b ++ [c]) (t.drop (i + 1)) := by
 obtain ⟨hi, rfl⟩ := List.getElem?_eq_some_iff.1 hc
 rw [List.drop_eq_getElem_cons hi]
 rcases h with h | h
 ·exact cut_step h44 h
 ·have e : t.drop (i + 1) = [] := List.drop_eq_nil_of_le h
  rw [e]
  simp [cutG, h44]
theorem Bc {b t : Str} {i : Nat} {d : UInt8} (hc : t[i]? = some 92) (hd : t[i + 1]? = some d) : cutG b (t.drop i) = cutG (b ++ [92] ++ [d]) (t.drop (i + 2)) := by
 obtain ⟨hi, h1⟩ := List.getElem?_eq_some_iff.1 hc
 obtain ⟨hi2, h2⟩ := List.getElem?_eq_some_iff.1 hd
 rw [List.drop_eq_getElem_cons hi, List.drop_eq_getElem_cons hi2, h1, h2]
 simp [cutG]
theorem D7 {b t : Str} {i : Nat} (hc : t[i]? = some 44) : cutG b (t.drop i) = b :: cutG [] (t.drop (i + 1)) := by
 obtain ⟨hi, h1⟩ := List.getElem?_eq_some_iff.1 hc
 rw [List.drop_eq_getElem_cons hi, h1]
 exact cut_comma
theorem FQ {t : Str} {H : List Ob} (hl : t.length ≤ 2000000) : ∃ T w, callW C 188 [.str t] H = some (w, H ++ T) ∧ Gs H (H ++ T) w ((cutG [] t).map V.str) := by
 suffices hs : Ret C 188 [.str t] H fun q G => ∃ T, G = H ++ T ∧ Gs H (H ++ T) q ((cutG [] t).map V.str) by
  obtain ⟨q, H', hc, T, rfl, hr⟩ := hs
  exact ⟨T, q, hc, hr⟩
 rw [Hy]
 simp [tN, Tryz.f188, elemT, fillL, zerosL, St.new]
 have g0 : Gs H (H ++ [Ob.mk true 1 [], .mk true 1 []]) (.slc (some (H.length, 0)) 0) (([] : List Str).map V.str) := ⟨_, H.length, rfl, Nat.le_refl _, by simp, rfl⟩
 have b0 : Bs H (H ++ [Ob.mk true 1 [], .mk true 1 []]) (.slc (some (H.length + 1, 0)) 0) [] := ⟨_, H.length + 1, rfl, by omega, by rw [List.getElem?_append_right (by omega)]; simp [bys], rfl⟩
 refine WP_loop (fun k σ => ∃ (i : Nat) (r : Nat → R) (G : List Ob) (vo vb : V) (outs : List Str) (b : Str), i + k = t.length ∧ σ = ⟨r, 0, G⟩ ∧ r 0 = .val (.str t) ∧ r 3 = .val vo ∧ r 4 = .val vb ∧ r 5 = .val (.int .i64 i) ∧ Gs H G vo (outs.map V.str) ∧ Bs H G vb b ∧ Two vo vb ∧ outs ++ cutG b (t.drop i) = cutG [] t ∧ outs.length ≤ i ∧ b.length ≤ i) ?_ t.length _ ⟨0, _, _, _, _, [], [], by simp, rfl, by simp, by simp, by simp, by simp, g0, b0, by intro q o n o' n' h1 h2; cases h1; simp at h2, by simp, by simp, by simp⟩
 rintro k σ ⟨i, r, G, vo, vb, outs, b, hik, rfl, r0, r3, r4, r5, hO, hB, htw, hcut, hol, hbl⟩
 cases k with
 | zero =>
  have hi : i = t.length := by omega
  subst hi
  rw [List.drop_length, show cutG b [] = [b] from rfl] at hcut
  obtain ⟨id, hvb, hst, hsl⟩ := hB.cut (n := b.length) (Nat.le_refl _)
  rw [List.take_length] at hsl
  obtain ⟨v', G', ha, hG'⟩ := hO.push (x := .str b) (d := .str) (b := 16) (z := [.str []]) rfl (by simp; unfold maxMade; omega) (by decide) (by decide) rfl
  have e : List.map V.str outs ++ [V.str b] = (cutG [] t).map V.str := by rw [← hcut]; simp
  rw [e] at hG'
  have hgc := hG'.gc
  obtain ⟨T, rfl⟩ := hG'.ext
  have hov := hG'.one
  rw [hvb] at r4
  simp [r0, r3, r4, r5, hsl, hst, isByte, bys_mapM, elemT, fillL, zerosL, St.new, ha, hov, hgc]
  exact hG'
 | succ k =>
  have hi : i < t.length := by omega
  obtain ⟨c, hc⟩ : ∃ c, t[i]? = some c := ⟨t[i], by simp [hi]⟩
  have hc' : t[i] = c := (List.getElem?_eq_some_iff.1 hc).2
  have hw : IntKind.i64.wrap ((i : Int) + 1) = ((i : Int) + 1) := wrap_i64 (by omega) (by omega)
  have hi0 : (0 : Int) ≤ (i : Int) + 1 := by omega
  by_cases g2 : c = 92 ∧ i + 1 < t.length
  ·obtain ⟨g92, g3⟩ := g2
   subst g92
   obtain ⟨d, hd⟩ : ∃ c, t[i + 1]? = some c := ⟨t[i + 1], by simp [g3]⟩
   have hd' : t[i + 1] = d := (List.getElem?_eq_some_iff.1 hd).2
   have hw3 : IntKind.i64.wrap ((i : Int) + 1 + 1) = ((i : Int) + 1 + 1) := wrap_i64 (by omega) (by omega)
   have g3' : (i : Int) + 1 < (t.length : Int) := by omega
   have hx : newCells ⟨.int .u8, 1, 1, [.int .u8 0]⟩ (G ++ [.mk true 1 [.int .u8 92, .int .u8 d.toNat]]) (.slc (some (G.length, 0)) 2) = some ([V.int .u8 92, V.int .u8 d.toNat], [V.int .u8 92, V.int .u8 d.toNat].length) := by simp [newCells, slcCells, rdCells]
   obtain ⟨v', G', ha, hB'⟩ := ((xE.1 hB).grow [.mk true 1 [.int .u8 92, .int .u8 d.toNat]]).many (d := .int .u8) (b := 1) (z := [.int .u8 0]) hx (by simp [isOne]) (by simp [bys_len]; unfold maxMade; omega) (by decide) (by decide) rfl
   obtain ⟨hO', htw'⟩ := mQ hO htw.symm ha hB'
   have hB2 : Bs H G' v' (b ++ [92] ++ [d]) := xE.2 (by rw [bys_append, bys_append, List.append_assoc]; exact hB')
   rw [Bc hc hd] at hcut
   simp [r0, r3, r4, r5, hi, hc', hd', g3, g3', hi0, hw, hw3, elemT, fillL, zerosL, St.new, badArg, ha, regionL_none, regionL_some, List.lookup]
   exact ⟨k - 1, by omega, i + 2, by omega, _, _, ⟨rfl, rfl⟩, by simp [r0], _, by simp [r3], _, by simp, by simp; omega, outs, hO', _, hB2, htw'.symm, hcut, by omega, by simp; omega⟩
  have hone : c ≠ 92 ∨ t.length ≤ i + 1 := by
   by_cases h92 : c = 92
   ·exact .inr ((Nat.lt_or_ge (i + 1) t.length).elim (fun h => absurd ⟨h92, h⟩ g2) id)
   ·exact .inl h92
  by_cases g44 : c = 44
  ·subst g44
   obtain ⟨idb, hvb, hst, hsl⟩ := hB.cut (n := b.length) (Nat.le_refl _)
   rw [List.take_length] at hsl
   obtain ⟨v', G1, ha, hO1⟩ := hO.push (x := .str b) (d := .str) (b := 16) (z := [.str []]) rfl (by simp; unfold maxMade; omega) (by decide) (by decide) rfl
   have hov := hO1.one
   have hO2 : Gs H (G1 ++ [.mk true 1 []]) v' ((outs ++ [b]).map V.str) := by
    have := hO1.grow [.mk true 1 []]
    simpa using this
   have hB2 : Bs H (G1 ++ [.mk true 1 []]) (.slc (some (G1.length, 0)) 0) [] := by
    obtain ⟨T, rfl⟩ := hO1.ext
    exact ⟨T ++ [.mk true 1 []], (H ++ T).length, by simp, by simp, by rw [get_last]; rfl, rfl⟩
   have htw2 : Two v' (.slc (some (G1.length, 0)) 0) := by
    obtain ⟨T, idv, hT, h1, h2, h3⟩ := hO1
    intro q o n o' n' e1 e2
    rw [h3] at e1
    cases e1
    cases e2
    have := (List.getElem?_eq_some_iff.1 h2).1
    omega
   rw [D7 hc] at hcut
   rw [hvb] at r4
   simp [r0, r3, r4, r5, hi, hc', hw, hsl, hst, isByte, bys_mapM, elemT, fillL, zerosL, St.new, badArg, ha, hov]
   exact ⟨k, by omega, i + 1, by omega, _, _, ⟨rfl, rfl⟩, by simp [r0], _, by simp, _, by simp, by simp, outs ++ [b], by simpa using hO2, _, hB2, htw2, by rw [List.append_assoc]; exact hcut, by simp; omega, by simp⟩
  obtain ⟨v', G', ha, hB'⟩ := hB.push (by omega) (c := c) (d := .int .u8) (z := [.int .u8 0]) rfl
  obtain ⟨hO', htw'⟩ := mQ hO htw.symm ha (xE.1 hB')
  rw [DX hc g44 hone] at hcut
  have e44 := aO g44
  simp at e44
  by_cases h92 : c = 92
  ·have g3 : ¬ i + 1 < t.length := fun h => g2 ⟨h92, h⟩
   have g3' : ¬ (i : Int) + 1 < (t.length : Int) := by omega
   have e92 : (c.toNat : Int) = 92 := by rw [h92]; rfl
   rw [e92] at ha
   simp [r0, r3, r4, r5, hi, hc', e92, g3, g3', hw, elemT, fillL, zerosL, St.new, badArg, ha]
   exact ⟨k, by omega, i + 1, by omega, _, _, ⟨rfl, rfl⟩, by simp [r0], _, by simp [r3], _, by simp, by simp, outs, hO', _, hB', htw'.symm, hcut, by omega, by simp; omega⟩
  ·have e92 := aO h92
   simp at e92
   simp [r0, r3, r4, r5, hi, hc', h92, e92, g44, e44, hw, elemT, fillL, zerosL, St.new, badArg, ha]
   exact ⟨k, by omega, i + 1, by omega, _, _, ⟨rfl, rfl⟩, by simp [r0], _, by simp [r3], _, by simp, by simp, outs, hO', _, hB', htw'.symm, hcut, by omega, by simp; omega⟩
noncomputable def aW (dn : List PRdn) : Str := if dec (DnOk dn) = true then txt dn else []
theorem wU {H : List Ob} {v : V} {dn : List PRdn} (h : ARdns H v dn) : callW C 190 [v] H = some (.str (aW dn), H) := by
 apply Ret.eq
 rw [Gj]
 have c1 := Ag h
 by_cases g : DnOk dn
 ·rw [dec_pos g] at c1
  have e : aW dn = txt dn := by unfold aW; rw [dec_pos g]; rfl
  have c2 := DN h g
  have g2 : ¬ 400 < dn.length := by have := g.2; omega
  have g2' : ¬ (400 : Int) < dn.length := by omega
  rw [e]
  simp [iK, Tryz.f190, h.len, c1, c2, g2, g2']
 ·rw [dec_neg g] at c1
  have e : aW dn = [] := by unfold aW; rw [dec_neg g]; rfl
  rw [e]
  by_cases g2 : 400 < dn.length
  ·have g2' : (400 : Int) < dn.length := by omega
   simp [iK, Tryz.f190, h.len, g2, g2']
  ·have g2' : ¬ (400 : Int) < dn.length := by omega
   simp [iK, Tryz.f190, h.len, c1, g2, g2']
def RdAns (H : List Ob) (t : Str) (q : V) (H' : List Ob) : Prop := ∃ T w dn, q = .tup [w, .bool (dec (ReadOk t))] ∧ H' = H ++ T ∧ New H.length (H ++ T).length (H ++ T) (.slice shRdn) [w] (.lst (dn.map PRdn.u)) ∧ (ReadOk t → dn = readS t)
theorem RdAns.of {H G : List Ob} {t : Str} {w : V} {l : List PRdn} {b : Bool} (h : LstF H G shRdn PRdn.u w l) (hl : l.length ≤ 10000000) (hb : b = dec (ReadOk t)) (hd : ReadOk t → l = readS t) : RdAns H t (.tup [w, .bool b]) (gcH H G (.tup [w, .bool b])) := by
 obtain ⟨T, hT⟩ := h.pre
 have n := h.new (by unfold maxLen; omega)
 rw [hT] at n ⊢
 obtain ⟨T', h3, h4⟩ := n.gc (v := .tup [w, .bool b]) (by simp [lowV, lowVs])
 exact ⟨T', w, l, by rw [hb], h3, h4, hd⟩
theorem gq {B G : List Ob} {v : V} {l : List PRdn} {x : PRdn} {z : List V} {d : LD} (h : LstF B G shRdn PRdn.u v l) (h1 : x.attr.length ≤ 10000000) (h2 : x.value.length ≤ 10000000) (hl : l.length ≤ 10000000) (hz : z.length = 2) :
  ∃ v' G', appendV ⟨d, 2, 32, z⟩ (G ++ [.mk true 2 [.str x.attr, .str x.value]]) v (.slc (some (G.length, 0)) 1) = some (v', G') ∧ LstF B G' shRdn PRdn.u v' (l ++ [x]) := by
 have hn : New G.length G.length (G ++ []) shRdn [.str x.attr, .str x.value] x.u := New.st (News.str (by unfold maxLen; omega) (News.str (by unfold maxLen; omega) News.nil))
 obtain ⟨v', G', h1, h2, _⟩ := h.push (T := []) (x := x) (e := G.length) (d := d) (by_ := 32) (z := z) (sz := 2) hn rfl hz (by decide) (by decide) (by decide) (by unfold maxMade; omega)
 rw [List.append_nil] at h1
 exact ⟨v', G', h1, h2⟩
theorem nY {dn : List PRdn} {t : Str} (ht : t ≠ []) : aW dn = t ↔ DnOk dn ∧ txt dn = t := by
 unfold aW
 constructor
 ·intro h
  split at h
  ·rename_i g; exact ⟨dec_true.1 g, h⟩
  ·exact absurd h.symm ht
 ·rintro ⟨h1, h2⟩
  rw [dec_pos h1]
  exact h2
theorem Dj {t : Str} {H : List Ob} (hl : t.length ≤ 2000000) : ∃ q H', callW C 106 [.str t] H = some (q, H') ∧ RdAns H t q H' := by
 suffices hs : Ret C 106 [.str t] H fun q H' => RdAns H t q H' by
  obtain ⟨q, H', hc, hr⟩ := hs
  exact ⟨q, H', hc, hr⟩
 rw [II]
 obtain ⟨Y, hY⟩ : ∃ Y, Y = H ++ [.mk true 2 []] := ⟨_, rfl⟩
 have hL0 : LstF H Y shRdn PRdn.u (.slc (some (H.length, 0)) 0) [] := by rw [hY]; exact LstF.init (sh := shRdn)
 by_cases h0 : t = []
 ·subst h0
  have fin := RdAns.of hL0 (t := []) (b := true) (by simp) (by rw [dec_pos readOk_nil]) (fun _ => rfl)
  simp [kS, Tryz.f106, fillL, zerosL, St.new, elemT, ← hY, regionL_none, regionL_some, List.lookup]
  exact fin
 have h0e : List.isEmpty t = false := by simpa using h0
 obtain ⟨T1, wl, c1, hg⟩ := FQ (t := t) (H := Y) hl
 have hcl := cut_len [] t
 have hcb := cut_bound [] t
 simp only [List.length_nil, Nat.zero_add] at hcb
 obtain ⟨K, hK⟩ : ∃ K, K = Y ++ T1 := ⟨_, rfl⟩
 rw [← hK] at c1 hg
 have hk := (hg.strs (by unfold maxLen; omega) (fun s hs => by have := hcb s hs; unfold maxLen; omega)).1
 have hko := hk.one
 have hL1 : LstF H K shRdn PRdn.u (.slc (some (H.length, 0)) 0) [] := by rw [hK]; exact hL0.ext
 generalize hcs : cutG [] t = cs at hk hcl hcb
 have hrs : readS t = cs.map rdnS := by unfold readS; rw [if_neg h0, hcs]
 simp [kS, Tryz.f106, h0, h0e, fillL, zerosL, St.new, elemT, ← hY, c1, hko, regionL_none, regionL_some, List.lookup]
 refine WP_loop (fun k σ => ∃ (i : Nat) (r : Nat → R) (G : List Ob) (w : V), i + k = cs.length ∧ σ = ⟨r, 0, G⟩ ∧ r 0 = .val (.str t) ∧ r 4 = .val w ∧ r 5 = .val wl ∧ r 6 = .val (.int .i64 i) ∧ LstF H G shRdn PRdn.u w ((cs.take i).map rdnS) ∧ AStrs G wl cs) ?_ cs.length _ ⟨0, _, K, .slc (some (H.length, 0)) 0, by simp, rfl, by simp, by simp, by simp, by simp, by simpa using hL1, hk⟩
 rintro k σ ⟨i, r, G, w, hik, rfl, r0, r4, r5, r6, hG, hkG⟩
 have hwo := hG.one
 cases k with
 | zero =>
  have hi : i = cs.length := by omega
  subst hi
  rw [List.take_length, ← hrs] at hG
  have hla := readS_len (t := t)
  have c3 := wU (hG.at (by unfold maxLen; omega))
  have hd := nY (dn := readS t) h0
  by_cases gR : ReadOk t
  ·have he := hd.2 gR
   rw [he] at c3
   have fin := RdAns.of hG (t := t) (b := true) (by omega) (by rw [dec_pos gR]) (fun _ => rfl)
   simp [r0, r4, r5, r6, hkG.len, hwo, c3, regionL_none, regionL_some, List.lookup]
   exact fin
  ·have he : ¬ aW (readS t) = t := fun h => gR (hd.1 h)
   have fin := RdAns.of hG (t := t) (b := false) (by omega) (by rw [dec_neg gR]) (fun _ => rfl)
   simp [r0, r4, r5, r6, hkG.len, hwo, c3, he, regionL_none, regionL_some, List.lookup]
   exact fin
 | succ k =>
  have hi : i < cs.length := by omega
  obtain ⟨x, hx⟩ : ∃ c, cs[i]? = some c := ⟨cs[i], by simp [hi]⟩
  have hw : IntKind.i64.wrap ((i : Int) + 1) = ((i : Int) + 1) := wrap_i64 (by omega) (by omega)
  have hxb := hcb x (List.mem_of_getElem? hx)
  have hxl := rdnS_len x
  obtain ⟨id, o, e1, l1, hid⟩ := strs_idx hkG hx
  have c4 := Ih (t := x) (H := G) (by omega)
  obtain ⟨w', G', a3, hG'⟩ := gq (x := rdnS x) (d := .struct [(0, 9), (1, 9)]) (z := [.str [], .str []]) hG (by omega) (by omega) (by simp; omega) rfl
  have hkG' : AStrs G' wl cs := AStrs.apart (hG.ext (T := [.mk true 2 [.str (rdnS x).attr, .str (rdnS x).value]])) (by decide) hkG.ext (appendV_frame a3).1
  have hwo' := hG'.one
  simp [r0, r4, r5, r6, hi, hkG.len, hwo, hwo', e1, l1, hid, c4, a3, hw, fillL, zerosL, St.new, elemT, buildV, structPlace, regionL_none, regionL_some, List.lookup]
  exact ⟨k, by omega, i + 1, by omega, _, _, ⟨rfl, rfl⟩, by simp [r0], w', by simp, by simp [r5], by simp, by rw [← List.map_take, take_get hx, List.map_append]; exact hG', hkG'⟩
def RdI (H : List Ob) (t : Str) (k : Nat) (σ : St) : Prop := ∃ (i : Nat) (r : Nat → R) (G : List Ob) (w : V) (out : List PRdn) (now : PRdn) (iv : Bool), i + k = t.length ∧ σ = ⟨r, 1, G⟩ ∧ r 0 = .val (.str t) ∧ r 4 = .val w ∧ r 5 = .box 0 [.str now.attr, .str now.value] ∧ r 6 = .val (.bool iv) ∧ r 7 = .val (.int .i64 i) ∧
 LstF H G shRdn PRdn.u w out ∧ out.length ≤ i ∧ now.attr.length ≤ i ∧ now.value.length ≤ i ∧ readG out now iv (t.drop i) = readI t
theorem wI {t : Str} {H : List Ob} (hl : t.length ≤ 2000000) : ∃ q H', callW C 276 [.str t] H = some (q, H') ∧ RdAns H t q H' := by
 suffices hs : Ret C 276 [.str t] H fun q H' => RdAns H t q H' by
  obtain ⟨q, H', hc, hr⟩ := hs
  exact ⟨q, H', hc, hr⟩
 rw [Ig]
 obtain ⟨Y, hY⟩ : ∃ Y, Y = H ++ [.mk true 2 []] := ⟨_, rfl⟩
 have hL0 : LstF H Y shRdn PRdn.u (.slc (some (H.length, 0)) 0) [] := by rw [hY]; exact LstF.init (sh := shRdn)
 by_cases h0 : t = []
 ·subst h0
  have fin := RdAns.of hL0 (t := []) (b := true) (by simp) (by rw [dec_pos readOk_nil]) (fun _ => rfl)
  simp [lQ, Tryz.f276, fillL, zerosL, St.new, elemT, ← hY, regionL_none, regionL_some, List.lookup]
  exact fin
 have h0e : List.isEmpty t = false := by simpa using h0
 have hrI : readG [] ⟨[], []⟩ false t = readI t := by unfold readI; rw [if_neg h0]
 simp [lQ, Tryz.f276, h0, h0e, fillL, zerosL, St.new, elemT, buildV, structPlace, setRange, ← hY, regionL_none, regionL_some, List.lookup]
 refine WP_loop (RdI H t) ?_ t.length _ ⟨0, _, Y, .slc (some (H.length, 0)) 0, [], ⟨[], []⟩, false, by simp, rfl, by simp, by simp, by simp, by simp, by simp, hL0, by simp, by simp, by simp, hrI⟩
 rintro k σ ⟨i, r, G, w, out, now, iv, hik, rfl, r0, r4, r5, r6, r7, hG, b1, b2, b3, hrd⟩
 have hwo := hG.one
 have hM : ∀ n, n ≤ 10000000 → n ≤ maxStr := fun n h => by unfold maxStr; omega
 cases k with
 | zero =>
  have hi : i = t.length := by omega
  subst hi
  rw [List.drop_length, readG_nil] at hrd
  obtain ⟨w', G', a3, hG'⟩ := gq (x := now) (d := .struct [(0, 9), (1, 9)]) (z := [.str [], .str []]) hG (by omega) (by omega) (by omega) rfl
  rw [hrd] at hG'
  have hla : (readI t).length ≤ 10000000 := by rw [← hrd]; simp; omega
  have hwo' := hG'.one
  have hat := hG'.at (by unfold maxLen; omega)
  have c3 := Dw hat
  by_cases g1 : DnOk (readI t)
  ·rw [dec_pos g1] at c3
   have c4 := xZ hat g1
   by_cases g2 : txt (readI t) = t
   ·rw [g2] at c4
    have gR : ReadOk t := readOk_iff.2 ⟨g1, g2⟩
    have fin := RdAns.of hG' (t := t) (b := true) hla (by rw [dec_pos gR]) (fun h => read_same h)
    simp [r0, r4, r5, r6, r7, hwo, hwo', a3, c3, c4, fillL, zerosL, St.new, elemT, buildV, structPlace, setRange, regionL_none, regionL_some, List.lookup]
    exact fin
   ·have gR : ¬ ReadOk t := fun h => g2 (readOk_iff.1 h).2
    have fin := RdAns.of hG' (t := t) (b := false) hla (by rw [dec_neg gR]) (fun h => read_same h)
    simp [r0, r4, r5, r6, r7, hwo, hwo', a3, c3, c4, g2, fillL, zerosL, St.new, elemT, buildV, structPlace, setRange, regionL_none, regionL_some, List.lookup]
    exact fin
  ·rw [dec_neg g1] at c3
   have gR : ¬ ReadOk t := fun h => g1 (readOk_iff.1 h).1
   have fin := RdAns.of hG' (t := t) (b := false) hla (by rw [dec_neg gR]) (fun h => read_same h)
   simp [r0, r4, r5, r6, r7, hwo, hwo', a3, c3, fillL, zerosL, St.new, elemT, buildV, structPlace, setRange, regionL_none, regionL_some, List.lookup]
   exact fin
 | succ k =>
  have hi : i < t.length := by omega
  obtain ⟨c, hc⟩ : ∃ c, t[i]? = some c := ⟨t[i], by simp [hi]⟩
  have hc' : t[i] = c := (List.getElem?_eq_some_iff.1 hc).2
  have hw : IntKind.i64.wrap ((i : Int) + 1) = ((i : Int) + 1) := wrap_i64 (by omega) (by omega)
  rw [drop_cons hc] at hrd
  have hp1 := piece_one hc
  have hi0 : (0 : Int) ≤ (i : Int) + 1 := by omega
  have hi1 : i + 1 ≤ t.length := by omega
  have ht1 : ((i : Int) + 1).toNat = i + 1 := by omega
  have m1 := hM (now.attr.length + 1) (by omega)
  have m2 := hM (now.value.length + 1) (by omega)
  cases iv with
  | false =>
   by_cases g61 : c = 61
   ·rw [g61, readG_eq] at hrd
    have e61 : (c.toNat : Int) = 61 := by rw [g61]; rfl
    simp [r0, r4, r5, r6, r7, hi, hc', g61, e61, hw, fillL, zerosL, St.new, elemT, buildV, structPlace, setRange, regionL_none, regionL_some, List.lookup]
    exact ⟨k, by omega, i + 1, _, G, w, out, now, true, by omega, rfl, by simp [r0], by simp [r4], by simp [r5], by simp, by simp, hG, by omega, by omega, by omega, hrd⟩
   ·rw [readG_name g61] at hrd
    have e61 := aO g61
    simp at e61
    simp [r0, r4, r5, r6, r7, hi, hc', g61, e61, hw, m1, slcCells, isByte, byteOfV, fillL, zerosL, St.new, elemT, buildV, structPlace, setRange, regionL_none, regionL_some, List.lookup]
    exact ⟨k, by omega, i + 1, _, _, w, out, ⟨now.attr ++ [c], now.value⟩, false, by omega, rfl, by simp [r0], by simp [r4], by simp, by simp [r6], by simp, hG.ext, by omega, by simp; omega, by simp; omega, hrd⟩
  | true =>
   by_cases g44 : c = 44
   ·rw [g44, read_comma] at hrd
    have e44 : (c.toNat : Int) = 44 := by rw [g44]; rfl
    obtain ⟨w', G', a3, hG'⟩ := gq (x := now) (d := .struct [(0, 9), (1, 9)]) (z := [.str [], .str []]) hG (by omega) (by omega) (by omega) rfl
    have hwo' := hG'.one
    simp [r0, r4, r5, r6, r7, hi, hc', g44, e44, hw, hwo, hwo', a3, fillL, zerosL, St.new, elemT, buildV, structPlace, setRange, regionL_none, regionL_some, List.lookup]
    exact ⟨k, by omega, i + 1, _, _, w', out ++ [now], ⟨[], []⟩, false, by omega, rfl, by simp [r0], by simp, by simp, by simp, by simp, hG', by simp; omega, by simp, by simp, hrd⟩
   have e44 := aO g44
   simp at e44
   by_cases g92 : c = 92
   ·have e92 : (c.toNat : Int) = 92 := by rw [g92]; rfl
    by_cases g3 : i + 1 < t.length
    ·obtain ⟨d, hd⟩ : ∃ c, t[i + 1]? = some c := ⟨t[i + 1], by simp [g3]⟩
     have hd' : t[i + 1] = d := (List.getElem?_eq_some_iff.1 hd).2
     have g3' : (i : Int) + 1 < (t.length : Int) := by omega
     have hw2 : IntKind.i64.wrap ((i : Int) + 1 + 1) = ((i : Int) + 1 + 1) := wrap_i64 (by omega) (by omega)
     have hp2 := piece_one hd
     have hi2 : (0 : Int) ≤ (i : Int) + 1 + 1 := by omega
     have ht2 : ((i : Int) + 1 + 1).toNat = i + 1 + 1 := by omega
     have hi3 : i + 1 + 1 ≤ t.length := by omega
     rw [drop_cons hd, g92, readG_mark] at hrd
     simp [r0, r4, r5, r6, r7, hi, hc', g92, e92, g3, g3', hw, hw2, hp2, hi0, hi2, hi3, ht2, m2, fillL, zerosL, St.new, elemT, buildV, structPlace, setRange, regionL_none, regionL_some, List.lookup]
     exact ⟨k - 1, by omega, i + 2, _, _, w, out, ⟨now.attr, now.value ++ [d]⟩, true, by omega, rfl, by simp [r0], by simp [r4], by simp, by simp [r6], by simp; omega, hG, by omega, by simp; omega, by simp; omega, hrd⟩
    ·have g3' : ¬ (i : Int) + 1 < (t.length : Int) := by omega
     have ht0 : t.drop (i + 1) = [] := List.drop_of_length_le (by omega)
     rw [ht0, readG_one g44] at hrd
     simp [r0, r4, r5, r6, r7, hi, hc', g92, e92, g3, g3', hw, hp1, hi0, hi1, ht1, m2, fillL, zerosL, St.new, elemT, buildV, structPlace, setRange, regionL_none, regionL_some, List.lookup]
     exact ⟨k, by omega, i + 1, _, _, w, out, ⟨now.attr, now.value ++ [c]⟩, true, by omega, rfl, by simp [r0], by simp [r4], by simp [g92], by simp [r6], by simp, hG, by omega, by simp; omega, by simp; omega, by rw [ht0]; exact hrd⟩
   ·have e92 := aO g92
    simp at e92
    rw [read_plain g44 g92] at hrd
    simp [r0, r4, r5, r6, r7, hi, hc', g44, e44, g92, e92, hw, hp1, hi0, hi1, ht1, m2, fillL, zerosL, St.new, elemT, buildV, structPlace, setRange, regionL_none, regionL_some, List.lookup]
    exact ⟨k, by omega, i + 1, _, _, w, out, ⟨now.attr, now.value ++ [c]⟩, true, by omega, rfl, by simp [r0], by simp [r4], by simp, by simp [r6], by simp, hG, by omega, by simp; omega, by simp; omega, hrd⟩
theorem Dt {n a b : Int} {H : List Ob} : callW C 91 [.int .i64 n, .int .i64 a, .int .i64 b] H = some (.bool (dec (a ≤ n ∧ n ≤ b)), H) := by
 apply Ret.dec
 rw [OE]
 by_cases h1 : a ≤ n
 ·by_cases h2 : n ≤ b
  ·simp [kJ, Tryz.f91, h1, h2]
  ·simp [kJ, Tryz.f91, h1, h2]
 ·simp [kJ, Tryz.f91, h1]




def Jy (n : Int) : Int := if n = 0 then 1 else if n = 1 then 0 else 2

def Tri (x : Int) : Prop := x = 0 ∨ x = 1 ∨ x = 2
theorem Tri.not {x : Int} (h : Tri x) : Tri (Jy x) := by
 rcases h with rfl | rfl | rfl <;> simp [Tri, Jy]

def ints (xs : List Int) : List V := xs.map fun x => .int .i64 x
theorem nM {xs : List Int} : (ints xs).length = xs.length := by simp [ints]
def Is (H G : List Ob) (v : V) (b : List Int) : Prop := ∃ T id, G = H ++ T ∧ H.length ≤ id ∧ G[id]? = some (.mk true 1 (ints b)) ∧ v = .slc (some (id, 0)) b.length
theorem Is.init {H : List Ob} : Is H (H ++ [.mk true 1 []]) (.slc (some (H.length, 0)) 0) [] := ⟨_, H.length, rfl, Nat.le_refl _, by simp [ints], rfl⟩
theorem Is.push {H G : List Ob} {v : V} {b : List Int} (h : Is H G v b) (hb : b.length ≤ 1000) {c : Int} {z : List V} {d : LD} (hz : z.length = 1) : ∃ v' G', appendV ⟨d, 1, 8, z⟩ (G ++ [.mk true 1 [.int .i64 c]]) v (.slc (some (G.length, 0)) 1) = some (v', G') ∧ Is H G' v' (b ++ [c]) := by
 obtain ⟨T, id, rfl, h1, h2, rfl⟩ := h
 have hid : id < (H ++ T).length := (List.getElem?_eq_some_iff.1 h2).1
 have hid' : id < H.length + T.length := by simpa using hid
 have hg : (H ++ T ++ [Ob.mk true 1 [.int .i64 c]])[id]? = some (.mk true 1 (ints b)) := by rw [List.getElem?_append_left hid]; exact h2
 have hnew : newCells ⟨d, 1, 8, z⟩ (H ++ T ++ [Ob.mk true 1 [.int .i64 c]]) (.slc (some ((H ++ T).length, 0)) 1) = some ([.int .i64 c], 1) := by
  simp only [newCells, Nat.mul_one, slcCells, get_last]
  rfl
 refine ⟨.slc (some ((H ++ T ++ [Ob.mk true 1 [.int .i64 c]]).length, 0)) (b.length + 1), (H ++ T ++ [Ob.mk true 1 [.int .i64 c]]).set id .dead ++ [.mk true 1 (ints b ++ [.int .i64 c])], ?_, ?_⟩
 ·unfold appendV
  rw [if_pos (by simp [growOk, hz]), hnew]
  simp only [Nat.one_ne_zero, if_false, List.all_cons, List.all_nil, isOne_int, Bool.and_true, if_true, hg]
  have e1 : ¬ (0 + (b.length + 1) * 1 ≤ (ints b).length) := by rw [nM]; omega
  have e2 : (0 + b.length * 1 = (ints b).length ∨ b.length = 0 ∧ (ints b).length ≤ 0) ∧ (b.length + 1) * 8 ≤ maxMade := ⟨.inl (by rw [nM]; simp), by unfold maxMade; omega⟩
  rw [if_neg e1, if_pos e2, List.drop_zero]
 ·refine ⟨T.set (id - H.length) .dead ++ [.mk true 1 [.int .i64 c]] ++ [.mk true 1 (ints b ++ [.int .i64 c])], (H ++ T ++ [Ob.mk true 1 [.int .i64 c]]).length, ?_, by simp only [List.length_append]; omega, ?_, by simp⟩
  ·rw [List.append_assoc H T, List.set_append_right _ _ h1, List.set_append_left _ _ (by omega)]
   simp
  ·have hl : ((H ++ T ++ [Ob.mk true 1 [V.int .i64 c]]).set id .dead).length = (H ++ T ++ [Ob.mk true 1 [V.int .i64 c]]).length := List.length_set
   rw [← hl, get_last]
   simp [ints]



theorem fU {n a b : Int} {H : List Ob} : callW C 94 [.int .i64 n, .int .i64 a, .int .i64 b] H = some (.bool (dec (a ≤ n ∧ n ≤ b)), H) := by
 apply Ret.dec
 rw [Ia]
 by_cases h1 : a ≤ n
 ·by_cases h2 : n ≤ b
  ·simp [fM, Tryz.f94, h1, h2]
  ·simp [fM, Tryz.f94, h1, h2]
 ·simp [fM, Tryz.f94, h1]
end Go.Proofs.Try1
end
