/- Part 11 of the proof of a law: the interpreter, its soundness, and what functions of the program compute over it. Conditions: none but those that each theorem names. -/
import Derived.Test.YtamgeahibepfnaaGreatDoorQ10
import Derived.Test.YtamgeahibepfnaaGreatDoorQ07
import Derived.Test.YtamgeahibepfnaaGreatDoorQ08
import Derived.Test.YtamgeahibepfnaaGreatDoorQ09
import Derived.Test.YtamgeahibepfnaaGreatDoorQ06
import Derived.Sort.AssemblyPlain

set_option linter.all false
set_option maxRecDepth 20000
set_option maxHeartbeats 40000000
section
namespace Go.Proofs.Try1
open Go Go.Lite
theorem aBZ {α : Type} {key : α → Str} {l : List α} {t : Str} {i : Nat} {a : α} (hp : l.Pairwise fun a b => key a < key b) (h : l[i]? = some a) (hk : key a = t) : arS key l t = some a := by
 unfold arS
 rw [List.find?_eq_some_iff_getElem]
 obtain ⟨hi, h⟩ := List.getElem?_eq_some_iff.1 h
 refine ⟨by simp [hk], i, hi, h, fun j hj => ?_⟩
 have := List.pairwise_iff_getElem.1 hp j i (by omega) hi hj
 rw [h, hk] at this
 have hne : key l[j] ≠ t := fun e => by rw [e] at this; exact List.lt_irrefl _ this
 simp [hne]
theorem aBr {α : Type} {key : α → Str} {l : List α} {t : Str} (h : ∀ a ∈ l, key a ≠ t) : arS key l t = none := by
 unfold arS
 rw [List.find?_eq_none]
 intro x hx
 simpa using h x hx
theorem aGd {H : List Ob} {ide : Nat} {own : Bool} {es : Nat} {vd va : V} {l : List PAttr} {t : Str} (he : H[ide]? = some (.mk own es [vd, va])) (h : aqO H va l) (hl : l.length ≤ 1000) (hp : l.Pairwise fun a b => a.name < b.name) :
  ∃ (i : Nat) (ok : Bool), callW C 337 [.ptr (some (ide, 0)), .str t] H = some (.tup [.int .i64 i, .bool ok], H) ∧
   (ok = true → ∃ a, l[i]? = some a ∧ a.name = t) ∧ (ok = false → ∀ a ∈ l, a.name ≠ t) := by
 obtain ⟨i, ok, c1, h1, h2⟩ := aEd (t := t) h hl hp
 refine ⟨i, ok, ?_, h1, h2⟩
 apply Ret.eq
 rw [aIq]
 have ld := aqt (o := 1) (v := va) he rfl
 simp [azA, Tryz.f337, ld, c1]
theorem aDT {H : List Ob} {ide : Nat} {own : Bool} {es : Nat} {vd va : V} {l : List PAttr} {t : Str} (he : H[ide]? = some (.mk own es [vd, va])) (h : aqO H va l) (hl : l.length ≤ 1000) (hp : l.Pairwise fun a b => a.name < b.name) :
  ∃ w, callW C 287 [.ptr (some (ide, 0)), .str t] H = some (w, H) ∧ AStrs H w (valsOf l t) := by
 obtain ⟨i, ok, c1, h1, h2⟩ := aGd (t := t) he h hl hp
 suffices hs : Ret C 287 [.ptr (some (ide, 0)), .str t] H fun q H' => AStrs H q (valsOf l t) ∧ H' = H by
  obtain ⟨q, H', hc, hr, rfl⟩ := hs
  exact ⟨q, hc, hr⟩
 rw [aIG]
 have ld := aqt (o := 1) (v := va) he rfl
 cases ok with
 | false =>
  have hv : valsOf l t = [] := by unfold valsOf; rw [aBr (h2 rfl)]
  simp [aws, Tryz.f287, c1, hv]
  exact apM.2 ⟨_, _, rfl, rfl, by simp, .inl ⟨rfl, rfl⟩⟩
 | true =>
  obtain ⟨a, ha, hat⟩ := h1 rfl
  obtain ⟨id, o, w, e1, l0, l1, _, hw, _⟩ := ary h ha
  have hv : valsOf l t = a.vals := by unfold valsOf; rw [aBZ hp ha hat]
  simp [aws, Tryz.f287, c1, ld, e1, l1, hv]
  exact hw



noncomputable abbrev keyE (e : PEntry) : Str := aFh e.dn

def Back (H G : List Ob) (w : V) (l : List Str) : Prop := ∃ F, AtF G (.slice .str) [w] (.lst (l.map awM)) F ∧ F.Nodup ∧ ∀ q ∈ F, H.length ≤ q
theorem Back.nil {H G : List Ob} : Back H G (.slc none 0) [] := ⟨[], aqr.2 ⟨_, _, rfl, rfl, by simp, .inl ⟨rfl, rfl, rfl⟩⟩, by simp, by simp⟩




def NOut (H : List Ob) (o : PEntryOut) (q : V) (H' : List Ob) : Prop := ∃ T w1 w2, q = .agg [w1, w2, .int .i64 o.code] ∧ H' = H ++ T ∧ New H.length (H ++ T).length (H ++ T) atz [w1, w2, .int .i64 o.code] o.u
theorem NOut.of {H G : List Ob} {e : PEntry} {w1 w2 : V} (hT : ∃ T, G = H ++ T) (hn : New H.length G.length G shEntry [w1, w2] e.u) : NOut H ⟨e, 0⟩ (.agg [w1, w2, .int .i64 0]) (gcH H G (.agg [w1, w2, .int .i64 0])) := by
 obtain ⟨T, rfl⟩ := hT
 have h2 : New H.length (H ++ T).length (H ++ T) atz [w1, w2, .int .i64 0] (PEntryOut.u ⟨e, 0⟩) := New.st (News.cons (c1 := [w1, w2]) (m := (H ++ T).length) hn (News.int (by decide) News.nil) (by simp) (Nat.le_refl _))
 obtain ⟨T', h3, h4⟩ := h2.gcA
 exact ⟨T', w1, w2, rfl, h3, h4⟩
def NOutB (b : Nat) (H : List Ob) (o : PEntryOut) (q : V) (H' : List Ob) : Prop := ∃ T w1 w2, q = .agg [w1, w2, .int .i64 o.code] ∧ H' = H ++ T ∧ New b (H ++ T).length (H ++ T) atz [w1, w2, .int .i64 o.code] o.u
theorem NOutB.base {H : List Ob} {X : List Ob} {o : PEntryOut} {q : V} {H' : List Ob} (h : NOutB H.length (H ++ X) o q H') : NOut H o q (gcH H H' q) := by
 obtain ⟨T, w1, w2, rfl, rfl, h3⟩ := h
 rw [List.append_assoc] at h3 ⊢
 obtain ⟨T', h4, h5⟩ := h3.gcA
 exact ⟨T', w1, w2, rfl, h4, h5⟩
theorem NOutB.one {b : Nat} {H : List Ob} {o : PEntryOut} {q : V} {H' : List Ob} (h : NOutB b H o q H') : ∃ w1 w2, q = .agg [w1, w2, .int .i64 o.code] ∧ (ap5 w1 = true ∧ cellsOf w1 = some [w1]) ∧ (ap5 w2 = true ∧ cellsOf w2 = some [w2]) := by
 obtain ⟨T, w1, w2, rfl, rfl, h3⟩ := h
 obtain ⟨_, _, hcs, a1, a2, _⟩ := aAy.1 h3.at
 cases hcs
 exact ⟨w1, w2, rfl, a1.one, a2.one⟩

section
variable {pre : List PAttr} {a : PAttr} {n : Str} {vs : List Str} {done : Bool}
end
theorem EntryOk.rise {e : PEntry} (h : EntryOk e) : e.attrs.Pairwise fun a b => a.name < b.name := avS (fun j x hx => (h.2.2.1 j x hx).2.1)




structure PTreeOut where
 tree : PTree
 entries : List PEntry
 code : Int
def PTreeOut.u (o : PTreeOut) : U := .st [o.tree.u, .lst (o.entries.map PEntry.u), .int o.code]
abbrev avR : Sh := .st [aBN, .slice shEntry, .int .i64]
def TOut (H : List Ob) (o : PTreeOut) (q : V) (H' : List Ob) : Prop := ∃ T w1 w2 w3, q = .agg [w1, w2, w3, .int .i64 o.code] ∧ H' = H ++ T ∧ New H.length (H ++ T).length (H ++ T) avR [w1, w2, w3, .int .i64 o.code] o.u
theorem TOut.of {H G : List Ob} {t : PTree} {w1 w2 : V} (hT : ∃ T, G = H ++ T) (hn : New H.length G.length G aBN [w1, w2] t.u) : TOut H ⟨t, [], 0⟩ (.agg [w1, w2, .slc none 0, .int .i64 0]) (gcH H G (.agg [w1, w2, .slc none 0, .int .i64 0])) := by
 obtain ⟨T, rfl⟩ := hT
 have h2 : New H.length (H ++ T).length (H ++ T) avR [w1, w2, .slc none 0, .int .i64 0] (PTreeOut.u ⟨t, [], 0⟩) := New.st (News.cons (c1 := [w1, w2]) (m := (H ++ T).length) hn (News.nilS (News.int (by decide) News.nil)) (by simp) (Nat.le_refl _))
 obtain ⟨T', h3, h4⟩ := h2.gcA
 exact ⟨T', w1, w2, .slc none 0, rfl, h3, h4⟩
theorem DnOk.drop {l : List PRdn} (hd : DnOk l) (k : Nat) : DnOk (l.drop k) :=
 ⟨fun j x hx => hd.1 (k + j) x (by rw [List.getElem?_drop] at hx; exact hx), by have := hd.2; simp; omega⟩
end Go.Proofs.Try1
end
section
namespace Go.Proofs.Try1
open Go Go.Lite
attribute [-simp] aqY arP
attribute [local simp] arb arN aq6 aq9 aq7 aqQ
attribute [local simp low] ara
theorem aLZ {n a b : Int} {H : List Ob} : callW C 92 [.int .i64 n, .int .i64 a, .int .i64 b] H = some (.bool (dec (a ≤ n ∧ n ≤ b)), H) := by
 apply Ret.dec
 rw [aSe]
 by_cases h1 : a ≤ n
 ·by_cases h2 : n ≤ b
  ·simp [axA, Tryz.f92, h1, h2]
  ·simp [axA, Tryz.f92, h1, h2]
 ·simp [axA, Tryz.f92, h1]
theorem aGg {n : PNode} {H : List Ob} : callW C 272 [.agg n.cs] H = some (.bool (dec (NodeOk n)), H) := by
 apply Ret.dec
 rw [aMx]
 have c1 := aLZ (n := n.many) (a := 1) (b := 20) (H := H)
 have c2 := axd (t := n.attr) (H := H)
 have c3 := awE (t := n.value) (H := H)
 unfold NodeOk PNode.Inner
 by_cases o1 : n.op = 1
 ·by_cases g1 : n.attr = []
  ·by_cases g2 : n.value = []
   ·by_cases g3 : 1 ≤ n.many ∧ n.many ≤ 20
    ·rw [apK g3] at c1
     simp [aqv, Tryz.f272, o1, g1, g2, c1, g3]
    ·rw [apJ g3] at c1
     simp [aqv, Tryz.f272, o1, g1, g2, c1]
     omega
   ·have e2 : List.isEmpty n.value = false := by simpa using g2
    simp [aqv, Tryz.f272, o1, g1, g2, e2]
  ·have e1 : List.isEmpty n.attr = false := by simpa using g1
   simp [aqv, Tryz.f272, o1, g1, e1]
 by_cases o2 : n.op = 2
 ·by_cases g1 : n.attr = []
  ·by_cases g2 : n.value = []
   ·by_cases g3 : 1 ≤ n.many ∧ n.many ≤ 20
    ·rw [apK g3] at c1
     simp [aqv, Tryz.f272, o2, g1, g2, c1, g3]
    ·rw [apJ g3] at c1
     simp [aqv, Tryz.f272, o2, g1, g2, c1]
     omega
   ·have e2 : List.isEmpty n.value = false := by simpa using g2
    simp [aqv, Tryz.f272, o2, g1, g2, e2]
  ·have e1 : List.isEmpty n.attr = false := by simpa using g1
   simp [aqv, Tryz.f272, o2, g1, e1]
 by_cases o3 : n.op = 3
 ·by_cases g1 : n.attr = []
  ·by_cases g2 : n.value = []
   ·by_cases g3 : n.many = 1
    ·simp [aqv, Tryz.f272, o3, g1, g2, g3]
    ·simp [aqv, Tryz.f272, o3, g1, g2, g3]
   ·have e2 : List.isEmpty n.value = false := by simpa using g2
    simp [aqv, Tryz.f272, o3, g1, g2, e2]
  ·have e1 : List.isEmpty n.attr = false := by simpa using g1
   simp [aqv, Tryz.f272, o3, g1, e1]
 by_cases o5 : n.op = 5
 ·by_cases g1 : apV n.attr
  ·rw [apK g1] at c2
   by_cases g2 : n.value = []
   ·by_cases g3 : n.many = 0
    ·simp [aqv, Tryz.f272, o5, g1, g2, g3, c2]
    ·simp [aqv, Tryz.f272, o5, g1, g2, g3, c2]
   ·have e2 : List.isEmpty n.value = false := by simpa using g2
    simp [aqv, Tryz.f272, o5, g1, g2, c2, e2]
  ·rw [apJ g1] at c2
   simp [aqv, Tryz.f272, o5, g1, c2]
 by_cases o4 : n.op = 4 ∨ n.op = 6 ∨ n.op = 7 ∨ n.op = 8
 ·by_cases g1 : apV n.attr
  ·rw [apK g1] at c2
   by_cases g2 : ap2 n.value
   ·rw [apK g2] at c3
    by_cases g3 : n.many = 0
    ·rcases o4 with o4 | o4 | o4 | o4 <;> simp [aqv, Tryz.f272, o4, g1, g2, g3, c2, c3]
    ·rcases o4 with o4 | o4 | o4 | o4 <;> simp [aqv, Tryz.f272, o4, g1, g2, g3, c2, c3]
   ·rw [apJ g2] at c3
    rcases o4 with o4 | o4 | o4 | o4 <;> simp [aqv, Tryz.f272, o4, g1, g2, c2, c3]
  ·rw [apJ g1] at c2
   rcases o4 with o4 | o4 | o4 | o4 <;> simp [aqv, Tryz.f272, o4, g1, c2]
 ·obtain ⟨o6, o7, o8, o9⟩ : ¬ n.op = 4 ∧ ¬ n.op = 6 ∧ ¬ n.op = 7 ∧ ¬ n.op = 8 := ⟨fun h => o4 (.inl h), fun h => o4 (.inr (.inl h)), fun h => o4 (.inr (.inr (.inl h))), fun h => o4 (.inr (.inr (.inr h)))⟩
  simp [aqv, Tryz.f272, o1, o2, o3, o5, o6, o7, o8, o9]
noncomputable def aq0 : Option (Nat × Nat) → Int
 | some q => q.1
 | none => -1
theorem aFF {v : V} {f : List PNode} {H : List Ob} (h : aqT H v f) (hl : f.length ≤ 20) : ∀ d i : Nat, d ≤ 5 → i ≤ f.length →
  callW C 185 [v, .int .i64 i, .int .i64 (6 - d : Nat)] H = some (.int .i64 (aq0 (aqu f d i)), H)
 | 0, i, hd, hi => by
  suffices hs : Ret C 185 [v, .int .i64 i, .int .i64 (6 - 0 : Nat)] H fun q H' => q = .int .i64 (aq0 (aqu f 0 i)) ∧ H' = H by
   obtain ⟨q, H', hc, rfl, rfl⟩ := hs
   exact hc
  rw [aFI]
  by_cases g : i < f.length
  ·have g' : ¬ (f.length : Int) ≤ i := by omega
   simp [atO, Tryz.f185, h.len, g', aq0, aqu]
  ·have g' : (f.length : Int) ≤ i := by omega
   simp [atO, Tryz.f185, h.len, g', aq0, aqu]
 | d + 1, i, hd, hi => by
  suffices hs : Ret C 185 [v, .int .i64 i, .int .i64 (6 - (d + 1) : Nat)] H fun q H' => q = .int .i64 (aq0 (aqu f (d + 1) i)) ∧ H' = H by
   obtain ⟨q, H', hc, rfl, rfl⟩ := hs
   exact hc
  rw [aFI]
  have hdp : ¬ (5 : Int) < (6 - (d + 1) : Nat) := by omega
  have hdw : IntKind.i64.wrap (((6 - (d + 1) : Nat) : Int) + 1) = ((6 - d : Nat) : Int) := by rw [wrap_i64 (by omega) (by omega)]; omega
  generalize hdd : ((6 - (d + 1) : Nat) : Int) = dd at hdp hdw
  rcases Nat.lt_or_ge i f.length with g | g
  rotate_left
  ·have g' : (f.length : Int) ≤ i := by omega
   simp [atO, Tryz.f185, h.len, g', aq0, aqu, List.getElem?_eq_none g, hdd]
  have g' : ¬ (f.length : Int) ≤ i := by omega
  obtain ⟨x, hx⟩ : ∃ c, f[i]? = some c := ⟨f[i], by simp [g]⟩
  obtain ⟨id, o, e1, l0, l1, _, _, _, w4⟩ := ar1 h hx
  have l0' := l0 []
  have l1' := l1 []
  simp only [List.append_nil] at l0' l1'
  have c1 := aGg (n := x) (H := H)
  by_cases g1 : NodeOk x
  rotate_left
  ·rw [apJ g1] at c1
   simp [atO, Tryz.f185, h.len, g', hdp, e1, l1', c1, aq0, aqu, hx, apJ g1, hdd]
  have hm := g1.many_le
  rw [apK g1] at c1
  have hw : IntKind.i64.wrap ((i : Int) + 1) = ((i : Int) + 1) := wrap_i64 (by omega) (by omega)
  have l0'' : ∀ T : LT, T.one → ∀ r c, loadAt T ⟨r, c, H⟩ (.hp id (o + 3)) = some (.int .i64 x.many) := fun T hT r c => (l0' T hT r c).2.2.2
  have hgoal : aq0 (aqu f (d + 1) i) = aq0 (aqm (aqu f d) x.many.toNat (i + 1, 0)) := by
   show aq0 (match f[i]? with
    | none => none
    | some n => if dec (NodeOk n) = true then (aqm (aqu f d) n.many.toNat (i + 1, 0)).map fun p => (p.1, p.2 + 1) else none) = _
   rw [hx]
   simp only [apK g1, if_true]
   cases aqm (aqu f d) x.many.toNat (i + 1, 0) <;> rfl
  rw [hgoal]
  simp [atO, Tryz.f185, h.len, g', hdp, e1, l1', l0'', c1, hw, hdd]
  refine apT (fun k σ => ∃ (m : Nat) (p : Option (Nat × Nat)) (a : Int) (r : Nat → R), σ = ⟨r, 0, H⟩ ∧ r 0 = .val v ∧ r 1 = .val (.int .i64 a) ∧ r 2 = .val (.int .i64 dd) ∧ r 7 = .val (.int .i64 m) ∧ m ≤ 20 ∧ k = (if p.isSome then m else 0) ∧ a = aq0 p ∧ (∀ q, p = some q → q.1 ≤ f.length) ∧ (p.bind fun q => aqm (aqu f d) m q) = aqm (aqu f d) x.many.toNat (i + 1, 0)) ?_ x.many.toNat _ ⟨x.many.toNat, some (i + 1, 0), i + 1, _, rfl, by simp, by simp, by simp, by simp; omega, by omega, by simp, by simp [aq0], fun q e => by cases e; exact g, rfl⟩
  rintro k σ ⟨m, p, a, r, rfl, r0, r1, r2, r7, hm20, hk, ha, hq, hp⟩
  cases p with
  | none =>
   simp only [Option.isSome_none, Bool.false_eq_true, if_false] at hk
   subst hk
   simp only [Option.bind_none] at hp
   subst ha
   by_cases hm0 : 0 < m
   ·simp [r0, r1, r2, r7, hm0, aq0, ← hp]
   ·simp [r0, r1, r2, r7, hm0, aq0, ← hp]
  | some q =>
   simp only [Option.isSome_some, if_true] at hk
   subst hk
   simp only [Option.bind_some] at hp
   have hql := hq q rfl
   subst ha
   cases k with
   | zero =>
    have : q = q := rfl
    simp only [aqm] at hp
    simp [r0, r1, r2, r7, aq0, ← hp]
   | succ k =>
    have c2 := aFF h hl d q.1 (by omega) hql
    have hw2 : IntKind.i64.wrap (((k + 1 : Nat) : Int) - 1) = (k : Int) := by rw [wrap_i64 (by omega) (by omega)]; omega
    have hw3 : IntKind.i64.wrap ((k : Int) + 1 - 1) = (k : Int) := by rw [wrap_i64 (by omega) (by omega)]; omega
    have h0 : (0 : Int) < (k : Int) + 1 := by omega
    have h1 : (0 : Int) ≤ (q.1 : Int) := by omega
    cases hsub : aqu f d q.1 with
    | none =>
     rw [hsub] at c2
     simp only [aqm, hsub] at hp
     simp [r0, r1, r2, r7, h0, h1, aq0, c2, hw2, hw3, hdw]
     exact ⟨0, by omega, k, by rw [wrap_i64 (by omega) (by omega)], by omega, none, by simp, rfl, by simp, by simpa using hp⟩
    | some q2 =>
     rw [hsub] at c2
     simp only [aqm, hsub] at hp
     have hq2 := arl _ _ _ hsub
     simp [r0, r1, r2, r7, h0, h1, aq0, c2, hw2, hw3, hdw]
     exact ⟨k, by omega, k, by rw [wrap_i64 (by omega) (by omega)], by omega, some (q2.1, max q.2 q2.2), by simp, rfl, fun a b e => by cases e; exact hq2.2.1, by simpa using hp⟩
theorem auM {v : V} {f : List PNode} {H : List Ob} (h : aqT H v f) : callW C 91 [v] H = some (.bool (dec (FilterOk f)), H) := by
 apply Ret.dec
 rw [aPT]
 by_cases g : f.length ≤ 20
 rotate_left
 ·have g' : ¬ (f.length : Int) ≤ 20 := by omega
  simp [av1, Tryz.f91, h.len, g']
  exact fun h => g h.1
 have g' : (f.length : Int) ≤ 20 := by omega
 have c1 := aFF h g 5 0 (by omega) (by omega)
 simp only [Int.natCast_zero, show ((6 - 5 : Nat) : Int) = 1 from rfl] at c1
 cases hf : aqu f 5 0 with
 | none =>
  rw [hf] at c1
  have e : ¬ (-1 : Int) = (f.length : Int) := by omega
  simp [av1, Tryz.f91, h.len, g', c1, aq0, e]
  rintro ⟨_, x, hx⟩
  rw [hf] at hx
  cases hx
 | some q =>
  rw [hf] at c1
  by_cases e : q.1 = f.length
  ·have e' : (q.1 : Int) = f.length := by omega
   simp [av1, Tryz.f91, h.len, g', c1, aq0, e']
   exact ⟨g, q.2, by rw [hf, ← e]⟩
  ·have e' : ¬ (q.1 : Int) = f.length := by omega
   simp [av1, Tryz.f91, h.len, g', c1, aq0, e']
   rintro ⟨_, x, hx⟩
   rw [hf] at hx
   cases hx
   exact e rfl
noncomputable def aqg (i : Nat) : Option (Nat × Nat) → V
 | some q => .tup [.int .i64 ((q.1 - i : Nat) : Int), .int .i64 (q.2 : Int)]
 | none => .tup [.int .i64 0, .int .i64 0]
theorem aDL {v : V} {f : List PNode} {H : List Ob} (d i : Nat) (hi : i < f.length) (hl : f.length ≤ 100) (hdb : d ≤ 100) {x : PNode} (hx : f[i]? = some x) (h : aqT H v (f.drop i)) (hn : x.Inner) (hok : NodeOk x)
  (ih : ∀ (w : V) (j : Nat) (G : List Ob), i < j → j ≤ f.length → aqT G w (f.drop j) → callW C 191 [w] G = some (aqg j (aqu f d j), G)) :
  callW C 191 [v] H = some (aqg i (aqu f (d + 1) i), H) := by
 suffices hs : Ret C 191 [v] H fun q H' => q = aqg i (aqu f (d + 1) i) ∧ H' = H by
  obtain ⟨q, H', hc, rfl, rfl⟩ := hs
  exact hc
 rw [axY]
 obtain ⟨fs, hfs⟩ : ∃ fs, fs = f.drop i := ⟨_, rfl⟩
 have hfl : fs.length = f.length - i := by rw [hfs]; simp
 have hn0 : ¬ fs = [] := by intro h; rw [h] at hfl; simp at hfl; omega
 have hn0' : ¬ (fs.length : Int) = 0 := by omega
 have hx0 : fs[0]? = some x := by rw [hfs, List.getElem?_drop]; exact hx
 rw [← hfs] at h
 obtain ⟨id, o, e1, l0, l1, _, _, _, w4⟩ := ar1 h hx0
 have e1' := fun (e s b : Nat) (z : List V) (ty : Nat → LT) => e1 e s b z ty .i64
 have l1' := l1 []
 simp only [List.append_nil, Int.natCast_zero] at l1' e1'
 have hm : x.attr = [] ∧ x.value = [] ∧ 1 ≤ x.many ∧ x.many ≤ 20 ∧ (x.op = 3 → x.many = 1) := by
  rcases hok with ⟨_, a⟩ | ⟨a, _⟩ | ⟨a, _⟩
  ·exact a
  ·unfold PNode.Inner at hn; omega
  ·unfold PNode.Inner at hn; omega
 obtain ⟨m1, m2, m3, m4, m5⟩ := hm
 have m3' : ¬ x.many < 1 := by omega
 have m4' : ¬ 20 < x.many := by omega
 have hgoal : aqg i (aqu f (d + 1) i) = aqg i ((aqm (aqu f d) x.many.toNat (i + 1, 0)).map fun p => (p.1, p.2 + 1)) := by
  show aqg i (match f[i]? with
   | none => none
   | some n => if dec (NodeOk n) = true then (aqm (aqu f d) n.many.toNat (i + 1, 0)).map fun p => (p.1, p.2 + 1) else none) = _
  rw [hx]
  simp only [apK hok, if_true]
 rw [hgoal]
 have hmn : x.many = (x.many.toNat : Int) := by omega
 have hmb : x.many.toNat ≤ 20 := by omega
 obtain ⟨mm, hmm⟩ : ∃ mm, mm = x.many.toNat := ⟨_, rfl⟩
 rw [← hmm] at hmn hmb ⊢
 rcases hn with ho | ho | ho
 ·simp [ap8, Tryz.f191, apN, apG, apQ, apE, h.len, hn0, hn0', e1', l1', ho, m1, m2, m3', m4']
  refine apT (fun k σ => ∃ (p : Nat × Nat) (r : Nat → R), σ = ⟨r, 1, H⟩ ∧ r 0 = .val v ∧ r 5 = .val (.int .i64 ((p.1 - i : Nat) : Int)) ∧ r 6 = .val (.int .i64 (p.2 : Int)) ∧ r 50 = .val (.int .i64 (mm : Int)) ∧ k ≤ mm ∧ r 51 = .val (.int .i64 ((mm - k : Nat) : Int)) ∧ i < p.1 ∧ p.1 ≤ f.length ∧ p.2 ≤ d ∧ aqm (aqu f d) k p = aqm (aqu f d) mm (i + 1, 0)) ?_ mm _ ⟨(i + 1, 0), _, rfl, by simp, by simp, by simp, by simp [hmn], Nat.le_refl _, by simp, by simp, by simp; omega, by simp, rfl⟩
  rintro k σ ⟨p, r, rfl, r0, r5, r6, r50, hkm, r51, hip, hpl, hpd, hp⟩
  cases k with
  | zero =>
   have e1 : ¬ ((mm - 0 : Nat) : Int) < mm := by omega
   simp only [aqm] at hp
   have hw : IntKind.i64.wrap ((p.2 : Int) + 1) = ((p.2 + 1 : Nat) : Int) := by rw [wrap_i64 (by omega) (by omega)]; omega
   simp [r0, r5, r6, r50, r51, ← hp, aqg, hw]
  | succ k =>
   have e1 : ((mm - (k + 1) : Nat) : Int) < mm := by omega
   have hw1 : IntKind.i64.wrap (((mm - (k + 1) : Nat) : Int) + 1) = ((mm - k : Nat) : Int) := by rw [wrap_i64 (by omega) (by omega)]; omega
   obtain ⟨ids, off, own, cells, hv, hcell, hd⟩ := h.drop (k := p.1 - i) (by omega) (by omega)
   have hdj : fs.drop (p.1 - i) = f.drop p.1 := by rw [hfs, List.drop_drop]; congr 1; omega
   rw [hdj] at hd
   have hst : apX H ids 4 = true := by simp [apX, hcell]
   have hsz : shNode.size = 4 := rfl
   rw [hsz] at hd
   have c2 := ih _ p.1 H hip hpl hd
   have hle : p.1 - i ≤ fs.length := by omega
   cases hsub : aqu f d p.1 with
   | none =>
    rw [hsub] at c2
    simp only [aqm, hsub] at hp
    simp only [aqg] at c2
    simp [r0, r5, r6, r50, r51, e1, hv, hst, hle, c2, ← hp, aqg]
   | some q =>
    rw [hsub] at c2
    simp only [aqm, hsub] at hp
    simp only [aqg] at c2
    have hq := arl _ _ _ hsub
    have e2 : ¬ ((q.1 - p.1 : Nat) : Int) = 0 := by omega
    have e2' : ¬ (q.1 - p.1 : Nat) = 0 := by omega
    have hw2 : IntKind.i64.wrap (((p.1 - i : Nat) : Int) + ((q.1 - p.1 : Nat) : Int)) = ((q.1 - i : Nat) : Int) := by rw [wrap_i64 (by omega) (by omega)]; omega
    have hmx : aw0 [.int .i64 (p.2 : Int), .int .i64 (q.2 : Int)] = some (.int .i64 ((max p.2 q.2 : Nat) : Int)) := by
     simp [aw0]
     omega
    simp [r0, r5, r6, r50, r51, e1, hv, hst, hle, c2, e2, e2', hw1, hw2, hmx]
    exact ⟨k, by omega, q.1, rfl, max p.2 q.2, rfl, by omega, rfl, by omega, by omega, by omega, hp⟩
 ·simp [ap8, Tryz.f191, apN, apG, apQ, apE, h.len, hn0, hn0', e1', l1', ho, m1, m2, m3', m4']
  refine apT (fun k σ => ∃ (p : Nat × Nat) (r : Nat → R), σ = ⟨r, 1, H⟩ ∧ r 0 = .val v ∧ r 5 = .val (.int .i64 ((p.1 - i : Nat) : Int)) ∧ r 6 = .val (.int .i64 (p.2 : Int)) ∧ r 50 = .val (.int .i64 (mm : Int)) ∧ k ≤ mm ∧ r 51 = .val (.int .i64 ((mm - k : Nat) : Int)) ∧ i < p.1 ∧ p.1 ≤ f.length ∧ p.2 ≤ d ∧ aqm (aqu f d) k p = aqm (aqu f d) mm (i + 1, 0)) ?_ mm _ ⟨(i + 1, 0), _, rfl, by simp, by simp, by simp, by simp [hmn], Nat.le_refl _, by simp, by simp, by simp; omega, by simp, rfl⟩
  rintro k σ ⟨p, r, rfl, r0, r5, r6, r50, hkm, r51, hip, hpl, hpd, hp⟩
  cases k with
  | zero =>
   have e1 : ¬ ((mm - 0 : Nat) : Int) < mm := by omega
   simp only [aqm] at hp
   have hw : IntKind.i64.wrap ((p.2 : Int) + 1) = ((p.2 + 1 : Nat) : Int) := by rw [wrap_i64 (by omega) (by omega)]; omega
   simp [r0, r5, r6, r50, r51, ← hp, aqg, hw]
  | succ k =>
   have e1 : ((mm - (k + 1) : Nat) : Int) < mm := by omega
   have hw1 : IntKind.i64.wrap (((mm - (k + 1) : Nat) : Int) + 1) = ((mm - k : Nat) : Int) := by rw [wrap_i64 (by omega) (by omega)]; omega
   obtain ⟨ids, off, own, cells, hv, hcell, hd⟩ := h.drop (k := p.1 - i) (by omega) (by omega)
   have hdj : fs.drop (p.1 - i) = f.drop p.1 := by rw [hfs, List.drop_drop]; congr 1; omega
   rw [hdj] at hd
   have hst : apX H ids 4 = true := by simp [apX, hcell]
   have hsz : shNode.size = 4 := rfl
   rw [hsz] at hd
   have c2 := ih _ p.1 H hip hpl hd
   have hle : p.1 - i ≤ fs.length := by omega
   cases hsub : aqu f d p.1 with
   | none =>
    rw [hsub] at c2
    simp only [aqm, hsub] at hp
    simp only [aqg] at c2
    simp [r0, r5, r6, r50, r51, e1, hv, hst, hle, c2, ← hp, aqg]
   | some q =>
    rw [hsub] at c2
    simp only [aqm, hsub] at hp
    simp only [aqg] at c2
    have hq := arl _ _ _ hsub
    have e2 : ¬ ((q.1 - p.1 : Nat) : Int) = 0 := by omega
    have e2' : ¬ (q.1 - p.1 : Nat) = 0 := by omega
    have hw2 : IntKind.i64.wrap (((p.1 - i : Nat) : Int) + ((q.1 - p.1 : Nat) : Int)) = ((q.1 - i : Nat) : Int) := by rw [wrap_i64 (by omega) (by omega)]; omega
    have hmx : aw0 [.int .i64 (p.2 : Int), .int .i64 (q.2 : Int)] = some (.int .i64 ((max p.2 q.2 : Nat) : Int)) := by
     simp [aw0]
     omega
    simp [r0, r5, r6, r50, r51, e1, hv, hst, hle, c2, e2, e2', hw1, hw2, hmx]
    exact ⟨k, by omega, q.1, rfl, max p.2 q.2, rfl, by omega, rfl, by omega, by omega, by omega, hp⟩
 ·have m5' := m5 ho
  simp [ap8, Tryz.f191, apN, apG, apQ, apE, h.len, hn0, hn0', e1', l1', ho, m1, m2, m5']
  refine apT (fun k σ => ∃ (p : Nat × Nat) (r : Nat → R), σ = ⟨r, 1, H⟩ ∧ r 0 = .val v ∧ r 5 = .val (.int .i64 ((p.1 - i : Nat) : Int)) ∧ r 6 = .val (.int .i64 (p.2 : Int)) ∧ r 50 = .val (.int .i64 (mm : Int)) ∧ k ≤ mm ∧ r 51 = .val (.int .i64 ((mm - k : Nat) : Int)) ∧ i < p.1 ∧ p.1 ≤ f.length ∧ p.2 ≤ d ∧ aqm (aqu f d) k p = aqm (aqu f d) mm (i + 1, 0)) ?_ mm _ ⟨(i + 1, 0), _, rfl, by simp, by simp, by simp, by simp; omega, Nat.le_refl _, by simp, by simp, by simp; omega, by simp, rfl⟩
  rintro k σ ⟨p, r, rfl, r0, r5, r6, r50, hkm, r51, hip, hpl, hpd, hp⟩
  cases k with
  | zero =>
   have e1 : ¬ ((mm - 0 : Nat) : Int) < mm := by omega
   simp only [aqm] at hp
   have hw : IntKind.i64.wrap ((p.2 : Int) + 1) = ((p.2 + 1 : Nat) : Int) := by rw [wrap_i64 (by omega) (by omega)]; omega
   simp [r0, r5, r6, r50, r51, ← hp, aqg, hw]
  | succ k =>
   have e1 : ((mm - (k + 1) : Nat) : Int) < mm := by omega
   have hw1 : IntKind.i64.wrap (((mm - (k + 1) : Nat) : Int) + 1) = ((mm - k : Nat) : Int) := by rw [wrap_i64 (by omega) (by omega)]; omega
   obtain ⟨ids, off, own, cells, hv, hcell, hd⟩ := h.drop (k := p.1 - i) (by omega) (by omega)
   have hdj : fs.drop (p.1 - i) = f.drop p.1 := by rw [hfs, List.drop_drop]; congr 1; omega
   rw [hdj] at hd
   have hst : apX H ids 4 = true := by simp [apX, hcell]
   have hsz : shNode.size = 4 := rfl
   rw [hsz] at hd
   have c2 := ih _ p.1 H hip hpl hd
   have hle : p.1 - i ≤ fs.length := by omega
   cases hsub : aqu f d p.1 with
   | none =>
    rw [hsub] at c2
    simp only [aqm, hsub] at hp
    simp only [aqg] at c2
    simp [r0, r5, r6, r50, r51, e1, hv, hst, hle, c2, ← hp, aqg]
   | some q =>
    rw [hsub] at c2
    simp only [aqm, hsub] at hp
    simp only [aqg] at c2
    have hq := arl _ _ _ hsub
    have e2 : ¬ ((q.1 - p.1 : Nat) : Int) = 0 := by omega
    have e2' : ¬ (q.1 - p.1 : Nat) = 0 := by omega
    have hw2 : IntKind.i64.wrap (((p.1 - i : Nat) : Int) + ((q.1 - p.1 : Nat) : Int)) = ((q.1 - i : Nat) : Int) := by rw [wrap_i64 (by omega) (by omega)]; omega
    have hmx : aw0 [.int .i64 (p.2 : Int), .int .i64 (q.2 : Int)] = some (.int .i64 ((max p.2 q.2 : Nat) : Int)) := by
     simp [aw0]
     omega
    simp [r0, r5, r6, r50, r51, e1, hv, hst, hle, c2, e2, e2', hw1, hw2, hmx]
    exact ⟨k, by omega, q.1, rfl, max p.2 q.2, rfl, by omega, rfl, by omega, by omega, by omega, hp⟩
theorem aFq {f : List PNode} {i : Nat} {x : PNode} (hx : f[i]? = some x) (d : Nat) (h : ¬ x.Inner) : aqu f (d + 1) i = if dec (NodeOk x) = true then some (i + 1, 1) else none := by
 show (match f[i]? with
   | none => none
   | some n => if dec (NodeOk n) = true then (aqm (aqu f d) n.many.toNat (i + 1, 0)).map fun (p : Nat × Nat) => (p.1, p.2 + 1) else none) = _
 rw [hx]
 by_cases hok : NodeOk x
 ·have hm : x.many = 0 := by
   rcases hok with ⟨a, _⟩ | ⟨_, _, _, a⟩ | ⟨_, _, _, a⟩
   ·exact absurd a h
   ·exact a
   ·exact a
  simp only [apK hok, if_true, hm]
  rfl
 ·simp only [apJ hok, Bool.false_eq_true, if_false]
theorem aEt {f : List PNode} {i : Nat} {x : PNode} (hx : f[i]? = some x) (d : Nat) (h : ¬ NodeOk x) : aqu f (d + 1) i = none := by
 show (match f[i]? with
   | none => none
   | some n => if dec (NodeOk n) = true then (aqm (aqu f d) n.many.toNat (i + 1, 0)).map fun (p : Nat × Nat) => (p.1, p.2 + 1) else none) = _
 rw [hx]
 simp only [apJ h, Bool.false_eq_true, if_false]
theorem aBw {v : V} {f : List PNode} {H : List Ob} (d i : Nat) (hi : i < f.length) {x : PNode} (hx : f[i]? = some x) (h : aqT H v (f.drop i)) (hn : x.op = 4 ∨ x.op = 5 ∨ x.op = 6 ∨ x.op = 7 ∨ x.op = 8) :
  callW C 191 [v] H = some (aqg i (aqu f (d + 1) i), H) := by
 suffices hs : Ret C 191 [v] H fun q H' => q = aqg i (aqu f (d + 1) i) ∧ H' = H by
  obtain ⟨q, H', hc, rfl, rfl⟩ := hs
  exact hc
 rw [axY]
 obtain ⟨fs, hfs⟩ : ∃ fs, fs = f.drop i := ⟨_, rfl⟩
 have hfl : fs.length = f.length - i := by rw [hfs]; simp
 have hn0 : ¬ fs = [] := by intro h; rw [h] at hfl; simp at hfl; omega
 have hn0' : ¬ (fs.length : Int) = 0 := by omega
 have hx0 : fs[0]? = some x := by rw [hfs, List.getElem?_drop]; exact hx
 rw [← hfs] at h
 obtain ⟨id, o, e1, l0, l1, _, _, _, w4⟩ := ar1 h hx0
 have e1' := fun (e s b : Nat) (z : List V) (ty : Nat → LT) => e1 e s b z ty .i64
 have l1' := l1 []
 simp only [List.append_nil, Int.natCast_zero] at l1' e1'
 have hni : ¬ x.Inner := by unfold PNode.Inner; omega
 rw [aFq hx d hni]
 have c2 := axs (t := x.attr) (H := H)
 have c3 := awt (t := x.value) (H := H)
 have hok : NodeOk x ↔ x.many = 0 ∧ apV x.attr ∧ (x.op = 5 ∧ x.value = [] ∨ x.op ≠ 5 ∧ ap2 x.value) := by
  unfold NodeOk
  constructor
  ·rintro (⟨a, _⟩ | ⟨a, b, c, d⟩ | ⟨a, b, c, d⟩)
   ·exact absurd a hni
   ·exact ⟨d, b, .inl ⟨a, c⟩⟩
   ·exact ⟨d, b, .inr ⟨by omega, c⟩⟩
  ·rintro ⟨a, b, ⟨c, d⟩ | ⟨c, d⟩⟩
   ·exact .inr (.inl ⟨c, b, d, a⟩)
   ·exact .inr (.inr ⟨by omega, b, d, a⟩)
 have hvn : ∀ (b : Bool), (b = true ↔ NodeOk x) → dec (NodeOk x) = b := by
  intro b hb
  cases b
  ·exact apJ (fun h => by have := hb.2 h; simp at this)
  ·exact apK (hb.1 rfl)
 by_cases hv : x.op = 5 ∧ x.value = [] ∨ x.op ≠ 5 ∧ ap2 x.value
 rotate_left
 ·rw [apJ (fun h => hv (hok.1 h).2.2)]
  by_cases o5 : x.op = 5
  ·have g2 : ¬ x.value = [] := fun h => hv (.inl ⟨o5, h⟩)
   have e2 : List.isEmpty x.value = false := by simpa using g2
   simp [ap8, Tryz.f191, apN, apG, apQ, apE, h.len, hn0, hn0', e1', l1', o5, g2, e2, aqg]
  ·have g2 : ¬ ap2 x.value := fun h => hv (.inr ⟨o5, h⟩)
   rw [apJ g2] at c3
   rcases hn with o4 | o4 | o4 | o4 | o4
   ·simp [ap8, Tryz.f191, apN, apG, apQ, apE, h.len, hn0, hn0', e1', l1', o4, c3, aqg]
   ·exact absurd o4 o5
   ·simp [ap8, Tryz.f191, apN, apG, apQ, apE, h.len, hn0, hn0', e1', l1', o4, c3, aqg]
   ·simp [ap8, Tryz.f191, apN, apG, apQ, apE, h.len, hn0, hn0', e1', l1', o4, c3, aqg]
   ·simp [ap8, Tryz.f191, apN, apG, apQ, apE, h.len, hn0, hn0', e1', l1', o4, c3, aqg]
 by_cases hm : x.many = 0
 rotate_left
 ·rw [apJ (fun h => hm (hok.1 h).1)]
  rcases hv with ⟨o5, hv⟩ | ⟨o5, hv⟩
  ·simp [ap8, Tryz.f191, apN, apG, apQ, apE, h.len, hn0, hn0', e1', l1', o5, hv, hm, aqg]
  ·rw [apK hv] at c3
   rcases hn with o4 | o4 | o4 | o4 | o4
   ·simp [ap8, Tryz.f191, apN, apG, apQ, apE, h.len, hn0, hn0', e1', l1', o4, c3, hm, aqg]
   ·exact absurd o4 o5
   ·simp [ap8, Tryz.f191, apN, apG, apQ, apE, h.len, hn0, hn0', e1', l1', o4, c3, hm, aqg]
   ·simp [ap8, Tryz.f191, apN, apG, apQ, apE, h.len, hn0, hn0', e1', l1', o4, c3, hm, aqg]
   ·simp [ap8, Tryz.f191, apN, apG, apQ, apE, h.len, hn0, hn0', e1', l1', o4, c3, hm, aqg]
 by_cases g1 : apV x.attr
 ·rw [apK g1] at c2
  rw [apK (hok.2 ⟨hm, g1, hv⟩)]
  rcases hv with ⟨o5, hv⟩ | ⟨o5, hv⟩
  ·simp [ap8, Tryz.f191, apN, apG, apQ, apE, h.len, hn0, hn0', e1', l1', o5, hv, hm, c2, aqg]
  ·rw [apK hv] at c3
   rcases hn with o4 | o4 | o4 | o4 | o4
   ·simp [ap8, Tryz.f191, apN, apG, apQ, apE, h.len, hn0, hn0', e1', l1', o4, c3, hm, c2, aqg]
   ·exact absurd o4 o5
   ·simp [ap8, Tryz.f191, apN, apG, apQ, apE, h.len, hn0, hn0', e1', l1', o4, c3, hm, c2, aqg]
   ·simp [ap8, Tryz.f191, apN, apG, apQ, apE, h.len, hn0, hn0', e1', l1', o4, c3, hm, c2, aqg]
   ·simp [ap8, Tryz.f191, apN, apG, apQ, apE, h.len, hn0, hn0', e1', l1', o4, c3, hm, c2, aqg]
 ·rw [apJ g1] at c2
  rw [apJ (fun h => g1 (hok.1 h).2.1)]
  rcases hv with ⟨o5, hv⟩ | ⟨o5, hv⟩
  ·simp [ap8, Tryz.f191, apN, apG, apQ, apE, h.len, hn0, hn0', e1', l1', o5, hv, hm, c2, aqg]
  ·rw [apK hv] at c3
   rcases hn with o4 | o4 | o4 | o4 | o4
   ·simp [ap8, Tryz.f191, apN, apG, apQ, apE, h.len, hn0, hn0', e1', l1', o4, c3, hm, c2, aqg]
   ·exact absurd o4 o5
   ·simp [ap8, Tryz.f191, apN, apG, apQ, apE, h.len, hn0, hn0', e1', l1', o4, c3, hm, c2, aqg]
   ·simp [ap8, Tryz.f191, apN, apG, apQ, apE, h.len, hn0, hn0', e1', l1', o4, c3, hm, c2, aqg]
   ·simp [ap8, Tryz.f191, apN, apG, apQ, apE, h.len, hn0, hn0', e1', l1', o4, c3, hm, c2, aqg]
theorem aC3 {v : V} {f : List PNode} {H : List Ob} (d i : Nat) (hi : i < f.length) {x : PNode} (hx : f[i]? = some x) (h : aqT H v (f.drop i)) (hn : x.Inner) (hb : ¬ NodeOk x) :
  callW C 191 [v] H = some (aqg i (aqu f (d + 1) i), H) := by
 suffices hs : Ret C 191 [v] H fun q H' => q = aqg i (aqu f (d + 1) i) ∧ H' = H by
  obtain ⟨q, H', hc, rfl, rfl⟩ := hs
  exact hc
 rw [axY]
 obtain ⟨fs, hfs⟩ : ∃ fs, fs = f.drop i := ⟨_, rfl⟩
 have hfl : fs.length = f.length - i := by rw [hfs]; simp
 have hn0 : ¬ fs = [] := by intro h; rw [h] at hfl; simp at hfl; omega
 have hn0' : ¬ (fs.length : Int) = 0 := by omega
 have hx0 : fs[0]? = some x := by rw [hfs, List.getElem?_drop]; exact hx
 rw [← hfs] at h
 obtain ⟨id, o, e1, l0, l1, _, _, _, w4⟩ := ar1 h hx0
 have e1' := fun (e s b : Nat) (z : List V) (ty : Nat → LT) => e1 e s b z ty .i64
 have l1' := l1 []
 simp only [List.append_nil, Int.natCast_zero] at l1' e1'
 rw [aEt hx d hb]
 by_cases g1 : x.attr = []
 rotate_left
 ·have e1 : List.isEmpty x.attr = false := by simpa using g1
  rcases hn with ho | ho | ho <;> simp [ap8, Tryz.f191, apN, apG, apQ, apE, h.len, hn0, hn0', e1', l1', ho, g1, e1, aqg]
 by_cases g2 : x.value = []
 rotate_left
 ·have e2 : List.isEmpty x.value = false := by simpa using g2
  rcases hn with ho | ho | ho <;> simp [ap8, Tryz.f191, apN, apG, apQ, apE, h.len, hn0, hn0', e1', l1', ho, g1, g2, e2, aqg]
 by_cases g3 : x.many < 1
 ·rcases hn with ho | ho | ho <;> simp [ap8, Tryz.f191, apN, apG, apQ, apE, h.len, hn0, hn0', e1', l1', ho, g1, g2, g3, aqg]
 by_cases g4 : 20 < x.many
 ·by_cases g5 : x.many = 1
  ·omega
  ·rcases hn with ho | ho | ho <;> simp [ap8, Tryz.f191, apN, apG, apQ, apE, h.len, hn0, hn0', e1', l1', ho, g1, g2, g3, g4, g5, aqg]
 by_cases o3 : x.op = 3
 ·by_cases g5 : x.many = 1
  ·exact absurd (.inl ⟨hn, g1, g2, by omega, by omega, fun _ => g5⟩) hb
  ·simp [ap8, Tryz.f191, apN, apG, apQ, apE, h.len, hn0, hn0', e1', l1', o3, g1, g2, g3, g4, g5, aqg]
 ·exact absurd (.inl ⟨hn, g1, g2, by omega, by omega, fun h => absurd h o3⟩) hb
theorem aDm {v : V} {f : List PNode} {H : List Ob} (d i : Nat) (hi : i < f.length) {x : PNode} (hx : f[i]? = some x) (h : aqT H v (f.drop i)) (hn : ¬ x.Inner) (ho : ¬ (x.op = 4 ∨ x.op = 5 ∨ x.op = 6 ∨ x.op = 7 ∨ x.op = 8)) (hb : ¬ NodeOk x) :
  callW C 191 [v] H = some (aqg i (aqu f (d + 1) i), H) := by
 suffices hs : Ret C 191 [v] H fun q H' => q = aqg i (aqu f (d + 1) i) ∧ H' = H by
  obtain ⟨q, H', hc, rfl, rfl⟩ := hs
  exact hc
 rw [axY]
 obtain ⟨fs, hfs⟩ : ∃ fs, fs = f.drop i := ⟨_, rfl⟩
 have hfl : fs.length = f.length - i := by rw [hfs]; simp
 have hn0 : ¬ fs = [] := by intro h; rw [h] at hfl; simp at hfl; omega
 have hn0' : ¬ (fs.length : Int) = 0 := by omega
 have hx0 : fs[0]? = some x := by rw [hfs, List.getElem?_drop]; exact hx
 rw [← hfs] at h
 obtain ⟨id, o, e1, l0, l1, _, _, _, w4⟩ := ar1 h hx0
 have e1' := fun (e s b : Nat) (z : List V) (ty : Nat → LT) => e1 e s b z ty .i64
 have l1' := l1 []
 simp only [List.append_nil, Int.natCast_zero] at l1' e1'
 rw [aEt hx d hb]
 unfold PNode.Inner at hn
 obtain ⟨o1, o2, o3⟩ : ¬ x.op = 1 ∧ ¬ x.op = 2 ∧ ¬ x.op = 3 := ⟨fun h => hn (.inl h), fun h => hn (.inr (.inl h)), fun h => hn (.inr (.inr h))⟩
 obtain ⟨o4, o5, o6, o7, o8⟩ : ¬ x.op = 4 ∧ ¬ x.op = 5 ∧ ¬ x.op = 6 ∧ ¬ x.op = 7 ∧ ¬ x.op = 8 := by omega
 simp [ap8, Tryz.f191, apN, apG, apQ, apE, h.len, hn0, hn0', e1', l1', o1, o2, o3, o4, o5, o6, o7, o8, aqg]
theorem aDn {f : List PNode} (hl : f.length ≤ 100) : ∀ (d : Nat) (v : V) (i : Nat) (H : List Ob), d ≤ 100 → i ≤ f.length → f.length - i ≤ d → aqT H v (f.drop i) →
  callW C 191 [v] H = some (aqg i (aqu f d i), H) := by
 intro d
 induction d with
 | zero =>
  intro v i H hd hi hfi h
  suffices hs : Ret C 191 [v] H fun q H' => q = aqg i (aqu f 0 i) ∧ H' = H by
   obtain ⟨q, H', hc, rfl, rfl⟩ := hs
   exact hc
  rw [axY]
  have he : f.drop i = [] := by simp; omega
  rw [he] at h
  have hlen := h.len (e := 226) (s := 1) (b := 24) (z := [.slc none 0])
  simp [ap8, Tryz.f191, h.len, aqg, aqu]
 | succ d ih =>
  intro v i H hd hi hfi h
  rcases Nat.lt_or_ge i f.length with g | g
  rotate_left
  ·suffices hs : Ret C 191 [v] H fun q H' => q = aqg i (aqu f (d + 1) i) ∧ H' = H by
    obtain ⟨q, H', hc, rfl, rfl⟩ := hs
    exact hc
   rw [axY]
   have he : f.drop i = [] := by simp; omega
   rw [he] at h
   simp [ap8, Tryz.f191, h.len, aqg, aqu, List.getElem?_eq_none g]
  obtain ⟨x, hx⟩ : ∃ c, f[i]? = some c := ⟨f[i], by simp [g]⟩
  by_cases hn : x.Inner
  ·by_cases hok : NodeOk x
   ·exact aDL d i g hl (by omega) hx h hn hok fun w j G h1 h2 h3 => ih w j G (by omega) h2 (by omega) h3
   ·exact aC3 d i g hx h hn hok
  ·by_cases hop : x.op = 4 ∨ x.op = 5 ∨ x.op = 6 ∨ x.op = 7 ∨ x.op = 8
   ·exact aBw d i g hx h hop
   ·have hok : ¬ NodeOk x := by
     rintro (⟨a, _⟩ | ⟨a, _⟩ | ⟨a, _⟩)
     ·exact hn a
     ·omega
     ·omega
    exact aDm d i g hx h hn hop hok
theorem axE {v : V} {f : List PNode} {H : List Ob} (h : aqT H v f) : callW C 100 [v] H = some (.bool (dec (FilterOk f)), H) := by
 apply Ret.dec
 rw [aNo]
 by_cases g : f.length ≤ 20
 rotate_left
 ·have g' : (20 : Int) < f.length := by omega
  simp [atx, Tryz.f100, h.len, g']
  exact fun h => g h.1
 have g' : ¬ (20 : Int) < f.length := by omega
 have c1 := aDn (f := f) (by omega) 20 v 0 H (by omega) (by omega) (by omega) h
 rw [aC0]
 cases hf : aqu f 20 0 with
 | none =>
  rw [hf] at c1
  simp only [aqg] at c1
  simp [atx, Tryz.f100, h.len, g', c1]
 | some q =>
  rw [hf] at c1
  simp only [aqg, Nat.sub_zero] at c1
  have hq := arl _ _ _ hf
  have h0 : 0 < q.1 := by omega
  by_cases e : q.1 = f.length
  ·have h1 : 0 < f.length := by omega
   by_cases e5 : q.2 ≤ 5
   ·have e5' : (q.2 : Int) ≤ 5 := by omega
    simp [atx, Tryz.f100, h.len, g', c1, e, h1, e5']
    exact ⟨g, q.2, by rw [← e], e5⟩
   ·have e5' : ¬ (q.2 : Int) ≤ 5 := by omega
    simp [atx, Tryz.f100, h.len, g', c1, e, h1, e5']
    intro _ x hx
    rw [hx] at e5
    exact Nat.lt_of_not_le e5
  ·have e' : ¬ (q.1 : Int) = f.length := by omega
   simp [atx, Tryz.f100, h.len, g', c1, e, e', h0]
   intro _ x hx
   rw [hx] at e
   exact absurd rfl e
theorem aE5 {n : PNode} {H : List Ob} : callW C 225 [.agg n.cs] H = some (.bool (dec n.Inner), H) := by
 apply Ret.dec
 rw [aJ2]
 unfold PNode.Inner
 by_cases o1 : n.op = 1
 ·simp [auo, Tryz.f225, o1]
 by_cases o2 : n.op = 2
 ·simp [auo, Tryz.f225, o2]
 by_cases o3 : n.op = 3
 ·simp [auo, Tryz.f225, o3]
 ·simp [auo, Tryz.f225, o1, o2, o3]
def aLK (n : Int) : Int := if n = 0 then 1 else if n = 1 then 0 else 2
end Go.Proofs.Try1
end
section
namespace Go.Lite
open Go
section
variable {α : Type} {G : List Ob} {sh : Sh} {f : α → U} {v : V} {l : List α} {F : List Nat}
theorem aBl {D : List V} {s i j : Nat} (h : j * s + s ≤ i * s) : ((D.take (i * s)).drop (j * s)).take s = (D.drop (j * s)).take s := by
 apply List.ext_getElem?
 intro q
 by_cases hq : q < s
 ·rw [List.getElem?_take_of_lt hq, List.getElem?_take_of_lt hq, List.getElem?_drop, List.getElem?_take_of_lt (by omega), List.getElem?_drop]
 ·rw [List.getElem?_eq_none (by simp; omega), List.getElem?_eq_none (by simp; omega)]
end
section
variable {α : Type} {G : List Ob} {sh : Sh} {f : α → U} {v : V} {l : List α} {F : List Nat}
end
section
variable {α : Type} {G : List Ob} {sh : Sh} {f : α → U} {v : V} {l : List α} {F : List Nat}
end
def Rw (s : Nat) (B G : List Ob) (v : V) (n : Nat) (cs : List V) : Prop :=
 (∃ T, G = B ++ T) ∧ cs.length = n * s ∧ ((v = .slc none 0 ∧ n = 0) ∨ ∃ id, v = .slc (some (id, 0)) n ∧ B.length ≤ id ∧ G[id]? = some (.mk true s cs))
section
variable {s n m : Nat} {B G : List Ob} {v : V} {cs xs : List V}
theorem Rw.nil : Rw s B B (.slc none 0) 0 [] := ⟨⟨[], by simp⟩, by simp, .inl ⟨rfl, rfl⟩⟩
theorem Rw.init (hB : ∃ T, G = B ++ T) : Rw s B (G ++ [.mk true s []]) (.slc (some (G.length, 0)) 0) 0 [] := by
 obtain ⟨T, rfl⟩ := hB
 exact ⟨⟨T ++ [.mk true s []], by simp⟩, by simp, .inr ⟨(B ++ T).length, rfl, by simp, get_last⟩⟩
theorem Rw.pre (h : Rw s B G v n cs) : ∃ T, G = B ++ T := h.1
theorem Rw.ext {T : List Ob} (h : Rw s B G v n cs) : Rw s B (G ++ T) v n cs := by
 obtain ⟨⟨S, rfl⟩, h2, h3⟩ := h
 exact ⟨⟨S ++ T, by simp⟩, h2, h3.imp id fun ⟨id, q1, q2, q3⟩ => ⟨id, q1, q2, aqf _ _ q3⟩⟩
theorem Rw.one (h : Rw s B G v n cs) : ap5 v = true ∧ cellsOf v = some [v] := by
 rcases h.2.2 with ⟨rfl, _⟩ | ⟨id, rfl, _⟩ <;> exact ⟨rfl, rfl⟩
theorem Rw.many (h : Rw s B G v n cs) {d : LD} {by_ : Nat} {z : List V} {x : V} (hx : aqc ⟨d, s, by_, z⟩ G x = some (xs, m)) (hm : xs.length = m * s) (ho : xs.all ap5 = true)
  (hz : z.length = s) (h0 : 0 < s) (hb0 : 0 < by_) (hb1 : by_ ≤ 1000000) (hb : (n + m) * by_ ≤ ap0) :
  ∃ v' G', aql ⟨d, s, by_, z⟩ G v x = some (v', G') ∧ Rw s B G' v' (n + m) (cs ++ xs) := by
 by_cases hm0 : m = 0
 ·subst hm0
  have hx0 : xs = [] := List.length_eq_zero_iff.1 (by omega)
  subst hx0
  refine ⟨v, G, ?_, by simpa using h⟩
  unfold aql
  rw [if_pos (by simp [arV, h0, hb0, hb1, hz]), hx]
  simp only [if_true]
  rcases h.2.2 with ⟨rfl, _⟩ | ⟨id, rfl, _⟩ <;> rfl
 obtain ⟨⟨T, rfl⟩, h2, h3⟩ := h
 rcases h3 with ⟨rfl, rfl⟩ | ⟨id, rfl, q2, q3⟩
 ·have hc0 : cs = [] := List.length_eq_zero_iff.1 (by omega)
  subst hc0
  refine ⟨_, _, atZ hz h0 hb0 hb1 hx hm0 ho (by simpa using hb), ⟨T ++ [.mk true s xs], by simp⟩, by simp [hm], .inr ⟨(B ++ T).length, by simp, by simp, ?_⟩⟩
  rw [List.nil_append]; exact get_last
 ·refine ⟨_, _, as4 hz h0 hb0 hb1 q3 h2 hx hm0 ho hb, ⟨T.set (id - B.length) .dead ++ [.mk true s (cs ++ xs)], ?_⟩, by simp [h2, hm, Nat.add_mul], .inr ⟨(B ++ T).length, rfl, by simp, ?_⟩⟩
  ·rw [List.set_append_right _ _ q2, List.append_assoc]
  ·have hl : ((B ++ T).set id .dead).length = (B ++ T).length := List.length_set
   rw [← hl, get_last]
end
def RowsOk (B : List Ob) (sh : Sh) (cs : List V) (us : List U) (Fs : List (List Nat)) : Prop :=
 cs.length = us.length * sh.size ∧ Fs.length = us.length ∧ ∀ i x F, us[i]? = some x → Fs[i]? = some F → AtF B sh ((cs.drop (i * sh.size)).take sh.size) x F
section
variable {B G : List Ob} {sh : Sh} {cs cs' : List V} {us us' : List U} {Fs Fs' : List (List Nat)} {v : V}
theorem RowsOk.nil : RowsOk B sh [] [] [] := ⟨by simp, rfl, fun i x F h => by cases h⟩
theorem RowsOk.one {c : List V} {x : U} {F : List Nat} (h : AtF B sh c x F) : RowsOk B sh c [x] [F] := by
 have hl : c.length = sh.size := At.len _ (AtF.at _ h)
 refine ⟨by simp [hl], rfl, fun i y K hy hK => ?_⟩
 cases i with
 | zero => cases hy; cases hK; rw [Nat.zero_mul, List.drop_zero, List.take_of_length_le (by omega)]; exact h
 | succ i => cases hy
theorem RowsOk.take (h : RowsOk B sh cs us Fs) {k : Nat} (hk : k ≤ us.length) : RowsOk B sh (cs.take (k * sh.size)) (us.take k) (Fs.take k) := by
 obtain ⟨h1, h2, h3⟩ := h
 have hm : k * sh.size ≤ us.length * sh.size := Nat.mul_le_mul_right _ hk
 refine ⟨by simp [Nat.min_eq_left hk]; omega, by simp; omega, fun i x F hx hF => ?_⟩
 have hi : i < k := by have := (List.getElem?_eq_some_iff.1 hx).1; simp at this; omega
 rw [List.getElem?_take_of_lt hi] at hx hF
 have hs : i * sh.size + sh.size ≤ k * sh.size := arB hi
 have := h3 i x F hx hF
 rw [aBl hs]
 exact this
theorem RowsOk.drop (h : RowsOk B sh cs us Fs) {k : Nat} (hk : k ≤ us.length) : RowsOk B sh (cs.drop (k * sh.size)) (us.drop k) (Fs.drop k) := by
 obtain ⟨h1, h2, h3⟩ := h
 refine ⟨by simp [h1, Nat.sub_mul], by simp; omega, fun i x F hx hF => ?_⟩
 rw [List.getElem?_drop] at hx hF
 have := h3 (k + i) x F hx hF
 rw [List.drop_drop, ← Nat.add_mul]
 exact this
theorem RowsOk.append (h : RowsOk B sh cs us Fs) (h' : RowsOk B sh cs' us' Fs') : RowsOk B sh (cs ++ cs') (us ++ us') (Fs ++ Fs') := by
 obtain ⟨h1, h2, h3⟩ := h
 obtain ⟨k1, k2, k3⟩ := h'
 refine ⟨by simp [h1, k1, Nat.add_mul], by simp [h2, k2], fun i x F hx hF => ?_⟩
 by_cases hi : i < us.length
 ·rw [List.getElem?_append_left hi] at hx
  rw [List.getElem?_append_left (by omega)] at hF
  have hs : i * sh.size + sh.size ≤ us.length * sh.size := arB hi
  rw [List.drop_append_of_le_length (by omega), List.take_append_of_le_length (by simp; omega)]
  exact h3 i x F hx hF
 ·obtain ⟨t, rfl⟩ : ∃ t, i = us.length + t := ⟨i - us.length, by omega⟩
  rw [List.getElem?_append_right (by omega)] at hx hF
  rw [show us.length + t - us.length = t by omega] at hx
  rw [show us.length + t - Fs.length = t by omega] at hF
  have e : (us.length + t) * sh.size = cs.length + t * sh.size := by rw [Nat.add_mul, h1]
  rw [e, List.drop_append, List.drop_eq_nil_of_le (by omega), List.nil_append, Nat.add_sub_cancel_left]
  exact k3 t x F hx hF
theorem RowsOk.ones (h : RowsOk B sh cs us Fs) : cs.all ap5 = true := by
 refine ayd (n := us.length) (s := sh.size) h.1 fun j hj => ?_
 have hF : j < Fs.length := by rw [h.2.1]; exact hj
 exact At.ones _ (AtF.at _ (h.2.2 j us[j] Fs[j] (List.getElem?_eq_getElem hj) (List.getElem?_eq_getElem hF)))
theorem RowsOk.mem (h : RowsOk B sh cs us Fs) : ∀ q ∈ Fs.flatten, q < B.length := fun q hq => by
 obtain ⟨F, hF, hq⟩ := List.mem_flatten.1 hq
 obtain ⟨i, hi, rfl⟩ := List.getElem_of_mem hF
 have hi' : i < us.length := by rw [← h.2.1]; exact hi
 exact AtF.mem _ (h.2.2 i us[i] Fs[i] (List.getElem?_eq_getElem hi') (List.getElem?_eq_getElem hi)) q hq
theorem RowsOk.frame (h : RowsOk B sh cs us Fs) (hG : ∀ q ∈ Fs.flatten, G[q]? = B[q]?) : RowsOk G sh cs us Fs :=
 ⟨h.1, h.2.1, fun i x F hx hF => AtF.frame _ (fun q hq => hG q (List.mem_flatten.2 ⟨F, List.mem_of_getElem? hF, hq⟩)) (h.2.2 i x F hx hF)⟩
theorem AtF.rows {F : List Nat} (h : AtF B (.slice sh) [v] (.lst us) F) (hn : F.Nodup) : ∃ p cs Fs, v = .slc p us.length ∧ RowsOk B sh cs us Fs ∧ Fs.flatten.Nodup ∧ (∀ q ∈ Fs.flatten, q ∈ F) ∧
  ((p = none ∧ us = []) ∨ ∃ id off cells, p = some (id, off) ∧ B[id]? = some (.mk true sh.size cells) ∧ id ∈ F ∧ id ∉ Fs.flatten ∧
   ∀ (d : LD) (by_ : Nat) (z : List V) (G : List Ob) (lo hi : Nat), G[id]? = B[id]? → lo ≤ hi → hi ≤ us.length →
    aqc ⟨d, sh.size, by_, z⟩ G (.slc (some (id, off + lo * sh.size)) (hi - lo)) = some ((cs.drop (lo * sh.size)).take ((hi - lo) * sh.size), hi - lo)) := by
 obtain ⟨w, us', hw, hus, hlen, h⟩ := aqr.1 h
 cases hw
 cases hus
 rcases h with ⟨rfl, rfl, rfl⟩ | ⟨id, off, cells, Fs, rfl, h2, h3, h4, rfl, h6⟩
 ·exact ⟨none, [], [], rfl, RowsOk.nil, by simp, by simp, .inl ⟨rfl, rfl⟩⟩
 ·obtain ⟨hn1, hn2⟩ := List.nodup_cons.1 hn
  have hcl : ((cells.drop off).take (us.length * sh.size)).length = us.length * sh.size := by simp; omega
  refine ⟨some (id, off), (cells.drop off).take (us.length * sh.size), Fs, rfl, ⟨hcl, h4, fun i x F hx hF => ?_⟩, hn2, fun q hq => List.mem_cons_of_mem _ hq, .inr ⟨id, off, cells, rfl, h2, List.mem_cons_self, hn1, fun d by_ z G lo hi hG hlo hhi => ?_⟩⟩
  ·rw [ax5 h3 (List.getElem?_eq_some_iff.1 hx).1]
   exact h6 i x F hx hF
  ·have e1 : lo * sh.size + (hi - lo) * sh.size = hi * sh.size := by rw [← Nat.add_mul]; congr 1; omega
   have e2 : hi * sh.size ≤ us.length * sh.size := Nat.mul_le_mul_right _ hhi
   have e3 : (((cells.drop off).take (us.length * sh.size)).drop (lo * sh.size)).take ((hi - lo) * sh.size) = (cells.drop (off + lo * sh.size)).take ((hi - lo) * sh.size) := by
    rw [List.drop_take, List.take_take, List.drop_drop, Nat.min_eq_left (by omega)]
   rw [e3]
   simp only [aqc, aqd, hG, h2]
   by_cases h0 : (hi - lo) * sh.size = 0
   ·rw [if_pos h0, h0, List.take_zero]
   ·rw [if_neg h0]
    unfold aqW
    rw [if_pos (by omega)]
end
section
variable {H S X : List Ob} {l : List Nat} {k : Nat} {o : Ob}
end
end Go.Lite
end
section
namespace Go.Proofs.Try1
open Go Go.Lite
attribute [-simp] aqY arP
attribute [local simp] arb arN aq6 aq9 aq7 aqQ
attribute [local simp low] ara

def Tri (x : Int) : Prop := x = 0 ∨ x = 1 ∨ x = 2
theorem Tri.not {x : Int} (h : Tri x) : Tri (aLK x) := by
 rcases h with rfl | rfl | rfl <;> simp [Tri, aLK]

def ints (xs : List Int) : List V := xs.map fun x => .int .i64 x
theorem aAb {xs : List Int} : (ints xs).length = xs.length := by simp [ints]
def Is (H G : List Ob) (v : V) (b : List Int) : Prop := ∃ T id, G = H ++ T ∧ H.length ≤ id ∧ G[id]? = some (.mk true 1 (ints b)) ∧ v = .slc (some (id, 0)) b.length
theorem Is.init {H : List Ob} : Is H (H ++ [.mk true 1 []]) (.slc (some (H.length, 0)) 0) [] := ⟨_, H.length, rfl, Nat.le_refl _, by simp [ints], rfl⟩
theorem Is.push {H G : List Ob} {v : V} {b : List Int} (h : Is H G v b) (hb : b.length ≤ 1000) {c : Int} {z : List V} {d : LD} (hz : z.length = 1) : ∃ v' G', aql ⟨d, 1, 8, z⟩ (G ++ [.mk true 1 [.int .i64 c]]) v (.slc (some (G.length, 0)) 1) = some (v', G') ∧ Is H G' v' (b ++ [c]) := by
 obtain ⟨T, id, rfl, h1, h2, rfl⟩ := h
 have hid : id < (H ++ T).length := (List.getElem?_eq_some_iff.1 h2).1
 have hid' : id < H.length + T.length := by simpa using hid
 have hg : (H ++ T ++ [Ob.mk true 1 [.int .i64 c]])[id]? = some (.mk true 1 (ints b)) := by rw [List.getElem?_append_left hid]; exact h2
 have hnew : aqc ⟨d, 1, 8, z⟩ (H ++ T ++ [Ob.mk true 1 [.int .i64 c]]) (.slc (some ((H ++ T).length, 0)) 1) = some ([.int .i64 c], 1) := by
  simp only [aqc, Nat.mul_one, aqd, get_last]
  rfl
 refine ⟨.slc (some ((H ++ T ++ [Ob.mk true 1 [.int .i64 c]]).length, 0)) (b.length + 1), (H ++ T ++ [Ob.mk true 1 [.int .i64 c]]).set id .dead ++ [.mk true 1 (ints b ++ [.int .i64 c])], ?_, ?_⟩
 ·unfold aql
  rw [if_pos (by simp [arV, hz]), hnew]
  simp only [Nat.one_ne_zero, if_false, List.all_cons, List.all_nil, avV, Bool.and_true, if_true, hg]
  have e1 : ¬ (0 + (b.length + 1) * 1 ≤ (ints b).length) := by rw [aAb]; omega
  have e2 : (0 + b.length * 1 = (ints b).length ∨ b.length = 0 ∧ (ints b).length ≤ 0) ∧ (b.length + 1) * 8 ≤ ap0 := ⟨.inl (by rw [aAb]; simp), by unfold ap0; omega⟩
  rw [if_neg e1, if_pos e2, List.drop_zero]
 ·refine ⟨T.set (id - H.length) .dead ++ [.mk true 1 [.int .i64 c]] ++ [.mk true 1 (ints b ++ [.int .i64 c])], (H ++ T ++ [Ob.mk true 1 [.int .i64 c]]).length, ?_, by simp only [List.length_append]; omega, ?_, by simp⟩
  ·rw [List.append_assoc H T, List.set_append_right _ _ h1, List.set_append_left _ _ (by omega)]
   simp
  ·have hl : ((H ++ T ++ [Ob.mk true 1 [V.int .i64 c]]).set id .dead).length = (H ++ T ++ [Ob.mk true 1 [V.int .i64 c]]).length := List.length_set
   rw [← hl, get_last]
   simp [ints]

end Go.Proofs.Try1
end
section
namespace Go.Proofs.Try1
open Go Go.Lite



theorem TreeOk.rise {t : PTree} (h : TreeOk t) : t.entries.Pairwise fun a b => keyE a < keyE b := avS (key := keyE) (fun j x hx => (h.2.1.2 j x hx).2.2)
theorem TOut.new {H : List Ob} {T : List Ob} {t : PTree} {w1 w2 : V} (hn : New H.length (H ++ T).length (H ++ T) aBN [w1, w2] t.u) : ∃ T' q, q = .agg [w1, w2, .slc none 0, .int .i64 0] ∧ gcH H (H ++ T) q = H ++ T' ∧ TOut H ⟨t, [], 0⟩ q (H ++ T') := by
 have h2 : New H.length (H ++ T).length (H ++ T) avR [w1, w2, .slc none 0, .int .i64 0] (PTreeOut.u ⟨t, [], 0⟩) := New.st (News.cons (c1 := [w1, w2]) (m := (H ++ T).length) hn (News.nilS (News.int (by decide) News.nil)) (by simp) (Nat.le_refl _))
 obtain ⟨T', h3, h4⟩ := h2.gcA
 exact ⟨T', _, rfl, h3, T', w1, w2, .slc none 0, rfl, rfl, h4⟩
theorem TOut.ones {H : List Ob} {o : PTreeOut} {q : V} {H' : List Ob} (h : TOut H o q H') : ∃ w1 w2 w3, q = .agg [w1, w2, w3, .int .i64 o.code] ∧ (ap5 w1 = true ∧ cellsOf w1 = some [w1]) ∧ (ap5 w2 = true ∧ cellsOf w2 = some [w2]) ∧ (ap5 w3 = true ∧ cellsOf w3 = some [w3]) := by
 obtain ⟨T, w1, w2, w3, rfl, rfl, h3⟩ := h
 have := At.ones _ h3.at
 simp only [List.all_cons, List.all_nil, Bool.and_true, Bool.and_eq_true] at this
 exact ⟨w1, w2, w3, rfl, ⟨this.1, as9 this.1⟩, ⟨this.2.1, as9 this.2.1⟩, ⟨this.2.2.1, as9 this.2.2.1⟩⟩
theorem TOut.gc {H : List Ob} {o : PTreeOut} {q : V} {H' : List Ob} (h : TOut H o q H') : TOut H o q (gcH H H' q) := by
 obtain ⟨T, w1, w2, w3, rfl, rfl, h3⟩ := h
 obtain ⟨T', h4, h5⟩ := h3.gcA
 exact ⟨T', w1, w2, w3, rfl, h4, h5⟩

theorem aDr {G G' : List Ob} {r : V} (h : G'.length = G.length) : gcH G G' r = G' := by
 unfold gcH
 split
 ·rename_i hc
  obtain ⟨⟨T, rfl⟩, _⟩ := hc
  have : T = [] := List.length_eq_zero_iff.1 (by simp at h; simpa using h)
  rw [this, List.append_nil]
 ·rfl

end Go.Proofs.Try1
end
section
namespace Go.Proofs.Try1
open Go Go.Lite
attribute [-simp] aqY arP
attribute [local simp] arb arN aq6 aq9 aq7 aqQ
attribute [local simp low] ara

def aro (op : Int) : Int := if op = 1 ∨ op = 2 then 0 else if op = 3 ∨ op = 4 ∨ op = 7 then 1 else if op = 5 ∨ op = 6 then 2 else -1
theorem aDz {n : Int} {H : List Ob} : callW C 306 [.int .i64 n] H = some (.int .i64 (aro n), H) := by
 suffices hs : Ret C 306 [.int .i64 n] H fun q H' => q = .int .i64 (aro n) ∧ H' = H by
  obtain ⟨q, H', hc, rfl, rfl⟩ := hs
  exact hc
 rw [aIc]
 unfold aro
 by_cases o1 : n = 1
 ·simp [ar7, Tryz.f306, o1]
 by_cases o2 : n = 2
 ·simp [ar7, Tryz.f306, o2]
 by_cases o3 : n = 3
 ·simp [ar7, Tryz.f306, o3]
 by_cases o4 : n = 4
 ·simp [ar7, Tryz.f306, o4]
 by_cases o5 : n = 5
 ·simp [ar7, Tryz.f306, o5]
 by_cases o6 : n = 6
 ·simp [ar7, Tryz.f306, o6]
 by_cases o7 : n = 7
 ·simp [ar7, Tryz.f306, o7]
 ·simp [ar7, Tryz.f306, o1, o2, o3, o4, o5, o6, o7]
theorem auR {n : Int} {H : List Ob} : callW C 310 [.int .i64 n] H = some (.int .i64 (aro n), H) := by
 suffices hs : Ret C 310 [.int .i64 n] H fun q H' => q = .int .i64 (aro n) ∧ H' = H by
  obtain ⟨q, H', hc, rfl, rfl⟩ := hs
  exact hc
 rw [aKw]
 unfold aro
 by_cases o1 : n = 1
 ·simp [ar9, Tryz.f310, o1]
 by_cases o2 : n = 2
 ·simp [ar9, Tryz.f310, o2]
 by_cases o3 : n = 3
 ·simp [ar9, Tryz.f310, o3]
 by_cases o4 : n = 4
 ·simp [ar9, Tryz.f310, o4]
 by_cases o5 : n = 5
 ·simp [ar9, Tryz.f310, o5]
 by_cases o6 : n = 6
 ·simp [ar9, Tryz.f310, o6]
 by_cases o7 : n = 7
 ·simp [ar9, Tryz.f310, o7]
 ·simp [ar9, Tryz.f310, o1, o2, o3, o4, o5, o6, o7]
theorem aFV {p : PPart} {H : List Ob} : callW C 305 [.agg p.cs] H = some (.bool (dec (asJ p)), H) := by
 apply Ret.dec
 rw [aKK]
 have c1 := aDz (n := p.op) (H := H)
 have c2 := aLZ (n := p.n) (a := 0) (b := 40) (H := H)
 have c3 := axd (t := p.text) (H := H)
 unfold asJ
 by_cases g : aro p.op < 0
 ·have hno : ¬ (1 ≤ p.op ∧ p.op ≤ 7) := by
   unfold aro at g
   intro h
   split at g <;> try omega
  simp [aq8, Tryz.f305, c1, g]
  exact fun a b => absurd ⟨a, b⟩ hno
 have hop : 1 ≤ p.op ∧ p.op ≤ 7 := by
  unfold aro at g
  split at g <;> try omega
 by_cases g2 : 0 ≤ p.n ∧ p.n ≤ 40
 rotate_left
 ·rw [apJ g2] at c2
  by_cases o7 : p.op = 7
  ·have g7 : ¬ aro 7 < 0 := by decide
   rw [o7] at c1
   simp [aq8, Tryz.f305, c1, g7, o7, c2]
   omega
  ·by_cases n0 : p.n = 0
   ·omega
   ·simp [aq8, Tryz.f305, c1, g, o7, c2, n0]
 rw [apK g2] at c2
 by_cases hn : p.op = 7 ∨ p.n = 0
 rotate_left
 ·obtain ⟨o7, n0⟩ : ¬ p.op = 7 ∧ ¬ p.n = 0 := ⟨fun h => hn (.inl h), fun h => hn (.inr h)⟩
  simp [aq8, Tryz.f305, c1, g, o7, n0]
 by_cases o1 : p.op = 1
 ·have g1 : ¬ aro 1 < 0 := by decide
  have n0 : p.n = 0 := by omega
  rw [o1] at c1
  by_cases h4 : p.text.length ≤ 40
  ·have c4 := aB5 (t := p.text) (H := H) (by omega)
   have h4' : (p.text.length : Int) ≤ 40 := by omega
   by_cases hp : Plain p.text
   ·rw [apK hp] at c4
    rw [n0] at c2
    simp [aq8, Tryz.f305, c1, g1, o1, n0, c2, h4', h4, c4, hp]
   ·rw [apJ hp] at c4
    rw [n0] at c2
    simp [aq8, Tryz.f305, c1, g1, o1, n0, c2, h4', h4, c4, hp]
  ·have h4' : ¬ (p.text.length : Int) ≤ 40 := by omega
   rw [n0] at c2
   simp [aq8, Tryz.f305, c1, g1, o1, n0, c2, h4', h4]
 by_cases o2 : p.op = 2
 ·have g1 : ¬ aro 2 < 0 := by decide
  have n0 : p.n = 0 := by omega
  rw [o2] at c1
  rw [n0] at c2
  by_cases hp : apV p.text
  ·rw [apK hp] at c3
   simp [aq8, Tryz.f305, c1, g1, o2, n0, c2, c3, hp]
  ·rw [apJ hp] at c3
   simp [aq8, Tryz.f305, c1, g1, o2, n0, c2, c3, hp]
 have h3 : 3 ≤ p.op := by omega
 by_cases o7 : p.op = 7
 ·have g1 : ¬ aro 7 < 0 := by decide
  rw [o7] at c1
  by_cases ht : p.text = []
  ·simp [aq8, Tryz.f305, c1, g1, o7, c2, ht]
   omega
  ·have e2 : List.isEmpty p.text = false := by simpa using ht
   simp [aq8, Tryz.f305, c1, g1, o7, c2, ht, e2]
 ·have n0 : p.n = 0 := by omega
  rw [n0] at c2
  by_cases ht : p.text = []
  ·simp [aq8, Tryz.f305, c1, g, o1, o2, o7, n0, c2, ht]
   omega
  ·have e2 : List.isEmpty p.text = false := by simpa using ht
   simp [aq8, Tryz.f305, c1, g, o1, o2, o7, n0, c2, ht, e2, h3]
theorem aCE {p : PPart} (h : asJ p) : aro p.op = (p.many : Int) := by
 obtain ⟨h1, h2, _⟩ := h
 unfold aro PPart.many
 by_cases o1 : p.op = 1
 ·simp [o1]
 by_cases o2 : p.op = 2
 ·simp [o2]
 by_cases o3 : p.op = 3
 ·simp [o3]
 by_cases o4 : p.op = 4
 ·simp [o4]
 by_cases o5 : p.op = 5
 ·simp [o5]
 by_cases o6 : p.op = 6
 ·simp [o6]
 ·have o7 : p.op = 7 := by omega
  simp [o7]
theorem aDs {v : V} {f : List PPart} {H : List Ob} (h : ap9 H v f) (hl : f.length ≤ 12) : ∀ d i : Nat, d ≤ 5 → i ≤ f.length →
  callW C 224 [v, .int .i64 i, .int .i64 (6 - d : Nat)] H = some (.int .i64 (aq0 (aqz f d i)), H)
 | 0, i, hd, hi => by
  suffices hs : Ret C 224 [v, .int .i64 i, .int .i64 (6 - 0 : Nat)] H fun q H' => q = .int .i64 (aq0 (aqz f 0 i)) ∧ H' = H by
   obtain ⟨q, H', hc, rfl, rfl⟩ := hs
   exact hc
  rw [aFO]
  by_cases g : i < f.length
  ·have g' : ¬ (f.length : Int) ≤ i := by omega
   simp [atF, Tryz.f224, h.len, g', aq0, aqz]
  ·have g' : (f.length : Int) ≤ i := by omega
   simp [atF, Tryz.f224, h.len, g', aq0, aqz]
 | d + 1, i, hd, hi => by
  suffices hs : Ret C 224 [v, .int .i64 i, .int .i64 (6 - (d + 1) : Nat)] H fun q H' => q = .int .i64 (aq0 (aqz f (d + 1) i)) ∧ H' = H by
   obtain ⟨q, H', hc, rfl, rfl⟩ := hs
   exact hc
  rw [aFO]
  have hdp : ¬ (5 : Int) < (6 - (d + 1) : Nat) := by omega
  have hdw : IntKind.i64.wrap (((6 - (d + 1) : Nat) : Int) + 1) = ((6 - d : Nat) : Int) := by rw [wrap_i64 (by omega) (by omega)]; omega
  generalize hdd : ((6 - (d + 1) : Nat) : Int) = dd at hdp hdw
  rcases Nat.lt_or_ge i f.length with g | g
  rotate_left
  ·have g' : (f.length : Int) ≤ i := by omega
   simp [atF, Tryz.f224, h.len, g', aq0, aqz, List.getElem?_eq_none g, hdd]
  have g' : ¬ (f.length : Int) ≤ i := by omega
  obtain ⟨x, hx⟩ : ∃ c, f[i]? = some c := ⟨f[i], by simp [g]⟩
  obtain ⟨id, o, e1, l0, l1, _, _, w4⟩ := aut h hx
  have l0' := l0 []
  have l1' := l1 []
  simp only [List.append_nil] at l0' l1'
  have c1 := aFV (p := x) (H := H)
  by_cases g1 : asJ x
  rotate_left
  ·rw [apJ g1] at c1
   simp [atF, Tryz.f224, h.len, g', hdp, e1, l1', c1, aq0, aqz, hx, apJ g1, hdd]
  have hm : x.many ≤ 2 := by unfold PPart.many; split <;> (try split) <;> omega
  have c5 := aDz (n := x.op) (H := H)
  rw [aCE g1] at c5
  rw [apK g1] at c1
  have hw : IntKind.i64.wrap ((i : Int) + 1) = ((i : Int) + 1) := wrap_i64 (by omega) (by omega)
  have l0'' : ∀ T : LT, T.one → ∀ r c, loadAt T ⟨r, c, H⟩ (.hp id o) = some (.int .i64 x.op) := fun T hT r c => (l0' T hT r c).1
  have hgoal : aq0 (aqz f (d + 1) i) = aq0 (aqm (aqz f d) x.many (i + 1, 0)) := by
   show aq0 (match f[i]? with
    | none => none
    | some n => if dec (asJ n) = true then (aqm (aqz f d) n.many (i + 1, 0)).map fun p => (p.1, p.2 + 1) else none) = _
   rw [hx]
   simp only [apK g1, if_true]
   cases aqm (aqz f d) x.many (i + 1, 0) <;> rfl
  rw [hgoal]
  simp [atF, Tryz.f224, h.len, g', hdp, e1, l1', l0'', c1, c5, hw, hdd]
  refine apT (fun k σ => ∃ (m : Nat) (p : Option (Nat × Nat)) (a : Int) (r : Nat → R), σ = ⟨r, 0, H⟩ ∧ r 0 = .val v ∧ r 1 = .val (.int .i64 a) ∧ r 2 = .val (.int .i64 dd) ∧ r 7 = .val (.int .i64 m) ∧ m ≤ 20 ∧ k = (if p.isSome then m else 0) ∧ a = aq0 p ∧ (∀ q, p = some q → q.1 ≤ f.length) ∧ (p.bind fun q => aqm (aqz f d) m q) = aqm (aqz f d) x.many (i + 1, 0)) ?_ x.many _ ⟨x.many, some (i + 1, 0), i + 1, _, rfl, by simp, by simp, by simp, by simp, by omega, by simp, by simp [aq0], fun q e => by cases e; exact g, rfl⟩
  rintro k σ ⟨m, p, a, r, rfl, r0, r1, r2, r7, hm20, hk, ha, hq, hp⟩
  cases p with
  | none =>
   simp only [Option.isSome_none, Bool.false_eq_true, if_false] at hk
   subst hk
   simp only [Option.bind_none] at hp
   subst ha
   by_cases hm0 : 0 < m
   ·simp [r0, r1, r2, r7, hm0, aq0, ← hp]
   ·simp [r0, r1, r2, r7, hm0, aq0, ← hp]
  | some q =>
   simp only [Option.isSome_some, if_true] at hk
   subst hk
   simp only [Option.bind_some] at hp
   have hql := hq q rfl
   subst ha
   cases k with
   | zero =>
    have : q = q := rfl
    simp only [aqm] at hp
    simp [r0, r1, r2, r7, aq0, ← hp]
   | succ k =>
    have c2 := aDs h hl d q.1 (by omega) hql
    have hw2 : IntKind.i64.wrap (((k + 1 : Nat) : Int) - 1) = (k : Int) := by rw [wrap_i64 (by omega) (by omega)]; omega
    have hw3 : IntKind.i64.wrap ((k : Int) + 1 - 1) = (k : Int) := by rw [wrap_i64 (by omega) (by omega)]; omega
    have h0 : (0 : Int) < (k : Int) + 1 := by omega
    have h1 : (0 : Int) ≤ (q.1 : Int) := by omega
    cases hsub : aqz f d q.1 with
    | none =>
     rw [hsub] at c2
     simp only [aqm, hsub] at hp
     simp [r0, r1, r2, r7, h0, h1, aq0, c2, hw2, hw3, hdw]
     exact ⟨0, by omega, k, by rw [wrap_i64 (by omega) (by omega)], by omega, none, by simp, rfl, by simp, by simpa using hp⟩
    | some q2 =>
     rw [hsub] at c2
     simp only [aqm, hsub] at hp
     have hq2 := arn _ _ _ hsub
     simp [r0, r1, r2, r7, h0, h1, aq0, c2, hw2, hw3, hdw]
     exact ⟨k, by omega, k, by rw [wrap_i64 (by omega) (by omega)], by omega, some (q2.1, max q.2 q2.2), by simp, rfl, fun a b e => by cases e; exact hq2.2.1, by simpa using hp⟩
theorem aug {v : V} {f : List PPart} {H : List Ob} (h : ap9 H v f) : callW C 131 [v] H = some (.bool (dec (arA f)), H) := by
 apply Ret.dec
 rw [aKe]
 by_cases g : f.length ≤ 12
 rotate_left
 ·have g' : ¬ (f.length : Int) ≤ 12 := by omega
  simp [aus, Tryz.f131, h.len, g']
  exact fun h => g h.1
 have g' : (f.length : Int) ≤ 12 := by omega
 have c1 := aDs h g 5 0 (by omega) (by omega)
 simp only [Int.natCast_zero, show ((6 - 5 : Nat) : Int) = 1 from rfl] at c1
 cases hf : aqz f 5 0 with
 | none =>
  rw [hf] at c1
  have e : ¬ (-1 : Int) = (f.length : Int) := by omega
  simp [aus, Tryz.f131, h.len, g', c1, aq0, e]
  rintro ⟨_, x, hx⟩
  rw [hf] at hx
  cases hx
 | some q =>
  rw [hf] at c1
  by_cases e : q.1 = f.length
  ·have e' : (q.1 : Int) = f.length := by omega
   simp [aus, Tryz.f131, h.len, g', c1, aq0, e']
   exact ⟨g, q.2, by rw [hf, ← e]⟩
  ·have e' : ¬ (q.1 : Int) = f.length := by omega
   simp [aus, Tryz.f131, h.len, g', c1, aq0, e']
   rintro ⟨_, x, hx⟩
   rw [hf] at hx
   cases hx
   exact e rfl
theorem aC4 {n a b : Int} {H : List Ob} : callW C 178 [.int .i64 n, .int .i64 a, .int .i64 b] H = some (.bool (dec (a ≤ n ∧ n ≤ b)), H) := by
 apply Ret.dec
 rw [aFH]
 by_cases h1 : a ≤ n
 ·by_cases h2 : n ≤ b
  ·simp [atK, Tryz.f178, h1, h2]
  ·simp [atK, Tryz.f178, h1, h2]
 ·simp [atK, Tryz.f178, h1]
theorem aDE {p : PPart} {H : List Ob} : callW C 309 [.agg p.cs] H = some (.bool (dec (asJ p)), H) := by
 apply Ret.dec
 rw [aLg]
 have c1 := auR (n := p.op) (H := H)
 have c2 := aC4 (n := p.n) (a := 0) (b := 40) (H := H)
 have c3 := axs (t := p.text) (H := H)
 unfold asJ
 by_cases g : aro p.op < 0
 ·have hno : ¬ (1 ≤ p.op ∧ p.op ≤ 7) := by
   unfold aro at g
   intro h
   split at g <;> try omega
  simp [aq5, Tryz.f309, c1, g]
  exact fun a b => absurd ⟨a, b⟩ hno
 have hop : 1 ≤ p.op ∧ p.op ≤ 7 := by
  unfold aro at g
  split at g <;> try omega
 by_cases g2 : 0 ≤ p.n ∧ p.n ≤ 40
 rotate_left
 ·rw [apJ g2] at c2
  by_cases o7 : p.op = 7
  ·have g7 : ¬ aro 7 < 0 := by decide
   rw [o7] at c1
   simp [aq5, Tryz.f309, c1, g7, o7, c2]
   omega
  ·by_cases n0 : p.n = 0
   ·omega
   ·simp [aq5, Tryz.f309, c1, g, o7, c2, n0]
 rw [apK g2] at c2
 by_cases hn : p.op = 7 ∨ p.n = 0
 rotate_left
 ·obtain ⟨o7, n0⟩ : ¬ p.op = 7 ∧ ¬ p.n = 0 := ⟨fun h => hn (.inl h), fun h => hn (.inr h)⟩
  simp [aq5, Tryz.f309, c1, g, o7, n0]
 by_cases o1 : p.op = 1
 ·have g1 : ¬ aro 1 < 0 := by decide
  have n0 : p.n = 0 := by omega
  rw [o1] at c1
  by_cases h4 : p.text.length ≤ 40
  ·have c4 := aB0 (t := p.text) (H := H) (by omega)
   have h4' : (p.text.length : Int) ≤ 40 := by omega
   by_cases hp : Plain p.text
   ·rw [apK hp] at c4
    rw [n0] at c2
    simp [aq5, Tryz.f309, c1, g1, o1, n0, c2, h4', h4, c4, hp]
   ·rw [apJ hp] at c4
    rw [n0] at c2
    simp [aq5, Tryz.f309, c1, g1, o1, n0, c2, h4', h4, c4, hp]
  ·have h4' : ¬ (p.text.length : Int) ≤ 40 := by omega
   rw [n0] at c2
   simp [aq5, Tryz.f309, c1, g1, o1, n0, c2, h4', h4]
 by_cases o2 : p.op = 2
 ·have g1 : ¬ aro 2 < 0 := by decide
  have n0 : p.n = 0 := by omega
  rw [o2] at c1
  rw [n0] at c2
  by_cases hp : apV p.text
  ·rw [apK hp] at c3
   simp [aq5, Tryz.f309, c1, g1, o2, n0, c2, c3, hp]
  ·rw [apJ hp] at c3
   simp [aq5, Tryz.f309, c1, g1, o2, n0, c2, c3, hp]
 have h3 : 3 ≤ p.op := by omega
 by_cases o7 : p.op = 7
 ·have g1 : ¬ aro 7 < 0 := by decide
  rw [o7] at c1
  by_cases ht : p.text = []
  ·simp [aq5, Tryz.f309, c1, g1, o7, c2, ht]
   omega
  ·have e2 : List.isEmpty p.text = false := by simpa using ht
   simp [aq5, Tryz.f309, c1, g1, o7, c2, ht, e2]
 ·have n0 : p.n = 0 := by omega
  rw [n0] at c2
  by_cases ht : p.text = []
  ·simp [aq5, Tryz.f309, c1, g, o1, o2, o7, n0, c2, ht]
   omega
  ·have e2 : List.isEmpty p.text = false := by simpa using ht
   simp [aq5, Tryz.f309, c1, g, o1, o2, o7, n0, c2, ht, e2, h3]
end Go.Proofs.Try1
end
section
namespace Go.Proofs.Try1
open Go Go.Lite
section
variable {l : List PAttr} {n : Str} {vs : List Str} {i : Nat}
end
end Go.Proofs.Try1
end
section
namespace Go.Lite
open Go
def Apart (l : List Str) : Prop := (l.map norm).Nodup
theorem Apart.inj {l : List Str} (h : Apart l) {a b : Str} (ha : a ∈ l) (hb : b ∈ l) (e : norm a = norm b) : a = b := by
 unfold Apart at h
 induction l with
 | nil => cases ha
 | cons x l ih =>
  rw [List.map_cons, List.nodup_cons] at h
  rcases List.mem_cons.1 ha with rfl | ha'
  ·rcases List.mem_cons.1 hb with rfl | hb'
   ·rfl
   ·exact absurd (List.mem_map.2 ⟨b, hb', e.symm⟩) h.1
  ·rcases List.mem_cons.1 hb with rfl | hb'
   ·exact absurd (List.mem_map.2 ⟨a, ha', e⟩) h.1
   ·exact ih h.2 ha' hb'
end Go.Lite
end
section
namespace Go.Proofs.Try1
open Go Go.Lite


end Go.Proofs.Try1
end
section
namespace Go.Lite
open Go
variable {H T : List Ob}
theorem ASl.shape {α : Type} {sh : Sh} {f : α → U} {v : V} {l : List α} (h : ASl H sh f v l) : ∃ p, v = .slc p l.length := by
 rcases h.sub with ⟨rfl, rfl⟩ | ⟨id, off, own, cells, rfl, _⟩ <;> exact ⟨_, rfl⟩
end Go.Lite
end
section
namespace Go.Proofs.Try1
open Go Go.Lite




theorem TOut.base {H : List Ob} {X : List Ob} {o : PTreeOut} {q : V} {H' : List Ob} (h : TOut (H ++ X) o q H') : TOut H o q (gcH H H' q) := by
 obtain ⟨T, w1, w2, w3, rfl, rfl, h3⟩ := h
 rw [List.append_assoc] at h3 ⊢
 obtain ⟨T', h4, h5⟩ := (h3.wide (b' := H.length) (by simp) (Nat.le_refl _)).gcA
 exact ⟨T', w1, w2, w3, rfl, h4, h5⟩
end Go.Proofs.Try1
end
section
namespace Go.Lite
open Go
section
variable {B G : List Ob} {sh : Sh} {cs xs : List V} {us : List U} {Fs : List (List Nat)} {v : V} {s n m : Nat}
end
end Go.Lite
end
section
namespace Go.Proofs.Try1
open Go Go.Lite



end Go.Proofs.Try1
end
section
namespace Go.Lite
open Go

end Go.Lite
end
section
namespace Go.Proofs.Try1
open Go Go.Lite
attribute [-simp] aqY arP
attribute [local simp] arb arN aq6 aq9 aq7 aqQ
attribute [local simp low] ara
theorem aER {l : List PAttr} (hl : ar6 l) (n : Str) : aqk (valsOf l n) ∨ valsOf l n = [] := by
 unfold valsOf
 split
 ·rename_i a h
  obtain ⟨j, hj, rfl⟩ := List.getElem_of_mem (List.mem_of_find?_eq_some h)
  exact .inl (hl.1 j _ (List.getElem?_eq_getElem hj)).2.2
 ·exact .inr rfl
theorem DnOk.cons {r : PRdn} {p : List PRdn} (hr : DnOk [r]) (hp : DnOk p) (h6 : ¬ 6 ≤ p.length) : DnOk (r :: p) := by
 refine ⟨fun j x hx => ?_, by simp; omega⟩
 cases j with
 | zero => cases hx; exact hr.1 0 r rfl
 | succ j => exact hp.1 j x (by simpa using hx)
end Go.Proofs.Try1
end
section
namespace Go.Lite
open Go
theorem ASl.ofSl {H : List Ob} {α : Type} {sh : Sh} {f : α → U} {v : V} {l : List α} (h : Sl H sh.size (At H sh) v (l.map f)) (hb : l.length ≤ maxLen) : ASl H sh f v l := apM.2 ⟨v, _, rfl, rfl, by simpa using hb, h⟩
theorem ASl.cut {H : List Ob} {α : Type} {sh : Sh} {f : α → U} {v : V} {l : List α} (h : ASl H sh f v l) {i : Nat} (hi : i ≤ l.length) :
  ∃ s1 s2 : V, ASl H sh f s1 (l.take i) ∧ ASl H sh f s2 (l.drop i) ∧
   ((v = .slc none 0 ∧ s1 = .slc none 0 ∧ s2 = .slc none 0 ∧ i = 0 ∧ l = []) ∨ ∃ id off, v = .slc (some (id, off)) l.length ∧ s1 = .slc (some (id, off)) i ∧ s2 = .slc (some (id, off + i * sh.size)) (l.length - i) ∧ ∀ G, (∃ S, G = H ++ S) → apX G id sh.size = true) := by
 have hb := h.bound
 rcases h.sl with ⟨rfl, h1⟩ | ⟨id, off, own, cells, hv, h2, h3, h4⟩
 ·have h0 : l = [] := by simpa using h1
  subst h0
  have hi0 : i = 0 := by simpa using hi
  subst hi0
  exact ⟨.slc none 0, .slc none 0, h, h, .inl ⟨rfl, rfl, rfl, rfl, rfl⟩⟩
 ·rw [List.length_map] at hv h3
  have hget : ∀ j, (l.map f)[j]? = (l[j]?).map f := fun j => List.getElem?_map
  refine ⟨.slc (some (id, off)) i, .slc (some (id, off + i * sh.size)) (l.length - i), ASl.ofSl (.inr ⟨id, off, own, cells, ?_, h2, ?_, fun j x hx => ?_⟩) ?_, ASl.ofSl (.inr ⟨id, off + i * sh.size, own, cells, ?_, h2, ?_, fun j x hx => ?_⟩) ?_, .inr ⟨id, off, hv, rfl, rfl, ?_⟩⟩
  ·simp; omega
  ·rw [List.length_map, List.length_take, Nat.min_eq_left hi]
   exact Nat.le_trans (Nat.add_le_add_left (Nat.mul_le_mul_right _ hi) _) h3
  ·rw [List.getElem?_map] at hx
   obtain ⟨y, hy, rfl⟩ := Option.map_eq_some_iff.1 hx
   have hj : j < i := by have := (List.getElem?_eq_some_iff.1 hy).1; simp at this; omega
   rw [List.getElem?_take_of_lt hj] at hy
   exact h4 j _ (by rw [hget, hy]; rfl)
  ·simp; omega
  ·simp
  ·rw [List.length_map, List.length_drop, Nat.add_assoc, ← Nat.add_mul, show i + (l.length - i) = l.length by omega]
   exact h3
  ·rw [List.getElem?_map, List.getElem?_drop] at hx
   obtain ⟨y, hy, rfl⟩ := Option.map_eq_some_iff.1 hx
   rw [Nat.add_assoc, ← Nat.add_mul]
   exact h4 (i + j) _ (by rw [hget, hy]; rfl)
  ·simp; omega
  ·rintro G ⟨S, rfl⟩
   unfold apX
   rw [aqf _ _ h2]
   simp
theorem AStrs.low {H T : List Ob} {w : V} {l : List Str} (h : AStrs (H ++ T) w l) (hl : asC H w) : AStrs H w l := by
 rcases h.sl with ⟨hw, h1⟩ | ⟨id, off, own, cells, hv, h2, h3, h4⟩
 ·exact ASl.ofSl (.inl ⟨hw, h1⟩) h.bound
 ·rw [hv] at hl
  simp only [asC] at hl
  obtain ⟨_, _, _, h0⟩ := hl
  have hid := (List.getElem?_eq_some_iff.1 h0).1
  rw [List.getElem?_append_left hid] at h2
  refine ASl.ofSl (.inr ⟨id, off, own, cells, hv, h2, h3, fun i x hx => ?_⟩) h.bound
  obtain ⟨s, e1, e2, e3⟩ := ap1.1 (h4 i x hx)
  exact ap1.2 ⟨s, e1, e2, e3⟩
theorem AStrs.gc {H X : List Ob} {w : V} {l : List Str} (h : AStrs (H ++ X) w l) : ∃ T, gcH H (H ++ X) w = H ++ T ∧ AStrs (H ++ T) w l := by
 unfold gcH
 split
 ·rename_i hc
  exact ⟨[], by simp, by simpa using h.low hc.2⟩
 ·exact ⟨X, rfl, h⟩
theorem AStrs.frame {G G' : List Ob} {w : V} {l : List Str} (h : AStrs G w l) (hf : ∀ q o n, w = .slc (some (q, o)) n → G'[q]? = G[q]?) : AStrs G' w l := by
 rcases h.sl with ⟨hw, h1⟩ | ⟨id, off, own, cells, hv, h2, h3, h4⟩
 ·exact ASl.ofSl (.inl ⟨hw, h1⟩) h.bound
 ·rw [← hf _ _ _ hv] at h2
  refine ASl.ofSl (.inr ⟨id, off, own, cells, hv, h2, h3, fun i x hx => ?_⟩) h.bound
  obtain ⟨s, e1, e2, e3⟩ := ap1.1 (h4 i x hx)
  exact ap1.2 ⟨s, e1, e2, e3⟩
theorem AStrs.lt {G : List Ob} {w : V} {l : List Str} (h : AStrs G w l) : ∀ q o n, w = .slc (some (q, o)) n → q < G.length := by
 rintro q o n rfl
 rcases h.sl with ⟨hw, h1⟩ | ⟨id, off, own, cells, hv, h2, h3, h4⟩
 ·cases hw
 ·cases hv
  exact (List.getElem?_eq_some_iff.1 h2).1
end Go.Lite
end
section
namespace Go.Proofs.Try1
open Go Go.Lite

noncomputable def atV (e : PEntry) (n : Str) : Str := (valsOf e.attrs n).headD []
noncomputable def unT (p : PPart) (a : Str) : Str := if p.op = 3 then a.map (aq3 false) else if p.op = 4 then a.map (aq3 true) else a.take p.n.toNat
noncomputable def atE (p : PPart) (a b : Str) : Str := if p.op = 5 then a ++ b else if a = [] then b else a
def atm (t : Str) : Bool := decide (t.length ≤ 40)
noncomputable def avL (f : List PPart) (e : PEntry) : Nat → Nat → Option (Str × Bool × Nat)
 | 0, _ => none
 | d + 1, i => match f[i]? with
  | none => none
  | some p =>
   if p.op = 1 then some (p.text, atm p.text, i + 1)
   else if p.op = 2 then some (atV e p.text, atm (atV e p.text), i + 1)
   else match avL f e d (i + 1) with
    | none => none
    | some q => if p.many = 1 then some (unT p q.1, q.2.1 && atm (unT p q.1), q.2.2)
     else match avL f e d q.2.2 with
      | none => none
      | some s => some (atE p q.1 s.1, (q.2.1 && s.2.1) && atm (atE p q.1 s.1), s.2.2)
theorem aAS {e : PEntry} {n : Str} (he : EntryOk e) : ∀ v ∈ valsOf e.attrs n, v.length ≤ 40 := fun v hv => by
 rcases aER he.2.2 n with h | h
 ·obtain ⟨j, hj, rfl⟩ := List.getElem_of_mem hv
  exact (h.1 j _ (List.getElem?_eq_getElem hj)).1.2.1
 ·rw [h] at hv; cases hv
theorem azZ {e : PEntry} {n : Str} (he : EntryOk e) : (atV e n).length ≤ 40 := by
 unfold atV
 have := aAS (n := n) he
 cases h : valsOf e.attrs n with
 | nil => simp
 | cons v l => rw [h] at this; exact this v (by simp)
theorem aFv {p : PPart} {a : Str} : (unT p a).length ≤ a.length := by
 unfold unT
 split
 ·simp
 split
 ·simp
 ·simp; omega
theorem aEC {p : PPart} {a b : Str} : (atE p a b).length ≤ a.length + b.length := by
 unfold atE
 split
 ·simp
 split <;> omega
theorem asE {f : List PPart} {e : PEntry} (he : EntryOk e) : ∀ d i q, aqz f d i = some q → ∃ t b, avL f e d i = some (t, b, q.1) ∧ t.length ≤ 40 * 2 ^ d
 | 0, i, q, h => by cases h
 | d + 1, i, q, h => by
  unfold aqz at h
  unfold avL
  have hp : 2 ^ (d + 1) = 2 * 2 ^ d := by rw [Nat.pow_succ]; omega
  have hp1 : 1 ≤ 2 ^ d := Nat.one_le_two_pow
  cases hn : f[i]? with
  | none => rw [hn] at h; cases h
  | some p =>
   rw [hn] at h
   simp only at h ⊢
   split at h
   case isFalse => cases h
   rename_i hok
   have hok := atn.1 hok
   by_cases o1 : p.op = 1
   ·have hm : p.many = 0 := by unfold PPart.many; simp [o1]
    rw [hm] at h
    cases h
    rw [if_pos o1]
    exact ⟨_, _, rfl, by have := (hok.2.2.2.2.2.1 o1).1; omega⟩
   rw [if_neg o1]
   by_cases o2 : p.op = 2
   ·have hm : p.many = 0 := by unfold PPart.many; simp [o2]
    rw [hm] at h
    cases h
    rw [if_pos o2]
    exact ⟨_, _, rfl, by have := azZ (n := p.text) he; omega⟩
   rw [if_neg o2]
   by_cases m1 : p.many = 1
   ·rw [m1] at h
    simp only [aqm] at h
    cases h1 : aqz f d (i + 1) with
    | none => rw [h1] at h; cases h
    | some q1 =>
     rw [h1] at h
     cases h
     obtain ⟨t, b, e1, e2⟩ := asE he d (i + 1) q1 h1
     rw [e1]
     simp only [m1, if_true]
     exact ⟨_, _, rfl, by have := aFv (p := p) (a := t); omega⟩
   ·have m2 : p.many = 2 := by
     have h1 := hok.1
     have h2 := hok.2.1
     unfold PPart.many at m1 ⊢
     split
     ·rename_i hh; rw [if_pos hh] at m1; exact absurd rfl m1
     ·rename_i hh
      rw [if_pos (by omega)]
    rw [m2] at h
    simp only [aqm] at h
    cases h1 : aqz f d (i + 1) with
    | none => rw [h1] at h; cases h
    | some q1 =>
     rw [h1] at h
     simp only at h
     cases h2 : aqz f d q1.1 with
     | none => rw [h2] at h; cases h
     | some q2 =>
      rw [h2] at h
      cases h
      obtain ⟨t, b, e1, e2⟩ := asE he d (i + 1) q1 h1
      obtain ⟨t2, b2, e3, e4⟩ := asE he d q1.1 q2 h2
      rw [e1]
      simp only [m1, if_false, e3]
      exact ⟨_, _, rfl, by have := aEC (p := p) (a := t) (b := t2); omega⟩
end Go.Proofs.Try1
end
