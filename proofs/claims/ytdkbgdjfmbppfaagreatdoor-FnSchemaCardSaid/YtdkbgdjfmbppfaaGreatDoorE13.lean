/- Part 13 of the proof of a law: the interpreter, its soundness, and what functions of the program compute over it. Conditions: none but those that each theorem names. -/
import Derived.Test.YtdkbgdjfmbppfaaGreatDoorE07
import Derived.Test.YtdkbgdjfmbppfaaGreatDoorE12
import Derived.Test.YtdkbgdjfmbppfaaGreatDoorE11
import Derived.Sort.AssemblyPlain
import Derived.Test.YtdkbgdjfmbppfaaGreatDoorE10
import Derived.Test.YtdkbgdjfmbppfaaGreatDoorE08
import Derived.Test.YtdkbgdjfmbppfaaGreatDoorE09
import Derived.Test.YtdkbgdjfmbppfaaGreatDoorE06
import Derived.Test.YtdkbgdjfmbppfaaGreatDoorE05
import Derived.Laws.Externs
import Derived.CallsIn
import Derived.Sort.EncStr
import Derived.Sort.Grow
import Derived.WalkKit
import Derived.Shelf.SlGeneric
import Derived.Shelf.SlLaysF
import Derived.Shelf.Slices.In.SortAlone
import Derived.Ground.SlsfProg
import Derived.Ground.NamesProg
import Derived.Test.YtdkbgdjfmbppfaaGreatDoorProg
import Derived.Shelf.Slices.In.SortNone

set_option linter.all false
set_option maxRecDepth 20000
set_option maxHeartbeats 40000000
section
namespace Go.Lite
open Go
def Le (G G' : List Ob) : Prop := ∃ S, G' = G ++ S
def Up (G G' : List Ob) : Prop := ∀ (q : Nat) o, G[q]? = some o → G'[q]? = some o
section
variable {A B D G G' : List Ob} {sh : Sh} {cs : List V} {u : U} {F : List Nat} {b e : Nat}
theorem Le.refl : Le A A := ⟨[], by simp⟩
theorem Le.app {T : List Ob} : Le A (A ++ T) := ⟨T, rfl⟩
theorem Le.trans (h : Le A B) (k : Le B D) : Le A D := by
 obtain ⟨S, rfl⟩ := h
 obtain ⟨T, rfl⟩ := k
 exact ⟨S ++ T, by rw [List.append_assoc]⟩
theorem Le.len (h : Le A B) : A.length ≤ B.length := by obtain ⟨S, rfl⟩ := h; simp
theorem Le.up (h : Le A B) : Up A B := by obtain ⟨S, rfl⟩ := h; exact aW
theorem Up.refl : Up A A := fun _ _ h => h
theorem Up.trans (h : Up A B) (k : Up B D) : Up A D := fun q o hq => k q o (h q o hq)
theorem At.Up (h : At A sh cs u) (k : Up A B) : At B sh cs u := At.up k sh h
theorem At.Le (h : At A sh cs u) (k : Le A B) : At B sh cs u := At.up k.up sh h
theorem New.Le (h : New b e A sh cs u) (k : Le A B) : New b e B sh cs u := by obtain ⟨S, rfl⟩ := k; exact h.ext
theorem Up.frame (h : ∀ q, q < A.length → B[q]? = A[q]?) : Up A B := fun q o hq => by
 rw [h q (List.getElem?_eq_some_iff.1 hq).1]; exact hq
theorem mW {v : V} (h : aJ v = true) : cellsOf v = some [v] := by cases v <;> first | rfl | simp [aJ] at h
end
theorem Sl.each {H : List Ob} {n : Nat} {R : List V → U → Prop} {v : V} {l : List U} (h : Sl H n R v l) : ∀ u ∈ l, ∃ cs, R cs u := by
 intro u hu
 rcases h with ⟨_, rfl⟩ | ⟨id, off, own, cells, _, _, _, h4⟩
 ·cases hu
 ·obtain ⟨i, hi, rfl⟩ := List.getElem_of_mem hu
  exact ⟨_, h4 i _ (List.getElem?_eq_getElem hi)⟩
end Go.Lite
end
section
namespace Go.Proofs.Try1
open Go Go.Lite
theorem TreeOk.small {t : PTree} (h : TreeOk t) : MN t := by
 refine ⟨⟨by have := h.1.2; omega, fun c hc => ?_⟩, by have := h.2.1.1; omega, fun e he => EntryOk.small (TreeOk.dns h e he)⟩
 obtain ⟨j, hj, rfl⟩ := List.getElem_of_mem hc
 have hc := (h.1.1 j _ (List.getElem?_eq_getElem hj)).1
 exact ⟨by have := hc.l1; omega, by have := hc.l2; omega, by have := hc.l3; omega⟩
theorem TreeOk.rise {t : PTree} (h : TreeOk t) : t.entries.Pairwise fun a b => keyE a < keyE b := jl (key := keyE) (fun j x hx => (h.2.1.2 j x hx).2.2)
theorem TOut.new {H : List Ob} {T : List Ob} {t : PTree} {w1 w2 : V} (hn : New H.length (H ++ T).length (H ++ T) Dl [w1, w2] t.u) : ∃ T' q, q = .agg [w1, w2, .slc none 0, .int .i64 0] ∧ eU H (H ++ T) q = H ++ T' ∧ TOut H ⟨t, [], 0⟩ q (H ++ T') := by
 have h2 : New H.length (H ++ T).length (H ++ T) sF [w1, w2, .slc none 0, .int .i64 0] (PTreeOut.u ⟨t, [], 0⟩) := New.st (News.cons (c1 := [w1, w2]) (m := (H ++ T).length) hn (News.nilS (News.int (by decide) News.nil)) (by simp) (Nat.le_refl _))
 obtain ⟨T', h3, h4⟩ := h2.gcA
 exact ⟨T', _, rfl, h3, T', w1, w2, .slc none 0, rfl, rfl, h4⟩
theorem TOut.ones {H : List Ob} {o : PTreeOut} {q : V} {H' : List Ob} (h : TOut H o q H') : ∃ w1 w2 w3, q = .agg [w1, w2, w3, .int .i64 o.code] ∧ (aJ w1 = true ∧ cellsOf w1 = some [w1]) ∧ (aJ w2 = true ∧ cellsOf w2 = some [w2]) ∧ (aJ w3 = true ∧ cellsOf w3 = some [w3]) := by
 obtain ⟨T, w1, w2, w3, rfl, rfl, h3⟩ := h
 have := At.ones _ h3.at
 simp only [List.all_cons, List.all_nil, Bool.and_true, Bool.and_eq_true] at this
 exact ⟨w1, w2, w3, rfl, ⟨this.1, mW this.1⟩, ⟨this.2.1, mW this.2.1⟩, ⟨this.2.2.1, mW this.2.2.1⟩⟩
theorem TOut.gc {H : List Ob} {o : PTreeOut} {q : V} {H' : List Ob} (h : TOut H o q H') : TOut H o q (eU H H' q) := by
 obtain ⟨T, w1, w2, w3, rfl, rfl, h3⟩ := h
 obtain ⟨T', h4, h5⟩ := h3.gcA
 exact ⟨T', w1, w2, w3, rfl, h4, h5⟩



end Go.Proofs.Try1
end
section
namespace Go.Proofs.Try1
open Go Go.Lite
attribute [-simp] df eP
attribute [local simp] bZ dY bW cZ bY bJ
attribute [local simp low] cu

end Go.Proofs.Try1
end
section
namespace Go.Lite
open Go
structure PPart where
 op : Int
 text : Str
 n : Int
def PPart.u (n : PPart) : U := .st [.int n.op, .str n.text, .int n.n]
abbrev PPart.cs (n : PPart) : List V := [.int .i64 n.op, .str n.text, .int .i64 n.n]
section
variable {H : List Ob} {v : V}
end
def PPart.many (p : PPart) : Nat := if p.op = 3 ∨ p.op = 4 ∨ p.op = 7 then 1 else if p.op = 5 ∨ p.op = 6 then 2 else 0
end Go.Lite
end
section
namespace Go.Proofs.Try1
open Go Go.Lite
attribute [-simp] df eP
attribute [local simp] bZ dY bW cZ bY bJ
attribute [local simp low] cu



end Go.Proofs.Try1
end
section
namespace Go.Proofs.Try1
open Go Go.Lite
section
variable {l : List PAttr} {n : Str} {vs : List Str} {i : Nat}
end
end Go.Proofs.Try1
end
section
namespace Go.Lite
open Go
theorem JI {a b : UInt8} {az bs : Str} : bT (a :: az) (b :: bs) ↔ a < b ∨ (a = b ∧ bT az bs) := by
 unfold bT
 simp only [Op.bytesLess]
 by_cases h1 : a < b
 ·simp [h1]
 ·by_cases h2 : b < a
  ·have hne : a ≠ b := fun e => by subst e; exact h1 h2
   simp [h1, h2, hne]
  ·have he : a = b := by
    have h3 : ¬ a.toNat < b.toNat := h1
    have h4 : ¬ b.toNat < a.toNat := h2
    exact UInt8.toNat_inj.1 (by omega)
   subst he
   simp [h1]
theorem rH : ∀ (a b : Str), bT a b ↔ a < b
 | a, [] => by cases a <;> simp [bT, Op.bytesLess]
 | [], b :: bs => by simp [bT, Op.bytesLess]
 | a :: az, b :: bs => by rw [JI, List.cons_lt_cons_iff, rH az bs]
theorem Ib {a b c : Str} (h1 : bT a b) (h2 : bT b c) : bT a c := (rH _ _).2 (List.lt_trans ((rH _ _).1 h1) ((rH _ _).1 h2))
theorem MI {a b : Str} (h1 : bT a b) : ¬ bT b a := fun h => dG _ (Ib h1 h)
theorem MG {a b : Str} (h1 : ¬ bT a b) (h2 : ¬ bT b a) : a = b := List.le_antisymm (fun hh => h2 ((rH _ _).2 hh)) (fun hh => h1 ((rH _ _).2 hh))
theorem LP {a b c : Str} (h1 : ¬ bT a b) (h2 : ¬ bT b c) : ¬ bT a c := fun h => by
 by_cases h3 : bT b a
 ·exact h2 (Ib h3 h)
 ·have := MG h1 h3
  subst this
  exact h2 h
def yN (l : List Str) : Prop := l.Pairwise fun a b => ¬ bT (norm b) (norm a)
theorem Dw {l : List Str} (h : yN l) (x : Str) : yN (qZ l x) := by
 unfold yN qZ at *
 have hd : ∀ y ∈ l.dropWhile (fun y => dec (bT (norm y) (norm x))), ¬ bT (norm y) (norm x) := by
  intro y hy
  induction l with
  | nil => simp at hy
  | cons a l ih =>
   rw [List.dropWhile_cons] at hy
   split at hy
   ·exact ih (List.pairwise_cons.1 h).2 hy
   ·rename_i hn
    have hn' : ¬ bT (norm a) (norm x) := fun h2 => hn (aj h2)
    rcases List.mem_cons.1 hy with rfl | hy
    ·exact hn'
    ·exact LP ((List.pairwise_cons.1 h).1 y hy) hn'
 have ht : ∀ y ∈ l.takeWhile (fun y => dec (bT (norm y) (norm x))), bT (norm y) (norm x) := fun y hy => dX.1 (List.all_eq_true.1 (List.all_takeWhile (l := l) (p := fun y => dec (bT (norm y) (norm x)))) y hy)
 have hl : l = l.takeWhile (fun y => dec (bT (norm y) (norm x))) ++ l.dropWhile (fun y => dec (bT (norm y) (norm x))) := List.takeWhile_append_dropWhile.symm
 rw [hl] at h
 obtain ⟨h1, h2, h3⟩ := List.pairwise_append.1 h
 refine List.pairwise_append.2 ⟨h1, List.pairwise_cons.2 ⟨hd, h2⟩, fun a ha b hb => ?_⟩
 rcases List.mem_cons.1 hb with rfl | hb
 ·exact MI (ht a ha)
 ·exact h3 a ha b hb
theorem Cf (l : List Str) : yN (bV l) := by
 have : ∀ (l a : List Str), yN a → yN (l.foldl qZ a) := by
  intro l
  induction l with
  | nil => exact fun a h => h
  | cons x l ih => exact fun a h => ih _ (Dw h x)
 exact this l [] List.Pairwise.nil
def Apart (l : List Str) : Prop := (l.map norm).Nodup
theorem Apart.inj {l : List Str} (h : Apart l) {a b : Str} (ha : a ∈ l) (hb : b ∈ l) (e : norm a = norm b) : a = b := by
 unfold Apart at h
 induction l with
 | nil => cases ha
 | cons x l ih =>
  rw [List.map_cons, List.nodup_cons] at h
  rcases List.mem_cons.1 ha with rfl | ha'
  ·rcases List.mem_cons.1 hb with rfl | hb'
   ·rfl
   ·exact absurd (List.mem_map.2 ⟨b, hb', e.symm⟩) h.1
  ·rcases List.mem_cons.1 hb with rfl | hb'
   ·exact absurd (List.mem_map.2 ⟨a, ha', e⟩) h.1
   ·exact ih h.2 ha' hb'
theorem GG {l : List Str} : kH l ↔ (∀ x ∈ l, aO x) ∧ Apart l ∧ l.length ≤ 4 := by
 unfold kH Apart
 rw [List.Nodup, List.pairwise_iff_getElem]
 constructor
 ·rintro ⟨h1, h2⟩
  refine ⟨fun x hx => ?_, fun i j hi hj hij => ?_, h2⟩
  ·obtain ⟨j, hj, rfl⟩ := List.getElem_of_mem hx
   exact (h1 j _ (List.getElem?_eq_getElem hj)).1
  ·simp only [List.length_map] at hi hj
   simp only [List.getElem_map]
   exact (h1 j _ (List.getElem?_eq_getElem hj)).2 i _ hij (List.getElem?_eq_getElem hi)
 ·rintro ⟨h1, h2, h3⟩
  refine ⟨fun i x hx => ⟨h1 x (List.mem_of_getElem? hx), fun j y hji hy => ?_⟩, h3⟩
  obtain ⟨hi, rfl⟩ := List.getElem?_eq_some_iff.1 hx
  obtain ⟨hj, rfl⟩ := List.getElem?_eq_some_iff.1 hy
  have := h2 j i (by simpa using hj) (by simpa using hi) hji
  simpa using this
end Go.Lite
end
section
namespace Go.Proofs.Try1
open Go Go.Lite

end Go.Proofs.Try1
end
section
namespace Go.Lite
open Go
structure PFlow where
 base : List PRdn
 filter : List PNode
 login : List PPart
 mail : List PPart
 phone : List PPart
 back : Bool
def PFlow.u (f : PFlow) : U := .st [.lst (f.base.map PRdn.u), .lst (f.filter.map PNode.u), .lst (f.login.map PPart.u), .lst (f.mail.map PPart.u), .lst (f.phone.map PPart.u), .bool f.back]
section
variable {H : List Ob}
end
structure PMod where
 kind : Int
 attr : Str
 vals : List Str
def PMod.u (m : PMod) : U := .st [.int m.kind, .str m.attr, .lst (m.vals.map qg)]
section
variable {H : List Ob} {v : V}
end
end Go.Lite
end
section
namespace Go.Proofs.Try1
open Go Go.Lite




theorem TOut.base {H : List Ob} {X : List Ob} {o : PTreeOut} {q : V} {H' : List Ob} (h : TOut (H ++ X) o q H') : TOut H o q (eU H H' q) := by
 obtain ⟨T, w1, w2, w3, rfl, rfl, h3⟩ := h
 rw [List.append_assoc] at h3 ⊢
 obtain ⟨T', h4, h5⟩ := (h3.wide (b' := H.length) (by simp) (Nat.le_refl _)).gcA
 exact ⟨T', w1, w2, w3, rfl, h4, h5⟩



end Go.Proofs.Try1
end
section
namespace Go.Lite
open Go

end Go.Lite
end
section
namespace Go.Proofs.Try1
open Go Go.Lite
attribute [-simp] df eP
attribute [local simp] bZ dY bW cZ bY bJ
attribute [local simp low] cu
theorem zF {α : Type} {key : α → Str} {l : List α} (hp : l.Pairwise fun a b => key a < key b) {j : Nat} {x : α} (hx : l[j]? = some x) : bK key l j x := fun y h0 hy => by
 obtain ⟨h1, rfl⟩ := List.getElem?_eq_some_iff.1 hx
 obtain ⟨h2, rfl⟩ := List.getElem?_eq_some_iff.1 hy
 exact (bf _ _).2 (List.pairwise_iff_getElem.1 hp _ _ h2 h1 (by omega))
theorem Ec {l : List Str} (hv : ∀ x ∈ l, aO x) (ha : Go.Lite.Apart l) (h1 : 1 ≤ l.length) (h4 : l.length ≤ 4) : bH (bV l) := by
 have hperm := pX l
 have hap : ((bV l).map norm).Nodup := (hperm.map norm).nodup_iff.2 ha
 have h2 : (bV l).Pairwise fun a b => norm a ≠ norm b := List.pairwise_map.1 hap
 have hpw : (bV l).Pairwise fun a b => norm a < norm b := ((Cf l).and h2).imp fun {a b} h => by
  rcases mJ (norm a) (norm b) with h3 | h3 | h3
  ·exact (bf _ _).1 h3
  ·exact absurd h3 h.2
  ·exact absurd h3 h.1
 refine ⟨fun j x hx => ⟨hv x (hperm.subset (List.mem_of_getElem? hx)), zF hpw hx⟩, by rw [oC]; exact h1, by rw [oC]; exact h4⟩
theorem wK {α : Type} {p q : α → Bool} (h : ∀ x, ¬ (p x = true ∧ q x = true)) : ∀ l : List α, (l.filter p).length + (l.filter q).length ≤ l.length ∧ ((∃ x ∈ l, p x = false ∧ q x = false) → (l.filter p).length + (l.filter q).length + 1 ≤ l.length)
 | [] => ⟨by simp, fun ⟨x, hx, _⟩ => by cases hx⟩
 | x :: l => by
  obtain ⟨h1, h2⟩ := wK h l
  have h3 := h x
  rw [List.filter_cons, List.filter_cons]
  cases hp : p x <;> cases hq : q x
  ·simp; exact ⟨by omega, by omega⟩
  ·simp only [Bool.false_eq_true, if_false, if_true, List.length_cons]
   refine ⟨by omega, fun ⟨y, hy, e1, e2⟩ => ?_⟩
   rcases List.mem_cons.1 hy with rfl | hy
   ·rw [hq] at e2; cases e2
   ·have := h2 ⟨y, hy, e1, e2⟩; omega
  ·simp only [Bool.false_eq_true, if_false, if_true, List.length_cons]
   refine ⟨by omega, fun ⟨y, hy, e1, e2⟩ => ?_⟩
   rcases List.mem_cons.1 hy with rfl | hy
   ·rw [hp] at e1; cases e1
   ·have := h2 ⟨y, hy, e1, e2⟩; omega
  ·exact absurd ⟨hp, hq⟩ h3
theorem Bq {l : List PAttr} {n : Str} {vs : List Str} (hl : l.length ≤ 8) (h : ¬ (valsOf l n = [] ∧ 8 ≤ l.length)) : (bP l n vs).length ≤ 8 := by
 obtain ⟨h1, h2⟩ := wK (p := fun a : PAttr => dec (bT a.name n)) (q := fun a => dec (bT n a.name)) (fun x hx => eH (dX.1 hx.1) (dX.1 hx.2)) l
 have hm : (if vs = [] then ([] : List PAttr) else [⟨n, vs⟩]).length ≤ 1 := by split <;> simp
 unfold bP
 rw [List.length_append, List.length_append]
 by_cases g : valsOf l n = []
 ·have : ¬ 8 ≤ l.length := fun h3 => h ⟨g, h3⟩
  omega
 ·have : ∃ x ∈ l, dec (bT x.name n) = false ∧ dec (bT n x.name) = false := by
   unfold valsOf at g
   cases hf : bi PAttr.name l n with
   | none => rw [hf] at g; exact absurd rfl g
   | some a =>
    have he : a.name = n := by have := List.find?_some hf; simpa using this
    subst he
    exact ⟨a, List.mem_of_find?_eq_some hf, ai (dG _), ai (dG _)⟩
  have := h2 this
  omega
theorem Du {l : List PAttr} {n : Str} {vs : List Str} (hl : eY l) (hn : aG n) (hv : bH vs) (h : ¬ (valsOf l n = [] ∧ 8 ≤ l.length)) : eY (bP l n vs) := by
 have hlen := Bq (vs := vs) hl.2 h
 have hp : l.Pairwise fun a b => a.name < b.name := jl (fun j x hx => (hl.1 j x hx).2.1)
 have hne : ¬ vs = [] := fun e => by have := hv.2.1; rw [e] at this; simp at this
 have hin : ∀ a ∈ l, aG a.name ∧ bH a.vals := fun a ha => by
  obtain ⟨j, hj, rfl⟩ := List.getElem_of_mem ha
  have := hl.1 j _ (List.getElem?_eq_getElem hj)
  exact ⟨this.1, this.2.2⟩
 have hpw : (bP l n vs).Pairwise fun a b => a.name < b.name := by
  unfold bP
  rw [if_neg hne, List.append_assoc]
  refine List.pairwise_append.2 ⟨hp.filter _, List.pairwise_append.2 ⟨by simp, hp.filter _, fun a ha b hb => ?_⟩, fun a ha b hb => ?_⟩
  ·rw [List.mem_singleton.1 ha]
   exact (bf _ _).1 (dX.1 (List.mem_filter.1 hb).2)
  ·have h1 := (bf _ _).1 (dX.1 (List.mem_filter.1 ha).2)
   rcases List.mem_append.1 hb with hb | hb
   ·rw [List.mem_singleton.1 hb]; exact h1
   ·exact List.lt_trans h1 ((bf _ _).1 (dX.1 (List.mem_filter.1 hb).2))
 refine ⟨fun j x hx => ?_, hlen⟩
 have hm := List.mem_of_getElem? hx
 have h2 := zF hpw hx
 unfold bP at hm
 rw [if_neg hne] at hm
 rcases List.mem_append.1 hm with hm | hm
 ·rcases List.mem_append.1 hm with hm | hm
  ·have := hin x (List.mem_filter.1 hm).1; exact ⟨this.1, h2, this.2⟩
  ·have e := List.mem_singleton.1 hm
   exact ⟨by rw [e]; exact hn, h2, by rw [e]; exact hv⟩
 ·have := hin x (List.mem_filter.1 hm).1; exact ⟨this.1, h2, this.2⟩
theorem DnOk.cons {r : PRdn} {p : List PRdn} (hr : DnOk [r]) (hp : DnOk p) (h6 : ¬ 6 ≤ p.length) : DnOk (r :: p) := by
 refine ⟨fun j x hx => ?_, by simp; omega⟩
 cases j with
 | zero => cases hx; exact hr.1 0 r rfl
 | succ j => exact hp.1 j x (by simpa using hx)
end Go.Proofs.Try1
end
section
namespace Go.Proofs.Try1
open Go Go.Lite


theorem Bl {l : List PAttr} {n : Str} (hl : eY l) : eY (bP l n []) := by
 have hp : l.Pairwise fun a b => a.name < b.name := jl (fun j x hx => (hl.1 j x hx).2.1)
 have e : bP l n [] = l.filter (fun a => dec (bT a.name n)) ++ l.filter (fun a => dec (bT n a.name)) := by
  unfold bP
  simp
 rw [e]
 have hpw : (l.filter (fun a => dec (bT a.name n)) ++ l.filter (fun a => dec (bT n a.name))).Pairwise fun a b => a.name < b.name :=
  List.pairwise_append.2 ⟨hp.filter _, hp.filter _, fun a ha b hb => List.lt_trans ((bf _ _).1 (dX.1 (List.mem_filter.1 ha).2)) ((bf _ _).1 (dX.1 (List.mem_filter.1 hb).2))⟩
 refine ⟨fun j x hx => ?_, ?_⟩
 ·have hm : x ∈ l := by
   rcases List.mem_append.1 (List.mem_of_getElem? hx) with h | h
   ·exact (List.mem_filter.1 h).1
   ·exact (List.mem_filter.1 h).1
  obtain ⟨q, hq, rfl⟩ := List.getElem_of_mem hm
  have := hl.1 q _ (List.getElem?_eq_getElem hq)
  exact ⟨this.1, zF hpw hx, this.2.2⟩
 ·have h1 := (wK (p := fun a : PAttr => dec (bT a.name n)) (q := fun a => dec (bT n a.name)) (fun x hx => eH (dX.1 hx.1) (dX.1 hx.2)) l).1
  have := hl.2
  simp only [List.length_append]
  omega
theorem Iq {e : PEntry} {n : Str} {vs : List Str} (he : EntryOk e) (hn : aG n) (hv : kH vs) (h0 : (mQ e n vs).code = 0) : EntryOk (mQ e n vs).entry := by
 unfold mQ at h0 ⊢
 split at h0
 ·cases h0
 rename_i g1
 rw [if_neg g1]
 refine ⟨he.1, he.2.1, ?_⟩
 show eY (bP e.attrs n (bV vs))
 by_cases hz : vs = []
 ·subst hz
  exact Bl he.2.2
 ·obtain ⟨h1, h2, h3⟩ := GG.1 hv
  refine Du he.2.2 hn (Ec h1 h2 (List.length_pos_iff.2 hz) h3) fun hh => g1 ⟨hz, hh.2, ?_⟩
  have h4 := hh.1
  unfold valsOf at h4
  cases hf : bi PAttr.name e.attrs n with
  | none => rfl
  | some a =>
   rw [hf] at h4
   obtain ⟨j, hj, rfl⟩ := List.getElem_of_mem (List.mem_of_find?_eq_some hf)
   have := (he.2.2.1 j _ (List.getElem?_eq_getElem hj)).2.2.2.1
   simp only at h4
   rw [h4] at this
   simp at this
end Go.Proofs.Try1
end
section
namespace Go.Proofs.Try1
open Go Go.Lite
attribute [-simp] df eP
attribute [local simp] bZ dY bW cZ bY bJ
attribute [local simp low] cu
noncomputable def jW (e : PEntry) (n : Str) : List Str := if 8000 < n.length then [] else if dec (EntryOk e) = true then valsOf e.attrs n else []
theorem xZ {e : PEntry} {n : Str} (hn : ¬ 8000 < n.length) (he : EntryOk e) : jW e n = valsOf e.attrs n := by unfold jW; rw [if_neg hn, aj he, if_pos rfl]
theorem BO {e : PEntry} {n : Str} (hn : 8000 < n.length) : jW e n = [] := by unfold jW; rw [if_pos hn]
theorem D7 {e : PEntry} {n : Str} (he : ¬ EntryOk e) : jW e n = [] := by
 unfold jW
 rw [ai he]
 split <;> rfl
theorem rE {G : List Ob} : AStrs G (.slc none 0) [] := aC.2 ⟨_, _, rfl, rfl, by simp, .inl ⟨rfl, rfl⟩⟩
theorem JJ {e : PEntry} {n : Str} (he : EntryOk e) : (valsOf e.attrs n).length ≤ 4 := by
 unfold valsOf
 split
 ·rename_i a ha
  obtain ⟨j, hj, rfl⟩ := List.getElem_of_mem (List.mem_of_find?_eq_some ha)
  exact (he.2.2.1 j _ (List.getElem?_eq_getElem hj)).2.2.2.2
 ·simp
theorem Cj {H : List Ob} {vd va : V} {e : PEntry} {n : Str} (hd : eu H vd e.dn) (ha : bD H va e.attrs) (hn : n.length ≤ maxLen) : ∃ T w, callW C 18 [.agg [vd, va], .str n] H = some (w, H ++ T) ∧ AStrs (H ++ T) w (jW e n) := by
 suffices hs : Ret C 18 [.agg [vd, va], .str n] H fun q H' => ∃ T, H' = H ++ T ∧ AStrs (H ++ T) q (jW e n) by
  obtain ⟨q, H', hc, T, rfl, hr⟩ := hs
  exact ⟨T, q, hc, hr⟩
 rw [Tt]
 have od := hd.one
 have oa := ha.one
 obtain ⟨HE, hHE⟩ : ∃ HE, HE = H ++ [Ob.mk true 2 [vd, va]] := ⟨_, rfl⟩
 have hgE : HE[H.length]? = some (.mk true 2 [vd, va]) := by rw [hHE]; exact get_last
 have hl : HE.length = H.length + 1 := by rw [hHE]; simp
 have hS : AStrs (HE ++ [.mk true 1 [.str n]]) (.slc (some (HE.length, 0)) 1) [n] := by
  have := (Gs.strs (H := HE) (G := HE ++ [.mk true 1 [.str n]]) (v := .slc (some (HE.length, 0)) [V.str n].length) (l := [n]) ⟨_, HE.length, rfl, by simp, get_last, rfl⟩ (by unfold maxLen; simp) (fun s hs => by simp at hs; subst hs; exact hn)).1
  simpa using this
 have c1 := Jo hS
 have ldE : ∀ T : LT, T.many 2 → ∀ r c, loadAt T ⟨r, c, HE ++ [.mk true 1 [.str n]]⟩ (.hp H.length 0) = some (.agg [vd, va]) := pF (l := [vd, va]) (aW _ _ hgE) (by simp) (by decide) (by rfl)
 have c2 := Aj (H := HE ++ [.mk true 1 [.str n]]) (by rw [hHE]; exact hd.ext.ext) (by rw [hHE]; exact ha.ext.ext)
 rw [hl] at c1
 subst hHE
 simp at c1 c2 ldE
 by_cases g1 : 8000 < n.length
 ·rw [aj (by simpa using g1)] at c1
  rw [BO g1]
  simp [zq, Tryz.f18, od, oa, aV, ax, ah, ay, St.new, aH, ak, c1]
  exact AStrs.gc rE
 rw [ai (by simpa using g1)] at c1
 by_cases g2 : EntryOk e
 rotate_left
 ·rw [ai g2] at c2
  rw [D7 g2]
  simp [zq, Tryz.f18, od, oa, aV, ax, ah, ay, St.new, aH, ak, c1, ldE, c2]
  exact AStrs.gc rE
 rw [aj g2] at c2
 rw [xZ g1 g2]
 obtain ⟨w, c3, hw⟩ := qA (H := H ++ [.mk true 2 [vd, va]] ++ [.mk true 1 [.str n]]) (t := n) (aW _ _ hgE) ha.ext.ext (by have := g2.2.2.2; omega) (EntryOk.rise g2)
 obtain ⟨T, w', c4, hn4⟩ := JS hw (by have := JJ (n := n) g2; omega)
 simp at c3 c4
 simp [zq, Tryz.f18, od, oa, aV, ax, ah, ay, St.new, aH, ak, c1, ldE, c2, c3, c4, hn4.one1]
 have := hn4.at
 simp only [List.append_assoc, List.cons_append, List.nil_append] at this
 exact AStrs.gc this
end Go.Proofs.Try1
end
section
namespace Go.Proofs.Try1
open Go Go.Lite
theorem Dy {e : PEntry} {n : Str} {l : List Str} (h0 : (bF e n l).code = 0) : EntryOk e ∧ aG n ∧ kH l ∧ EntryOk (bF e n l).entry ∧ (bF e n l).entry.attrs = bP e.attrs n (bV l) ∧ (bF e n l).entry.dn = e.dn := by
 unfold bF at h0 ⊢
 split at h0
 ·simp [jb] at h0
 rename_i g1
 rw [if_neg g1]
 by_cases g2 : EntryOk e ∧ aG n ∧ kH l
 rotate_left
 ·rw [ai g2] at h0
  simp [jb] at h0
 rw [aj g2, if_pos rfl] at h0 ⊢
 refine ⟨g2.1, g2.2.1, g2.2.2, Iq g2.1 g2.2.1 g2.2.2 h0, ?_⟩
 unfold mQ at h0 ⊢
 split at h0
 ·simp [jb] at h0
 ·rename_i g3
  rw [if_neg g3]
  exact ⟨rfl, rfl⟩
theorem F5 {l : List PAttr} {n : Str} {p : PAttr → Bool} (hp : ∀ a, p a = true → a.name ≠ n) : (l.filter p).find? (fun a => a.name == n) = none := by
 rw [List.find?_eq_none]
 intro a ha
 have := hp a (List.mem_filter.1 ha).2
 simpa using this
theorem xm {l : List PAttr} {n : Str} {vs : List Str} : valsOf (bP l n vs) n = vs := by
 have h1 : (l.filter fun a => dec (bT a.name n)).find? (fun a => a.name == n) = none := F5 fun a ha h => by
  rw [h] at ha; exact dG _ (dX.1 ha)
 have h2 : (l.filter fun a => dec (bT n a.name)).find? (fun a => a.name == n) = none := F5 fun a ha h => by
  rw [h] at ha; exact dG _ (dX.1 ha)
 unfold valsOf bi bP
 by_cases hv : vs = []
 ·subst hv
  rw [if_pos rfl, List.append_nil, List.find?_append, h1, h2]
  rfl
 ·rw [if_neg hv, List.find?_append, List.find?_append, h1]
  simp
theorem vW {e : PEntry} {n : Str} {vs : List Str} {a : PAttr} (ha : a ∈ e.attrs) (hne : a.name ≠ n) (hok : EntryOk ⟨e.dn, bP e.attrs n vs⟩) : valsOf (bP e.attrs n vs) a.name = a.vals := by
 have hm : a ∈ bP e.attrs n vs := by
  unfold bP
  rw [List.mem_append, List.mem_append]
  by_cases g : bT a.name n
  ·exact .inl (.inl (List.mem_filter.2 ⟨ha, aj g⟩))
  ·refine .inr (List.mem_filter.2 ⟨ha, aj ?_⟩)
   rcases mJ a.name n with h | h | h
   ·exact absurd h g
   ·exact absurd h hne
   ·exact h
 obtain ⟨j, hj, hja⟩ := List.getElem_of_mem hm
 have := uS (key := PAttr.name) (l := bP e.attrs n vs) (EntryOk.rise hok) (by rw [List.getElem?_eq_getElem hj, hja]) rfl
 unfold valsOf
 rw [this]
theorem GL {H : List Ob} {vl vd va : V} {l : List PClass} {e : PEntry} (hl : aP H vl l) (hd : eu H vd e.dn) (ha : bD H va e.attrs) :
  ∃ T w, callW C 29 [vl, .agg [vd, va]] H = some (w, H ++ T) ∧ AStrs (H ++ T) w (bC l e) := by
 suffices hs : Ret C 29 [vl, .agg [vd, va]] H fun q H' => ∃ T, H' = H ++ T ∧ AStrs (H ++ T) q (bC l e) by
  obtain ⟨q, H', hc, T, rfl, hr⟩ := hs
  exact ⟨T, q, hc, hr⟩
 rw [TR]
 have c1 := mY (hl.ext (T := [.mk true 1 []]))
 have c2 := qw (hd.ext (T := [.mk true 1 []])) (ha.ext (T := [.mk true 1 []]))
 have hod := hd.one
 have hoa := ha.one
 have hnil : AStrs (H ++ [.mk true 1 []]) (.slc (some (H.length, 0)) 0) [] := JC (by simp)
 by_cases g1 : aZ l
 rotate_left
 ·rw [ai g1] at c1
  have hm : bC l e = [] := by unfold bC; rw [ai (fun h => g1 h.1)]; rfl
  by_cases g0 : (l.length : Int) > 400
  ·simp [rQ, Tryz.f29, hl.len, g0, hod, hoa, ay, ax, ah, St.new, hm]
   exact hnil
  ·simp [rQ, Tryz.f29, hl.len, g0, c1, hod, hoa, ay, ax, ah, St.new, hm]
   exact hnil
 have g0 : ¬ (l.length : Int) > 400 := by have := g1.2; omega
 rw [aj g1] at c1
 by_cases g2 : EntryOk e
 rotate_left
 ·rw [ai g2] at c2
  have hm : bC l e = [] := by unfold bC; rw [ai (fun h => g2 h.2)]; rfl
  simp [rQ, Tryz.f29, hl.len, g0, c1, c2, hod, hoa, ay, ax, ah, St.new, hm]
  exact hnil
 rw [aj g2] at c2
 have hm : bC l e = match dW l e.attrs with
  | some c => lacks c e.attrs
  | none => [] := by unfold bC; rw [aj ⟨g1, g2⟩]; rfl
 obtain ⟨cs, ok, c3, hr⟩ := H9 (T := [.mk true 1 []]) hl ha hod.2 hod.1
 rcases hr with ⟨rfl, c, w1, w2, w3, h1, rfl, q1, q2, q3⟩ | ⟨rfl, h1, rfl⟩
 rotate_left
 ·rw [h1] at hm
  simp only at hm
  simp [rQ, Tryz.f29, hl.len, g0, c1, c2, c3, hod, hoa, ay, ax, ah, St.new]
  refine aA (fun k σ => ∃ (r : Nat → R), σ = ⟨r, 2, H ++ [.mk true 1 []]⟩ ∧ r 5 = .val (.slc (some (H.length, 0)) 0) ∧ r 7 = .val (.bool false)) ?_ 0 _ ⟨_, rfl, by simp, by simp⟩
  rintro k σ ⟨r, rfl, r5, r7⟩
  simp [r5, r7, hm]
  exact hnil
 rw [h1] at hm
 simp only at hm
 have hb : c.must.length ≤ 10 := by
  obtain ⟨i, hi⟩ : ∃ i, l[i]? = some c := by
   unfold dW at h1
   split at h1
   ·unfold bi at h1
    have := List.mem_of_find?_eq_some h1
    obtain ⟨i, hi, rfl⟩ := List.getElem_of_mem this
    exact ⟨i, List.getElem?_eq_getElem hi⟩
   ·cases h1
  exact (g1.1 i c hi).1.l1
 have hsl : ∀ s ∈ c.must, s.length ≤ maxLen := fun s hs => by
  obtain ⟨j, hj, rfl⟩ := List.getElem_of_mem hs
  obtain ⟨_, _, _, _, h⟩ := aU q1 (List.getElem?_eq_getElem hj)
  exact h
 simp [rQ, Tryz.f29, hl.len, g0, c1, c2, c3, hod, hoa, ay, ax, ah, St.new, q1.one, q2.one, q3.one]
 refine aA (fun k σ => ∃ (i : Nat) (r : Nat → R) (G : List Ob) (v : V), i + k = c.must.length ∧ σ = ⟨r, 2, G⟩ ∧ r 3 = .box 0 [vd, va] ∧ r 5 = .val v ∧ r 6 = .box 1 [.str c.name, w1, w2, w3] ∧ r 7 = .val (.bool true) ∧ r 8 = .val (.int .i64 i) ∧ Gs H G v (((c.must.take i).filter fun t => (bi PAttr.name e.attrs t).isNone).map V.str)) ?_ c.must.length _ ⟨0, _, _, _, by simp, rfl, by simp, by simp, by simp, by simp, by simp, Gs.init⟩
 rintro k σ ⟨i, r, G, v, hik, rfl, r3, r5, r6, r7, r8, hG⟩
 obtain ⟨T, rfl⟩ := hG.ext
 cases k with
 | zero =>
  have hi : i = c.must.length := by omega
  subst hi
  rw [List.take_length] at hG
  have hs := (hG.strs (by have := List.length_filter_le (fun t => (bi PAttr.name e.attrs t).isNone) c.must; unfold maxLen; omega) (fun s hs => hsl s (List.mem_filter.1 hs).1)).1
  simp [r3, r5, r6, r7, r8, (q1.ext (T := T)).len, hG.gc, hm]
  exact hs
 | succ k =>
  have hi : i < c.must.length := by omega
  obtain ⟨x, hx⟩ : ∃ y, c.must[i]? = some y := ⟨c.must[i], by simp [hi]⟩
  have hw : IntKind.i64.wrap ((i : Int) + 1) = ((i : Int) + 1) := wrap_i64 (by omega) (by omega)
  obtain ⟨id, o, e1, l0, _⟩ := aU (q1.ext (T := T)) hx
  obtain ⟨q, c4, hq⟩ := KU (t := x) (ha.ext (T := T)) hod.2
  have hft := tu hx fun t => (bi PAttr.name e.attrs t).isNone
  rcases hq.pos with ⟨j, a, _, rfl, g3⟩ | ⟨rfl, g3⟩
  ·have hj : ¬ ((j : Int) < 0) := by omega
   rw [g3] at hft
   simp at hft
   simp [r3, r5, r6, r7, r8, hi, (q1.ext (T := T)).len, e1, l0, c4, hj, hw, ae, hod, hoa]
   exact ⟨k, by omega, i + 1, by omega, _, _, ⟨rfl, rfl⟩, by simp [r3], v, by simp [r5], by simp [r6], by simp [r7], by simp, by rw [hft]; exact hG⟩
  ·rw [g3] at hft
   simp at hft
   obtain ⟨v', G', hap, hG'⟩ := hG.push (x := .str x) (z := [.str []]) (d := .str) (b := 16) rfl (by simp; have := List.length_filter_le (fun t => (bi PAttr.name e.attrs t).isNone) (c.must.take i); simp at this; unfold aB; omega) (by decide) (by decide) rfl
   simp only [List.append_assoc, List.length_append] at hap
   simp [r3, r5, r6, r7, r8, hi, (q1.ext (T := T)).len, e1, l0, c4, hw, ae, hod, hoa, ay, ax, ah, St.new, jk, hap]
   exact ⟨k, by omega, i + 1, by omega, _, _, ⟨rfl, rfl⟩, by simp [r3], v', by simp, by simp [r6], by simp [r7], by simp, by rw [hft]; simpa using hG'⟩
theorem Back.up {H G : List Ob} {X : List Ob} {w : V} {l : List Str} (h : Back (H ++ X) G w l) : Back H G w l := by
 obtain ⟨F, h1, h2, h3⟩ := h
 exact ⟨F, h1, h2, fun q hq => by have := h3 q hq; simp at this; omega⟩
theorem KG {H T : List Ob} {w : V} {l : List Str} (h : Back H (H ++ T) w l) : ∃ T', eU H (H ++ T) w = H ++ T' ∧ Back H (H ++ T') w l := by
 by_cases hl : dZ H w
 ·refine ⟨[], by rw [kw hl, List.append_nil], ?_⟩
  obtain ⟨F, h1, h2, h3⟩ := h
  have hF : F = [] := AtF.cut _ h1 h3 (by simp only [gK, and_true]; exact hl)
  subst hF
  exact ⟨[], AtF.frame _ (fun q hq => by cases hq) h1, by simp, by simp⟩
 ·refine ⟨T, ?_, h⟩
  unfold eU
  rw [if_neg fun h => hl h.2]
theorem oK {H : List Ob} {vl vd va : V} {l : List PClass} {e : PEntry} (hl : aP H vl l) (hd : eu H vd e.dn) (ha : bD H va e.attrs) :
  ∃ T w, callW C 28 [vl, .agg [vd, va]] H = some (w, H ++ T) ∧ Back H (H ++ T) w (bC l e) := by
 suffices hs : Ret C 28 [vl, .agg [vd, va]] H fun q H' => ∃ T, H' = H ++ T ∧ Back H (H ++ T) q (bC l e) by
  obtain ⟨q, H', hc, T, rfl, hr⟩ := hs
  exact ⟨T, q, hc, hr⟩
 rw [Tq]
 have hod := hd.one
 have hoa := ha.one
 have c1 := nG (hl.ext (T := [.mk true 2 [vd, va]]))
 have c2 := Aj (hd.ext (T := [.mk true 2 [vd, va]])) (ha.ext (T := [.mk true 2 [vd, va]]))
 have hgn : ∀ X, eU H (H ++ X) (.slc none 0) = H := fun X => kw trivial
 have ld := pF (H := H ++ [.mk true 2 [vd, va]]) (o := 0) (n := 2) get_last (by simp) (by decide) rfl
 simp at ld
 by_cases g1 : aZ l
 rotate_left
 ·rw [ai g1] at c1
  have hm : bC l e = [] := by unfold bC; rw [ai (fun h => g1 h.1)]; rfl
  simp [ww, Tryz.f28, c1, hod, hoa, aV, hgn, hm]
  exact Back.nil
 rw [aj g1] at c1
 by_cases g2 : EntryOk e
 rotate_left
 ·rw [ai g2] at c2
  have hm : bC l e = [] := by unfold bC; rw [ai (fun h => g2 h.2)]; rfl
  simp [ww, Tryz.f28, c1, c2, ld, hod, hoa, aV, hgn, hm]
  exact Back.nil
 rw [aj g2] at c2
 have hm : bC l e = match dW l e.attrs with
  | some c => lacks c e.attrs
  | none => [] := by unfold bC; rw [aj ⟨g1, g2⟩]; rfl
 have hpw : e.attrs.Pairwise fun a b => a.name < b.name := jl (fun j x hx => (g2.2.2.1 j x hx).2.1)
 have hal : e.attrs.length ≤ 1000 := by have := g2.2.2.2; omega
 have hcl : ∀ c ∈ l, c.must.length ≤ 1000 ∧ c.may.length ≤ 1000 ∧ c.single.length ≤ 1000 := fun c hc => by
  obtain ⟨j, hj, rfl⟩ := List.getElem_of_mem hc
  have := (g1.1 j _ (List.getElem?_eq_getElem hj)).1
  have h1 := this.l1; have h2 := this.l2; have h3 := this.l3
  omega
 obtain ⟨T1, cs, ok, c3, hres⟩ := yh (H := H ++ [.mk true 2 [vd, va]]) (ide := H.length) get_last ha.ext hal hpw hl.ext hcl
 rcases hres with ⟨rfl, c, w1, w2, w3, h1, rfl, q1, q2, q3⟩ | ⟨rfl, h1, rfl⟩
 rotate_left
 ·rw [h1] at hm
  simp only at hm
  simp only [List.append_assoc, List.cons_append, List.nil_append] at c3
  simp [ww, Tryz.f28, c1, c2, c3, ld, hod, hoa, aV, hgn, hm]
  exact Back.nil
 rw [h1] at hm
 simp only at hm
 have hc : c ∈ l := by
  unfold dW at h1
  split at h1
  ·exact List.mem_of_find?_eq_some h1
  ·cases h1
 obtain ⟨T2, w, c4, hb⟩ := yE (H := H ++ [.mk true 2 [vd, va]] ++ T1) (ide := H.length) (own := true) (es := 2) (vd := vd) (va := va) (by rw [List.append_assoc]; simp) (ha.ext.ext (T := T1) (H := H ++ [.mk true 2 [vd, va]])) hal hpw q1 q2.one q3.one (hcl c hc).1
 rw [vH g2.2.2] at hb
 have hb2 : Back H (H ++ ([.mk true 2 [vd, va]] ++ (T1 ++ T2))) w (bC l e) := by
  rw [hm]
  have := hb
  simp only [List.append_assoc] at this
  exact Back.up this
 obtain ⟨T', hg, hb3⟩ := KG hb2
 simp only [List.append_assoc, List.cons_append, List.nil_append] at c3 c4 hg
 simp [ww, Tryz.f28, c1, c2, c3, c4, ld, hod, hoa, aV, q1.one, q2.one, q3.one, hg]
 exact hb3
end Go.Proofs.Try1
end
section
namespace Go.Proofs.Try1
open Go Go.Lite
attribute [-simp] df eP
attribute [local simp] bZ dY bW cZ bY bJ
attribute [local simp low] cu
theorem Iu {H : List Ob} {v : V} {l : List Str} {t : Str} (h : AStrs H v l) (ht : t ∈ l) : callW C 35 [v, .str t] H = some (.bool true, H) := by
 apply Ret.eq
 rw [Tc]
 have hb : l.length ≤ 9223372036854775807 := h.bound
 have ho := h.one
 simp [Jq, Tryz.f35, ho]
 refine aA (fun k σ => ∃ (i : Nat) (r : Nat → R), i + k = l.length ∧ σ = ⟨r, 0, H⟩ ∧ r 0 = .val v ∧ r 1 = .val (.str t) ∧ r 5 = .val (.int .i64 i) ∧ t ∈ l.drop i) ?_ l.length _ ⟨0, _, by simp, rfl, by simp, by simp, by simp, by simpa using ht⟩
 rintro k σ ⟨i, r, hik, rfl, r0, r1, r5, hm⟩
 cases k with
 | zero =>
  have hi : i = l.length := by omega
  rw [List.drop_of_length_le (by omega)] at hm
  cases hm
 | succ k =>
  have hi : i < l.length := by omega
  obtain ⟨x, hx⟩ : ∃ c, l[i]? = some c := ⟨l[i], by simp [hi]⟩
  have hw : IntKind.i64.wrap ((i : Int) + 1) = ((i : Int) + 1) := wrap_i64 (by omega) (by omega)
  obtain ⟨id, o, e1, l0, _⟩ := aU h hx
  by_cases g : x = t
  ·simp [r0, r1, r5, hi, h.len, e1, l0, g, ae, af, List.lookup]
  ·simp [r0, r1, r5, hi, h.len, e1, l0, g, hw, ae, af, List.lookup]
   refine ⟨k, by omega, i + 1, by omega, by omega, ?_⟩
   rw [List.drop_eq_getElem_cons hi] at hm
   rcases List.mem_cons.1 hm with e | hm
   ·have : l[i] = x := by rw [List.getElem?_eq_getElem hi] at hx; exact Option.some.inj hx
    exact absurd (by rw [← this, e]) g
   ·exact hm
theorem qc {l : List PClass} {e : PEntry} (h : iP l e = 0) : aZ l ∧ EntryOk e ∧ ji l e := by
 unfold iP at h
 split at h
 ·simp at h
 by_cases g1 : aZ l
 ·rw [aj g1, if_pos rfl] at h
  by_cases g2 : EntryOk e
  ·rw [aj g2, if_pos rfl] at h
   by_cases g3 : ji l e
   ·exact ⟨g1, g2, g3⟩
   ·rw [ai g3] at h; simp at h
  ·rw [ai g2] at h; simp at h
 ·rw [ai g1] at h; simp at h
theorem qR {l : List PClass} {e : PEntry} (h : ji l e) : bC l e = [] := by
 obtain ⟨c, h1, h2, _⟩ := h
 unfold bC
 rw [h1]
 split
 ·exact h2
 ·rfl
theorem DJ {l : List PClass} {e : PEntry} {k : List Str} (h0 : iP l e = 0) (hk : KnownQ l k) :
  (∀ a ∈ e.attrs, a.name ∈ k) ∧ ∃ v0 c, jW e dN = [v0] ∧ dL l (norm v0) = c ∧ ∀ m ∈ c.must, (bF e m []).code = 0 ∧ iP l (bF e m []).entry = 12 := by
 obtain ⟨g1, g2, hf⟩ := qc h0
 obtain ⟨c, h1, h2, h3, _⟩ := hf
 have hmine := h1
 unfold dW at h1
 split at h1
 rotate_left
 ·cases h1
 rename_i v0 hv0
 have hcm := List.mem_of_find?_eq_some h1
 have hcn : c.name = norm v0 := by
  have := List.find?_some h1
  simpa using this
 have hcok : ClassOk c := by
  obtain ⟨j, hj, rfl⟩ := List.getElem_of_mem hcm
  exact (g1.1 j _ (List.getElem?_eq_getElem hj)).1
 refine ⟨fun a ha => ?_, v0, c, ?_, ?_, fun m hm => ?_⟩
 ·rw [hk.2]
  refine ⟨g1, ?_⟩
  unfold dJ
  rcases (h3 a ha).1 with h | h | h
  ·rw [h]; exact List.mem_cons_self
  ·exact List.mem_cons_of_mem _ (List.mem_flatMap.2 ⟨c, hcm, List.mem_append_left _ h⟩)
  ·exact List.mem_cons_of_mem _ (List.mem_flatMap.2 ⟨c, hcm, List.mem_append_right _ h⟩)
 ·rw [xZ (by decide) g2]; exact hv0
 ·unfold dL
  rw [if_neg (by have := wS (t := v0); omega), aj g1, if_pos rfl, h1]
  rfl
 ·have hmk : aG m := by
   obtain ⟨j, hj, rfl⟩ := List.getElem_of_mem hm
   exact (hcok.n1 j _ (List.getElem?_eq_getElem hj)).1
  have hne : m ≠ dN := fun h => hcok.noMust (by rw [← h]; exact hm)
  have hnew : kH [] := ⟨fun i x h => by simp at h, by simp⟩
  have hset : bF e m [] = ⟨pI e m [], 0⟩ := by
   unfold bF
   rw [if_neg (by have := hmk.2.1; simp; omega), aj ⟨g2, hmk, hnew⟩, if_pos rfl]
   unfold mQ
   rw [if_neg (fun h => h.1 rfl)]
   rfl
  have hcode : (bF e m []).code = 0 := by rw [hset]
  obtain ⟨_, _, _, hok, hat, _⟩ := Dy hcode
  refine ⟨hcode, ?_⟩
  have hcls : valsOf (bF e m []).entry.attrs dN = [v0] := by
   rw [hat]
   have hv := hv0
   unfold valsOf at hv
   split at hv
   rotate_left
   ·cases hv
   rename_i a ha
   have han : a.name = dN := by have := List.find?_some ha; simpa using this
   have := vW (n := m) (vs := bV []) (List.mem_of_find?_eq_some ha) (by rw [han]; exact fun h => hne h.symm) (by
    have e1 : (⟨e.dn, bP e.attrs m (bV [])⟩ : PEntry) = (bF e m []).entry := by rw [hset]; rfl
    rw [e1]; exact hok)
   rw [han] at this
   rw [this]; exact hv
  have hnf : ¬ ji l (bF e m []).entry := by
   rintro ⟨c', k1, k2, _⟩
   unfold dW at k1
   rw [hcls] at k1
   simp only at k1
   rw [h1] at k1
   cases k1
   have hmem : m ∈ lacks c (bF e m []).entry.attrs := by
    unfold lacks
    refine List.mem_filter.2 ⟨hm, ?_⟩
    have hvm : valsOf (bF e m []).entry.attrs m = [] := by rw [hat, xm, xM]
    cases hff : bi PAttr.name (bF e m []).entry.attrs m with
    | none => rfl
    | some a =>
     unfold valsOf at hvm
     rw [hff] at hvm
     obtain ⟨j, hj, rfl⟩ := List.getElem_of_mem (List.mem_of_find?_eq_some hff)
     have := (hok.2.2.1 j _ (List.getElem?_eq_getElem hj)).2.2.2.1
     simp only at hvm
     rw [hvm] at this
     simp at this
   rw [k2] at hmem
   cases hmem
  unfold iP
  rw [if_neg (by have := g1.2; omega), aj g1, if_pos rfl, aj hok, if_pos rfl, ai hnf]
  rfl
end Go.Proofs.Try1
end
section
namespace Go.Lite
open Go
def EqBy {α : Type} (p : α → α → Prop) (l m : List α) : Prop := l.length = m.length ∧ ∀ (i : Nat) x y, l[i]? = some x → m[i]? = some y → p x y
theorem EqBy.symm {α : Type} {p : α → α → Prop} (hp : ∀ x y, p x y → p y x) {l m : List α} (h : EqBy p l m) : EqBy p m l := ⟨h.1.symm, fun i x y hx hy => hp _ _ (h.2 i y x hy hx)⟩
def EqUp {α : Type} (p : α → α → Prop) (l m : List α) (i : Nat) : Prop := ∀ (j : Nat) x y, j < i → l[j]? = some x → m[j]? = some y → p x y
theorem EqUp.zero {α : Type} {p : α → α → Prop} {l m : List α} : EqUp p l m 0 := fun j x y h => absurd h (by omega)
theorem EqUp.succ {α : Type} {p : α → α → Prop} {l m : List α} {i : Nat} {x y : α} (h : EqUp p l m i) (hx : l[i]? = some x) (hy : m[i]? = some y) (hp : p x y) : EqUp p l m (i + 1) := fun j a b hj ha hb => by
 by_cases e : j = i
 ·subst e; rw [hx] at ha; rw [hy] at hb; cases ha; cases hb; exact hp
 ·exact h j a b (by omega) ha hb
theorem EqUp.all {α : Type} {p : α → α → Prop} {l m : List α} {n : Nat} (hn : n = l.length) (hl : l.length = m.length) (h : EqUp p l m n) : EqBy p l m := ⟨hl, fun i x y hx hy => h i x y (by have := (List.getElem?_eq_some_iff.1 hx).1; omega) hx hy⟩
theorem EqBy.eq {α : Type} {l m : List α} : EqBy (fun x y => x = y) l m ↔ l = m := ⟨fun h => List.ext_getElem? fun i => by
  cases h1 : l[i]? with
  | none => rw [List.getElem?_eq_none (by have := List.getElem?_eq_none_iff.1 h1; rw [← h.1]; exact this)]
  | some x =>
   have hi := (List.getElem?_eq_some_iff.1 h1).1
   have hi' : i < m.length := by rw [← h.1]; exact hi
   rw [List.getElem?_eq_getElem hi', h.2 i x _ h1 (List.getElem?_eq_getElem hi')], fun h => by subst h; exact ⟨rfl, fun i x y hx hy => by rw [hx] at hy; cases hy; rfl⟩⟩
end Go.Lite
end
section
namespace Go.Proofs.Try1
open Go Go.Lite
attribute [-simp] df eP
attribute [local simp] bZ dY bW cZ bY bJ
attribute [local simp low] cu
theorem Bv {H : List Ob} {v w : V} {l m : List Str} (h : AStrs H v l) (h' : AStrs H w m) : callW C 17 [v, w] H = some (.bool (dec (l = m)), H) := by
 rw [← FW (EqBy.eq (l := l) (m := m))]
 apply Ret.dec
 rw [Tn]
 have hb : l.length ≤ 9223372036854775807 := h.bound
 have ho := h.one
 have ho' := h'.one
 by_cases hl : l.length = m.length
 rotate_left
 ·have hn : ¬ EqBy (fun x y => x = y) l m := fun h => hl h.1
  have hl' : ¬ (l.length : Int) = m.length := by omega
  simp [CP, Tryz.f17, h.len, h'.len, ho, ho', hl, hl', hn]
 have hl' : (l.length : Int) = m.length := by omega
 simp [CP, Tryz.f17, h.len, h'.len, ho, ho', hl, hl']
 refine aA (fun k σ => ∃ (i : Nat) (r : Nat → R), i + k = l.length ∧ σ = ⟨r, 0, H⟩ ∧ r 0 = .val v ∧ r 1 = .val w ∧ r 5 = .val (.int .i64 i) ∧ EqUp (fun x y => x = y) l m i) ?_ l.length _ ⟨0, _, by simp, rfl, by simp, by simp, by simp, EqUp.zero⟩
 rintro k σ ⟨i, r, hik, rfl, r0, r1, r5, hall⟩
 cases k with
 | zero =>
  have hx : EqBy (fun x y => x = y) l m := hall.all (by omega) hl
  have : ¬ i < l.length := by omega
  simp [r0, r1, r5, h.len, hx, this]
 | succ k =>
  have hi : i < l.length := by omega
  have hi' : i < m.length := by omega
  obtain ⟨x, hx⟩ : ∃ c, l[i]? = some c := ⟨l[i], by simp [hi]⟩
  obtain ⟨y, hy⟩ : ∃ c, m[i]? = some c := ⟨m[i]'(by omega), by simp⟩
  have hw : IntKind.i64.wrap ((i : Int) + 1) = ((i : Int) + 1) := wrap_i64 (by omega) (by omega)
  obtain ⟨id, o, e1, l0, _⟩ := aU h hx
  obtain ⟨id', o', e1', l0', _⟩ := aU h' hy
  by_cases g1 : x = y
  ·simp [r0, r1, r5, hi, hi', h.len, h'.len, e1, e1', l0, l0', g1, hw, ae, af, List.lookup]
   exact ⟨k, by omega, i + 1, by omega, by omega, hall.succ hx hy g1⟩
  ·have hn : ¬ EqBy (fun x y => x = y) l m := fun h => g1 (h.2 i x y hx hy)
   simp [r0, r1, r5, hi, hi', h.len, h'.len, e1, e1', l0, l0', g1, hn, ae, af, List.lookup]
theorem zJ {H : List Ob} {v v' : V} {us us' : List U} (hv : At H (.slice (.int .u8)) [v] (.lst us)) (hv' : At H (.slice (.int .u8)) [v'] (.lst us')) : Ret C 4 [v, v'] H fun r _ => r = .bool true := by
 have hA : ASl H (.int .u8) (fun u => u) v us := by unfold ASl; simpa using hv
 have hA' : ASl H (.int .u8) (fun u => u) v' us' := by unfold ASl; simpa using hv'
 have o1 := hA.one
 have o2 := hA'.one
 rw [Vp]
 by_cases g1 : 1048576 < us.length
 ·have g1' : (1048576 : Int) < us.length := by omega
  simp [xg, Tryz.f4, o1, o2, hA.len, g1']
 have g1' : ¬ (1048576 : Int) < us.length := by omega
 by_cases g2 : 1048576 < us'.length
 ·have g2' : (1048576 : Int) < us'.length := by omega
  simp [xg, Tryz.f4, o1, o2, hA.len, hA'.len, g1', g2']
 have g2' : ¬ (1048576 : Int) < us'.length := by omega
 obtain ⟨q, H', c1, T1, w, w1, w2, l, e, rfl, rfl, a0, a1, a2⟩ := J5 hv
 have p0 := a0.one
 have p1 := a1.one
 have p2 := a2.one
 have c2 := qp a0 a1 a2
 obtain ⟨q, H', c3, T2, z, z1, z2, m, f, rfl, rfl, b0, b1, b2⟩ := Gj (H := H ++ T1) hv'.ext
 have p3 := b0.one
 have p4 := b1.one
 have p5 := b2.one
 obtain ⟨q, H', c4, T3, y, nm, lc, rfl, rfl, d0, hnm⟩ := Hq (H := H ++ T1 ++ T2) hv'.ext.ext
 have p6 := d0.one
 obtain ⟨T4, wk, k, c5, hk, hkq⟩ := Lr (H := H ++ T1 ++ T2 ++ T3) a0.ext.ext
 have p7 := hk.one
 have c6 := Jn (H := H ++ T1 ++ T2 ++ T3 ++ T4) a0.ext.ext.ext a1.ext.ext.ext a2.ext.ext.ext
 obtain ⟨T5, wm, c7, hm5⟩ := oK (H := H ++ T1 ++ T2 ++ T3 ++ T4) b0.ext.ext b1.ext.ext b2.ext.ext
 obtain ⟨T6, wn, c8, hn6⟩ := GL (H := H ++ T1 ++ T2 ++ T3 ++ T4 ++ T5) b0.ext.ext.ext b1.ext.ext.ext b2.ext.ext.ext
 have hm5' : AStrs (H ++ T1 ++ T2 ++ T3 ++ T4 ++ T5) wm (bC m f) := hm5.elim fun _ h => AtF.at _ h.1
 have c9 := Bv hm5'.ext hn6
 rw [aj rfl] at c9
 obtain ⟨q, H', c10, T7, x1, x2, x3, rfl, rfl, _⟩ := rW (H := H ++ T1 ++ T2 ++ T3 ++ T4 ++ T5 ++ T6) (t := nm) d0.ext.ext.ext (by unfold maxLen; omega)
 obtain ⟨q, H', c11, T8, y1, y2, y3, rfl, rfl, _⟩ := Gh (H := H ++ T1 ++ T2 ++ T3 ++ T4 ++ T5 ++ T6 ++ T7) (t := nm) d0.ext.ext.ext.ext
 obtain ⟨T9, wq, k', c12, hk', hkq'⟩ := Ku (H := H ++ T1 ++ T2 ++ T3 ++ T4 ++ T5 ++ T6 ++ T7 ++ T8) a0.ext.ext.ext.ext.ext.ext.ext
 obtain rfl := hkq.eq hkq'
 have c13 := Bv (hk.ext (T := T5) |>.ext (T := T6) |>.ext (T := T7) |>.ext (T := T8) |>.ext (T := T9)) hk'
 rw [aj rfl] at c13
 have c14 := nG (H := H ++ T1 ++ T2 ++ T3 ++ T4 ++ T5 ++ T6 ++ T7 ++ T8 ++ T9) a0.ext.ext.ext.ext.ext.ext.ext.ext
 have c15 := mY (H := H ++ T1 ++ T2 ++ T3 ++ T4 ++ T5 ++ T6 ++ T7 ++ T8 ++ T9) a0.ext.ext.ext.ext.ext.ext.ext.ext
 generalize dec (aZ l) = bs at c14 c15
 obtain ⟨T10, wr, c16, hm10⟩ := oK (H := H ++ T1 ++ T2 ++ T3 ++ T4 ++ T5 ++ T6 ++ T7 ++ T8 ++ T9) b0.ext.ext.ext.ext.ext.ext.ext b1.ext.ext.ext.ext.ext.ext.ext b2.ext.ext.ext.ext.ext.ext.ext
 have hm10' : AStrs (H ++ T1 ++ T2 ++ T3 ++ T4 ++ T5 ++ T6 ++ T7 ++ T8 ++ T9 ++ T10) wr (bC m f) := hm10.elim fun _ h => AtF.at _ h.1
 have p8 := hm10'.one
 have c17 := qp (H := H ++ T1 ++ T2 ++ T3 ++ T4 ++ T5 ++ T6 ++ T7 ++ T8 ++ T9 ++ T10) b0.ext.ext.ext.ext.ext.ext.ext.ext b1.ext.ext.ext.ext.ext.ext.ext.ext b2.ext.ext.ext.ext.ext.ext.ext.ext
 have hml := hm10'.bound
 have mis : (0 : Int) < (bC m f).length → ¬ iP m f = 0 := fun h h0 => by
  rw [qR (qc h0).2.2] at h
  simp at h
 have hlen10 := fun {e s b : Nat} {z : List V} => hm10'.len (e := e) (s := s) (b := b) (z := z)
 have m0 := a0.ext (T := T2) |>.ext (T := T3) |>.ext (T := T4) |>.ext (T := T5) |>.ext (T := T6) |>.ext (T := T7) |>.ext (T := T8) |>.ext (T := T9) |>.ext (T := T10)
 have m1 := a1.ext (T := T2) |>.ext (T := T3) |>.ext (T := T4) |>.ext (T := T5) |>.ext (T := T6) |>.ext (T := T7) |>.ext (T := T8) |>.ext (T := T9) |>.ext (T := T10)
 have m2 := a2.ext (T := T2) |>.ext (T := T3) |>.ext (T := T4) |>.ext (T := T5) |>.ext (T := T6) |>.ext (T := T7) |>.ext (T := T8) |>.ext (T := T9) |>.ext (T := T10)
 have m3 := hk.ext (T := T5) |>.ext (T := T6) |>.ext (T := T7) |>.ext (T := T8) |>.ext (T := T9) |>.ext (T := T10)
 simp only [List.append_assoc] at c1 c2 c3 c4 c5 c6 c7 c8 c9 c10 c11 c12 c13 c14 c15 c16 c17 m0 m1 m2 m3
 by_cases g4 : iP l e = 0
 rotate_left
 ·cases hmf : bC m f with
  | nil =>
   rw [hmf] at hlen10
   simp at hlen10
   simp [xg, Tryz.f4, o1, o2, hA.len, hA'.len, g1', g2', ax, ah, ay, St.new, aH, ak, jO, mP, ae, af, List.lookup, c1, c2, c3, c4, c5, c6, c7, c8, c9, c10, c11, c12, c13, c14, c15, c16, c17, p0, p1, p2, p3, p4, p5, p6, p7, p8, hlen10, g4]
  | cons s0 ss =>
   have g3' := mis (by rw [hmf]; simp)
   have hpos : (0 : Int) < (ss.length : Int) + 1 := by omega
   rw [hmf] at hlen10
   simp at hlen10
   simp [xg, Tryz.f4, o1, o2, hA.len, hA'.len, g1', g2', ax, ah, ay, St.new, aH, ak, jO, mP, ae, af, List.lookup, c1, c2, c3, c4, c5, c6, c7, c8, c9, c10, c11, c12, c13, c14, c15, c16, c17, p0, p1, p2, p3, p4, p5, p6, p7, p8, hlen10, hpos, g3', g4]
 obtain ⟨N1, v0, c, N2, N3, N4⟩ := DJ g4 hkq
 have N5 := qR (qc g4).2.2
 have hlb := m2.bound
 unfold maxLen at hlb
 rw [g4] at c2 c6
 cases hmf : bC m f with
 | nil =>
  rw [hmf] at hlen10
  simp at hlen10
  simp [xg, Tryz.f4, o1, o2, hA.len, hA'.len, g1', g2', ax, ah, ay, St.new, aH, ak, jO, mP, ae, af, List.lookup, c1, c2, c3, c4, c5, c6, c7, c8, c9, c10, c11, c12, c13, c14, c15, c16, c17, p0, p1, p2, p3, p4, p5, p6, p7, p8, hlen10, m2.len]
  clear c1 c2 c3 c4 c5 c6 c7 c8 c9 c10 c11 c12 c13 c14 c15 c16 c17 p3 p4 p5 p6 p8
  generalize H ++ (T1 ++ (T2 ++ (T3 ++ (T4 ++ (T5 ++ (T6 ++ (T7 ++ (T8 ++ (T9 ++ T10))))))))) = G at m0 m1 m2 m3 ⊢
  refine WP.mono (Q := fun ex σ' => ex = .exit 0 ∧ ∃ (r : Nat → R) (n : Nat), σ' = ⟨r, n, G⟩ ∧ r 5 = .val w ∧ ∃ c, r 6 = .box c [w1, w2]) ?_ ?_
  ·refine aA (fun k σ => ∃ (i : Nat) (r : Nat → R) (n : Nat), i + k = e.attrs.length ∧ σ = ⟨r, n, G⟩ ∧ r 5 = .val w ∧ (∃ c, r 6 = .box c [w1, w2]) ∧ r 12 = .val wk ∧ r 13 = .val (.int .i64 i)) ?_ e.attrs.length _ ⟨0, _, _, by simp, rfl, by simp, ⟨_, by simp; rfl⟩, by simp, by simp⟩
   rintro j σ ⟨i, r, n, hik, rfl, r5, ⟨cc, r6⟩, r12, r13⟩
   cases j with
   | zero =>
    have hi : i = e.attrs.length := by omega
    subst hi
    simp [r5, r6, r12, r13, p0, p1, p2, p7, m2.len, ae, af, List.lookup]
   | succ j =>
    have hi : i < e.attrs.length := by omega
    obtain ⟨x, hx⟩ : ∃ c, e.attrs[i]? = some c := ⟨e.attrs[i], by simp [hi]⟩
    have hxm := List.mem_of_getElem? hx
    have hw : IntKind.i64.wrap ((i : Int) + 1) = ((i : Int) + 1) := wrap_i64 (by omega) (by omega)
    obtain ⟨id, o, u, k1, kl, hu, hnl, hidl, _⟩ := mr m2 hx
    have l0 := (kl G ⟨[], by simp⟩).1
    have cl := Iu m3 (N1 x hxm)
    simp [r5, r6, r12, r13, p0, p1, p2, p7, m2.len, hi, hw, k1, l0, cl, ae, af, List.lookup]
    exact ⟨j, by omega, i + 1, by omega, by omega⟩
  ·rintro ex σ' ⟨rfl, r, n, rfl, r5, ⟨cc, r6⟩⟩
   obtain ⟨T11, x1, d1, g1⟩ := Cj m1 m2 (n := dN) (by decide)
   rw [N2] at g1
   obtain ⟨id, o, k1, k2, _, _⟩ := lJ g1 (i := 0) rfl
   have k3 := k2 (G ++ T11) ⟨[], by simp⟩
   have k5 : ∀ (e s b : Nat) (z : List V) (ty : Nat → LT) (k : IntKind), (ty e).size = 1 → dE ⟨.slice e, s, b, z⟩ ty (.val x1) (.int k 0) = some (.val (.ptr (some (id, o)))) := k1
   have d4 : callW C 18 [.agg [w1, w2], .str [99, 108, 97, 115, 115]] G = some (x1, G ++ T11) := d1
   have d2 := nD (t := v0) (H := G ++ T11)
   have hnl := wS (t := v0)
   obtain ⟨q, H', d3, T12, y1, y2, y3, rfl, rfl, y4⟩ := rW (H := G ++ T11) (t := norm v0) m0.ext (by unfold maxLen; omega)
   rw [N3] at d3 y4
   have p9 := g1.one
   have p10 := y4.one
   have hxlen := g1.len (e := 9) (s := 1) (b := 24) (z := [.slc none 0])
   simp only [List.append_assoc] at d1 d2 d3 y4
   have n0 := m0.ext (T := T11 ++ T12)
   have n1 := m1.ext (T := T11 ++ T12)
   have n2 := m2.ext (T := T11 ++ T12)
   simp [r5, r6, p0, p1, p2, p9, p10, d4, d2, d3, k5, k3, jO, mP, ae, af, List.lookup]
   clear d1 d2 d3 d4 k1 k2 k3 k5 g1 p9
   generalize G ++ (T11 ++ T12) = F at n0 n1 n2 y4 ⊢
   have hcb := y4.bound
   unfold maxLen at hcb
   refine WP.mono (Q := fun ex σ' => ex = .exit 2 ∧ ∃ (r : Nat → R) (n : Nat) (T : List Ob), σ' = ⟨r, n, F ++ T⟩ ∧ r 5 = .val w ∧ ∃ c, r 6 = .box c [w1, w2]) ?_ ?_
   ·refine aA (fun k σ => ∃ (i : Nat) (r : Nat → R) (n : Nat) (T : List Ob), i + k = c.must.length ∧ σ = ⟨r, n, F ++ T⟩ ∧ r 5 = .val w ∧ (∃ c, r 6 = .box c [w1, w2]) ∧ r 14 = .val y1 ∧ r 15 = .val (.int .i64 i)) ?_ c.must.length _ ⟨0, _, _, [], by simp, by rw [List.append_nil], by simp [r5], ⟨_, by simp [r6]; rfl⟩, by simp, by simp⟩
    clear r5 r6 r n
    rintro j σ ⟨i, r, n, T, hik, rfl, r5, ⟨cc, r6⟩, r14, r15⟩
    cases j with
    | zero =>
     have hi : i = c.must.length := by omega
     subst hi
     simp [r5, r6, r14, r15, p0, p1, p2, p10, y4.len, ae, af, List.lookup]
    | succ j =>
     have hi : i < c.must.length := by omega
     obtain ⟨x, hx⟩ : ∃ z, c.must[i]? = some z := ⟨c.must[i], by simp [hi]⟩
     obtain ⟨N6, N7⟩ := N4 x (List.mem_of_getElem? hx)
     have hw : IntKind.i64.wrap ((i : Int) + 1) = ((i : Int) + 1) := wrap_i64 (by omega) (by omega)
     obtain ⟨id, o, k1, k2, k3, _⟩ := lJ y4 hx
     have k4 := k2 (F ++ T) ⟨T, rfl⟩
     obtain ⟨q, H', d1, T', u1, u2, rfl, rfl, hx, _⟩ := xY (n1.ext (T := T)) (n2.ext (T := T)) k3 (rE (G := F ++ T))
     obtain ⟨_, _, hcs, b1, b2, hwf⟩ := dD.1 hx
     cases hcs
     have d2 := qp (n0.ext (T := T) |>.ext (T := T')) b1 b2
     rw [N7] at d2
     rw [N6] at d1
     have q1 := b1.one
     have q2 := b2.one
     simp only [List.append_assoc] at d1 d2
     simp [r5, r6, r14, r15, p0, p1, p2, p10, y4.len, hi, hw, k1, k4, d1, d2, q1, q2, jO, mP, ae, af, List.lookup]
     exact ⟨j, by omega, i + 1, by omega, by omega⟩
   ·rintro ex σ' ⟨rfl, r, n, T, rfl, r5, ⟨cc, r6⟩⟩
    obtain ⟨T', x9, d1, h9⟩ := oK (n0.ext (T := T)) (n1.ext (T := T)) (n2.ext (T := T))
    rw [N5] at h9
    have h9' : AStrs (F ++ T ++ T') x9 [] := h9.elim fun _ h => AtF.at _ h.1
    have p11 := h9'.one
    have hl9 := fun {e s b : Nat} {z : List V} => h9'.len (e := e) (s := s) (b := b) (z := z)
    simp at hl9
    simp only [List.append_assoc] at d1
    simp [r5, r6, p0, p1, p2, p11, d1, hl9, ae, af, List.lookup]
 | cons s0 ss =>
  have g3' := mis (by rw [hmf]; simp)
  have hpos : (0 : Int) < (ss.length : Int) + 1 := by omega
  rw [hmf] at hlen10
  simp at hlen10
  simp [xg, Tryz.f4, o1, o2, hA.len, hA'.len, g1', g2', ax, ah, ay, St.new, aH, ak, jO, mP, ae, af, List.lookup, c1, c2, c3, c4, c5, c6, c7, c8, c9, c10, c11, c12, c13, c14, c15, c16, c17, p0, p1, p2, p3, p4, p5, p6, p7, p8, hlen10, hpos, g3', m2.len]
  clear c1 c2 c3 c4 c5 c6 c7 c8 c9 c10 c11 c12 c13 c14 c15 c16 c17 p3 p4 p5 p6 p8
  generalize H ++ (T1 ++ (T2 ++ (T3 ++ (T4 ++ (T5 ++ (T6 ++ (T7 ++ (T8 ++ (T9 ++ T10))))))))) = G at m0 m1 m2 m3 ⊢
  refine WP.mono (Q := fun ex σ' => ex = .exit 0 ∧ ∃ (r : Nat → R) (n : Nat), σ' = ⟨r, n, G⟩ ∧ r 5 = .val w ∧ ∃ c, r 6 = .box c [w1, w2]) ?_ ?_
  ·refine aA (fun k σ => ∃ (i : Nat) (r : Nat → R) (n : Nat), i + k = e.attrs.length ∧ σ = ⟨r, n, G⟩ ∧ r 5 = .val w ∧ (∃ c, r 6 = .box c [w1, w2]) ∧ r 12 = .val wk ∧ r 13 = .val (.int .i64 i)) ?_ e.attrs.length _ ⟨0, _, _, by simp, rfl, by simp, ⟨_, by simp; rfl⟩, by simp, by simp⟩
   rintro j σ ⟨i, r, n, hik, rfl, r5, ⟨cc, r6⟩, r12, r13⟩
   cases j with
   | zero =>
    have hi : i = e.attrs.length := by omega
    subst hi
    simp [r5, r6, r12, r13, p0, p1, p2, p7, m2.len, ae, af, List.lookup]
   | succ j =>
    have hi : i < e.attrs.length := by omega
    obtain ⟨x, hx⟩ : ∃ c, e.attrs[i]? = some c := ⟨e.attrs[i], by simp [hi]⟩
    have hxm := List.mem_of_getElem? hx
    have hw : IntKind.i64.wrap ((i : Int) + 1) = ((i : Int) + 1) := wrap_i64 (by omega) (by omega)
    obtain ⟨id, o, u, k1, kl, hu, hnl, hidl, _⟩ := mr m2 hx
    have l0 := (kl G ⟨[], by simp⟩).1
    have cl := Iu m3 (N1 x hxm)
    simp [r5, r6, r12, r13, p0, p1, p2, p7, m2.len, hi, hw, k1, l0, cl, ae, af, List.lookup]
    exact ⟨j, by omega, i + 1, by omega, by omega⟩
  ·rintro ex σ' ⟨rfl, r, n, rfl, r5, ⟨cc, r6⟩⟩
   obtain ⟨T11, x1, d1, g1⟩ := Cj m1 m2 (n := dN) (by decide)
   rw [N2] at g1
   obtain ⟨id, o, k1, k2, _, _⟩ := lJ g1 (i := 0) rfl
   have k3 := k2 (G ++ T11) ⟨[], by simp⟩
   have k5 : ∀ (e s b : Nat) (z : List V) (ty : Nat → LT) (k : IntKind), (ty e).size = 1 → dE ⟨.slice e, s, b, z⟩ ty (.val x1) (.int k 0) = some (.val (.ptr (some (id, o)))) := k1
   have d4 : callW C 18 [.agg [w1, w2], .str [99, 108, 97, 115, 115]] G = some (x1, G ++ T11) := d1
   have d2 := nD (t := v0) (H := G ++ T11)
   have hnl := wS (t := v0)
   obtain ⟨q, H', d3, T12, y1, y2, y3, rfl, rfl, y4⟩ := rW (H := G ++ T11) (t := norm v0) m0.ext (by unfold maxLen; omega)
   rw [N3] at d3 y4
   have p9 := g1.one
   have p10 := y4.one
   have hxlen := g1.len (e := 9) (s := 1) (b := 24) (z := [.slc none 0])
   simp only [List.append_assoc] at d1 d2 d3 y4
   have n0 := m0.ext (T := T11 ++ T12)
   have n1 := m1.ext (T := T11 ++ T12)
   have n2 := m2.ext (T := T11 ++ T12)
   simp [r5, r6, p0, p1, p2, p9, p10, d4, d2, d3, k5, k3, jO, mP, ae, af, List.lookup]
   clear d1 d2 d3 d4 k1 k2 k3 k5 g1 p9
   generalize G ++ (T11 ++ T12) = F at n0 n1 n2 y4 ⊢
   have hcb := y4.bound
   unfold maxLen at hcb
   refine WP.mono (Q := fun ex σ' => ex = .exit 2 ∧ ∃ (r : Nat → R) (n : Nat) (T : List Ob), σ' = ⟨r, n, F ++ T⟩ ∧ r 5 = .val w ∧ ∃ c, r 6 = .box c [w1, w2]) ?_ ?_
   ·refine aA (fun k σ => ∃ (i : Nat) (r : Nat → R) (n : Nat) (T : List Ob), i + k = c.must.length ∧ σ = ⟨r, n, F ++ T⟩ ∧ r 5 = .val w ∧ (∃ c, r 6 = .box c [w1, w2]) ∧ r 14 = .val y1 ∧ r 15 = .val (.int .i64 i)) ?_ c.must.length _ ⟨0, _, _, [], by simp, by rw [List.append_nil], by simp [r5], ⟨_, by simp [r6]; rfl⟩, by simp, by simp⟩
    clear r5 r6 r n
    rintro j σ ⟨i, r, n, T, hik, rfl, r5, ⟨cc, r6⟩, r14, r15⟩
    cases j with
    | zero =>
     have hi : i = c.must.length := by omega
     subst hi
     simp [r5, r6, r14, r15, p0, p1, p2, p10, y4.len, ae, af, List.lookup]
    | succ j =>
     have hi : i < c.must.length := by omega
     obtain ⟨x, hx⟩ : ∃ z, c.must[i]? = some z := ⟨c.must[i], by simp [hi]⟩
     obtain ⟨N6, N7⟩ := N4 x (List.mem_of_getElem? hx)
     have hw : IntKind.i64.wrap ((i : Int) + 1) = ((i : Int) + 1) := wrap_i64 (by omega) (by omega)
     obtain ⟨id, o, k1, k2, k3, _⟩ := lJ y4 hx
     have k4 := k2 (F ++ T) ⟨T, rfl⟩
     obtain ⟨q, H', d1, T', u1, u2, rfl, rfl, hx, _⟩ := xY (n1.ext (T := T)) (n2.ext (T := T)) k3 (rE (G := F ++ T))
     obtain ⟨_, _, hcs, b1, b2, hwf⟩ := dD.1 hx
     cases hcs
     have d2 := qp (n0.ext (T := T) |>.ext (T := T')) b1 b2
     rw [N7] at d2
     rw [N6] at d1
     have q1 := b1.one
     have q2 := b2.one
     simp only [List.append_assoc] at d1 d2
     simp [r5, r6, r14, r15, p0, p1, p2, p10, y4.len, hi, hw, k1, k4, d1, d2, q1, q2, jO, mP, ae, af, List.lookup]
     exact ⟨j, by omega, i + 1, by omega, by omega⟩
   ·rintro ex σ' ⟨rfl, r, n, T, rfl, r5, ⟨cc, r6⟩⟩
    obtain ⟨T', x9, d1, h9⟩ := oK (n0.ext (T := T)) (n1.ext (T := T)) (n2.ext (T := T))
    rw [N5] at h9
    have h9' : AStrs (F ++ T ++ T') x9 [] := h9.elim fun _ h => AtF.at _ h.1
    have p11 := h9'.one
    have hl9 := fun {e s b : Nat} {z : List V} => h9'.len (e := e) (s := s) (b := b) (z := z)
    simp at hl9
    simp only [List.append_assoc] at d1
    simp [r5, r6, p0, p1, p2, p11, d1, hl9, ae, af, List.lookup]
theorem lawFnSchema {H : List Ob} {vs : List V} {xs : List D} (h : IsArgs H [.slice (.int .u8), .slice (.int .u8)] vs xs) : ∃ H', callW C 4 vs H = some (.bool true, H') := by
 rcases vs with _ | ⟨v1, _ | ⟨v2, _ | ⟨v3, vs⟩⟩⟩ <;> rcases xs with _ | ⟨d1, _ | ⟨d2, _ | ⟨d3, xs⟩⟩⟩ <;> first | (exfalso; simp [IsArgs] at h; done) | skip
 obtain ⟨⟨cs1, e1, l1, i1⟩, ⟨cs2, e2, l2, i2⟩, _⟩ := h
 subst e1; subst e2
 have h1 := Is.at _ i1
 have h2 := Is.at _ i2
 obtain ⟨v, us, rfl, hu, _⟩ := aC.1 h1
 obtain ⟨v', us', rfl, hu', _⟩ := aC.1 h2
 rw [hu] at h1
 rw [hu'] at h2
 obtain ⟨r, H', hc, rfl⟩ := zJ h1 h2
 exact ⟨H', hc⟩
end Go.Proofs.Try1
end
section
namespace Go.Lite
open Go
variable [Draws]
theorem VL.one {μ : Mu} {v : V} {us : Array Value} (h : VL μ [v] us.toList) : ∃ u, us = #[u] ∧ VR μ v u := by
 have hl := h.length
 match us, hl, h with
 | ⟨[u]⟩, _, h => exact ⟨u, rfl, h.get 0 v u rfl rfl⟩
theorem VL.two {μ : Mu} {v v' : V} {us : Array Value} (h : VL μ [v, v'] us.toList) : ∃ u u', us = #[u, u'] ∧ VR μ v u ∧ VR μ v' u' := by
 have hl := h.length
 match us, hl, h with
 | ⟨[u, u']⟩, _, h => exact ⟨u, u', rfl, h.get 0 v u rfl rfl, h.get 1 v' u' rfl rfl⟩
theorem DW {P : Program} {g : FuncId} {fn : Func} (hf : P.funcs[g]? = some fn) (hname : (fn.name == "runtime.NumGoroutine") = false) (hb : fn.body.isNone = true) (hn : Extern.findNext fn = none) (he : Extern.find fn = some Extern.BytealgCompare.compare) : nH P g qY := by
 intro args H r H' h μ w us hs hv
 unfold qY at h
 split at h
 ·rename_i a b
  cases h
  obtain ⟨u, u', rfl, h1, h2⟩ := hv.two
  obtain ⟨x, rfl, rfl⟩ := h1.str_inv
  obtain ⟨y, rfl, rfl⟩ := h2.str_inv
  refine .inl ⟨.int .i64 (Lib.compareBytes x.data.toList y.data.toList), w, ?_, μ, .refl hs, .int _ _⟩
  rw [run_callFunc_extern hf hname hb hn he, Lib.run_compareString]
  rfl
 ·cases h
theorem uU : ∀ {cs : List V} {l : List (List UInt8)}, strsOf cs = some l → cs = l.map V.str
 | [], l, h => by cases h; rfl
 | c :: cs, l, h => by
  unfold strsOf at h
  split at h
  ·rename_i he; cases he
  ·rename_i s vs he
   cases he
   split at h
   ·rename_i l' hl
    cases h
    rw [List.map_cons, ← uU hl]
   ·cases h
  ·cases h
theorem Ee {cells l : List V} {o n : Nat} (h : (cells.drop o).take n = l) {j : Nat} (hj : j < n) : cells[o + j]? = l[j]? := by
 subst h
 rw [List.getElem?_take_of_lt hj, List.getElem?_drop]
theorem HGoes.garbage {H : List Ob} {μ : Mu} {w : World} (h : HSim H μ w) (n : Nat) (os : Array Obj) : HGoes H μ w H μ (Sort.grow (Sort.ahead w n) os) := by
 have hsame : ∀ b, b < w.heap.size → (Sort.grow (Sort.ahead w n) os).heap[b]? = w.heap[b]? := fun b hb => by
  show (w.heap ++ os)[b]? = _
  rw [Array.getElem?_append_left hb]
 have hsz : w.heap.size ≤ (Sort.grow (Sort.ahead w n) os).heap.size := by
  show _ ≤ (w.heap ++ os).size
  rw [Array.size_append]; omega
 exact ⟨h.world (fun id o m h1 h2 h3 => .of_heap (hsame _ (kX h id o m h1 h2 h3))) hsz, μ.le_refl, ⟨hsz, fun b hb _ => hsame b hb, fun b hb => .inl hb, rfl, rfl, rfl, fun _ => Nat.le_add_right _ _⟩, Lives.refl _ _ _⟩
theorem Ad {w : World} {blk off : Nat} {d d' : Array (List UInt8)} (h0 : Sort.Holds Go.Proofs.encStr w blk off d) (hs : d'.size = d.size) : Wrote w (Sort.putRow Go.Proofs.encStr w blk off d') blk off (d'.toList.map Go.Proofs.encStr) where
 size := by simp
 os := rfl
 tape := rfl
 drawn := rfl
 output := rfl
 other b' hb := by
  show (w.heap.modify blk _)[b']? = _
  rw [Array.getElem?_modify, if_neg (fun e => hb e.symm)]
 cell j := by
  rw [List.length_map, Array.length_toList]
  split
  ·rename_i hj
   have := Sort.cell?_putRow Go.Proofs.encStr w blk off d d' h0 hs (j - off) (by omega)
   rw [show off + (j - off) = j by omega] at this
   rw [this, List.getElem?_map, Array.getElem?_toList, Array.getElem?_eq_getElem (by omega), getElem!_pos d' (j - off) (by omega)]
   rfl
  ·rename_i hj
   exact Sort.cell?_putRow_other Go.Proofs.encStr w blk off d' ⟨blk, j, none⟩ (by simp only; omega)
 frozen j := by simp
theorem AQ {P : Program} {g : FuncId} (hcall : ∀ us w, (callFunc g us).run P w = .ok (.enter g us) w)
  (hsort : ∀ (blk off cap : Nat) (zs : List (List UInt8)) (w : World), Sort.Holds Go.Proofs.encStr w blk off zs.toArray → blk < w.heap.size → zs.length < 4611686018427387904 → Calls P g #[.slice (some ⟨blk, off, none⟩) zs.length cap] w fun e w' =>
   e = .returned (.tuple #[]) ∧ ∃ n os, w' = Sort.grow (Sort.putRow Go.Proofs.encStr (Sort.ahead w n) blk off (zs.mergeSort fun x y => decide (x ≤ y)).toArray) os)
  (hnone : ∀ (p : Option Addr) (cap : Nat) (w : World), Calls P g #[.slice p 0 cap] w fun e w' => e = .returned (.tuple #[]) ∧ w' = w) : nH P g gY := by
 intro args H r H' h μ w us hs hv
 have htup : ∀ μ : Mu, VR μ (.tup []) (.tuple #[]) := fun μ => VR.tup [] #[] rfl (fun i v u h _ => by simp at h)
 unfold gY at h
 split at h
 case h_2 => cases h
 rename_i p n
 obtain ⟨u, rfl, hu⟩ := hv.one
 refine .inr ⟨hcall _ _, ?_⟩
 split at h
 ·rename_i hn
  subst hn
  cases h
  have : ∃ q c, u = .slice q 0 c := by
   cases p with
   | none => obtain ⟨rfl, _⟩ := hu.slcN_inv; exact ⟨_, _, rfl⟩
   | some p =>
    obtain ⟨id, off⟩ := p
    obtain ⟨m, _, ⟨c, _, _, _, rfl⟩ | ⟨_, _, a, rfl⟩⟩ := hu.slc_inv <;> exact ⟨_, _, rfl⟩
  obtain ⟨q, c, rfl⟩ := this
  refine (hnone q c w).mono ?_
  rintro e w' ⟨rfl, rfl⟩
  exact ⟨_, rfl, μ, .refl hs, htup μ⟩
 ·rename_i hn
  split at h
  case h_2 => cases h
  rename_i id off
  split at h
  case h_2 => cases h
  rename_i es cells ho
  split at h
  case isFalse => cases h
  rename_i hc
  obtain ⟨rfl, hlen, hmax⟩ := hc
  split at h
  case h_2 => cases h
  rename_i ss hss
  cases h
  have hcs := uU hss
  have hssl : ss.length = n := by
   have := congrArg List.length hcs
   simp at this
   omega
  obtain ⟨m, hm, ⟨c, hc1, hc2, hc3, rfl⟩ | ⟨h0, _⟩⟩ := hu.slc_inv
  rotate_left
  ·exact absurd h0 hn
  obtain ⟨g1, g2, g3, g4, g5, g6⟩ := hs.obj id _ m ho hm
  obtain ⟨g6, g7⟩ := g6 rfl
  have hget : ∀ j, j < ss.length → cells[off + j]? = some (.str ss[j]!) := fun j hj => by
   rw [Ee hcs (show j < n by omega), List.getElem?_map, List.getElem?_eq_getElem hj]
   simp [hj]
  have hH : Sort.Holds Go.Proofs.encStr w m.blk (m.base + off) ss.toArray := fun j hj => by
   simp only [List.size_toArray] at hj
   obtain ⟨u, hu1, hu2⟩ := g4 (off + j) _ (hget j hj)
   obtain ⟨b, rfl, hb⟩ := hu2.str_inv
   have hbe : Value.string b = Go.Proofs.encStr ss[j]! := by
    show _ = Value.string ⟨ss[j]!.toArray⟩
    rw [hb]
   refine ⟨?_, ?_⟩
   ·rw [Nat.add_assoc, hu1, hbe]
    congr 2
    simp [hj]
   ·exact (g7 (m.base + off + j) (by omega) (by omega)).2
  have hsort' := hsort m.blk (m.base + off) c ss w hH g5 (by omega)
  rw [hssl] at hsort'
  refine hsort'.mono ?_
  rintro e w' ⟨rfl, k, os, rfl⟩
  refine ⟨_, rfl, μ, ?_, htup μ⟩
  have hlen2 : (ss.mergeSort fun x y => decide (x ≤ y)).length = ss.length := List.length_mergeSort ss
  have hwr := Ad (d' := (ss.mergeSort fun x y => decide (x ≤ y)).toArray) hH (by simp [hlen2])
  have hvl : VL μ ((ss.mergeSort fun x y => decide (x ≤ y)).map V.str) (((ss.mergeSort fun x y => decide (x ≤ y)).toArray).toList.map Go.Proofs.encStr) := by
   refine VL.of_get (by simp) fun i v u h1 h2 => ?_
   simp only [List.getElem?_map] at h1 h2
   cases hx : (ss.mergeSort fun x y => decide (x ≤ y))[i]? with
   | none => rw [hx] at h1; cases h1
   | some s =>
    rw [hx] at h1 h2
    cases h1
    cases h2
    exact VR.str ⟨s.toArray⟩
  have hgo := HGoes.write hs ho hm hwr hvl (by rw [List.length_map, hlen2]; omega)
  rw [Sort.putRow_ahead]
  exact hgo.trans (HGoes.garbage hgo.sim k os)
end Go.Lite
end
section
namespace Go.Proofs.Try1
open Go Go.Lite
theorem sK {L : List Nat} {n : Nat} {P : Program} {f : FuncId} {args : Array Value} {w : World} {R : Ending → World → Prop} (h : ∀ D, CallsIn (Fence.list L (some D)) n P f args w R) : Calls P f args w R := fun cs =>
 let ⟨e, w', fr, r, s, x⟩ := (h (cs.length + 1 + n)).2 cs (fun d hd => by cases hd; omega)
 ⟨e, w', fr, r, s.comes, x⟩
theorem MV [Draws] : nH Tryz.prog 314 qY :=
 DW Tryz.func314 (by kernel_rfl) (by kernel_rfl) rfl rfl
theorem enters {g : Nat} {fn : Func} (h1 : Tryz.prog.funcs[g]? = some fn) (h2 : (fn.name == "runtime.NumGoroutine") = false) (h3 : fn.body.isNone = false) (us : Array Value) (w : World) : (callFunc g us).run Tryz.prog w = .ok (.enter g us) w := by
 simp [callFunc, h1, (by simpa using h2 : ¬ fn.name = "runtime.NumGoroutine")]
 intro hb
 rw [hb] at h3
 cases h3
end Go.Proofs.Try1
end
section
namespace Go.Proofs
open Go.Shelf
def Tryz.laysSort_ren : Go.Shelf.Ren := ⟨fun | 190 => 267 | 125 => 248 | 258 => 302 | 128 => 292 | 129 => 293 | 302 => 319 | 303 => 320 | 304 => 321 | 305 => 322 | 306 => 323 | 307 => 324 | 308 => 325 | 309 => 326 | 310 => 327 | 333 => 336 | 329 => 310 | 330 => 311 | 334 => 337 | 335 => 338 | 336 => 274 | 344 => 340 | n => n, fun | 31 => 27 | 9 => 9 | 3 => 3 | 46 => 180 | 0 => 0 | 51 => 259 | 53 => 176 | 4 => 4 | 183 => 253 | 182 => 252 | 131 => 151 | 5 => 5 | 218 => 269 | 222 => 273 | 228 => 282 | 229 => 211 | n => n, fun | n => n⟩
theorem Tryz.laysSort : Go.Proofs.Lays.n190 Tryz.prog Tryz.laysSort_ren := {
 mixed := by kernel_rfl
 f125 := Tryz.func248.trans (congrArg some (by kernel_rfl))
 f128 := Tryz.func292.trans (congrArg some (by kernel_rfl))
 f129 := Tryz.func293.trans (congrArg some (by kernel_rfl))
 f190 := Tryz.func267.trans (congrArg some (by kernel_rfl))
 f258 := Tryz.func302.trans (congrArg some (by kernel_rfl))
 f302 := Tryz.func319.trans (congrArg some (by kernel_rfl))
 f303 := Tryz.func320.trans (congrArg some (by kernel_rfl))
 f304 := Tryz.func321.trans (congrArg some (by kernel_rfl))
 f305 := Tryz.func322.trans (congrArg some (by kernel_rfl))
 f306 := Tryz.func323.trans (congrArg some (by kernel_rfl))
 f307 := Tryz.func324.trans (congrArg some (by kernel_rfl))
 f308 := Tryz.func325.trans (congrArg some (by kernel_rfl))
 f309 := Tryz.func326.trans (congrArg some (by kernel_rfl))
 f310 := Tryz.func327.trans (congrArg some (by kernel_rfl))
 f329 := Tryz.func310.trans (congrArg some (by kernel_rfl))
 f330 := Tryz.func311.trans (congrArg some (by kernel_rfl))
 f333 := Tryz.func336.trans (congrArg some (by kernel_rfl))
 f334 := Tryz.func337.trans (congrArg some (by kernel_rfl))
 f335 := Tryz.func338.trans (congrArg some (by kernel_rfl))
 f336 := Tryz.func274.trans (congrArg some (by kernel_rfl))
 f344 := Tryz.func340.trans (congrArg some (by kernel_rfl))
 t0 := Tryz.underlying0
 a0 := Tryz.isAgg0
 z0 := Tryz.sizeOf0
 v0 := Tryz.zeroValue0
 t3 := Tryz.underlying3
 a3 := Tryz.isAgg3
 z3 := Tryz.sizeOf3
 v3 := Tryz.zeroValue3
 t4 := Tryz.underlying4
 a4 := Tryz.isAgg4
 z4 := Tryz.sizeOf4
 v4 := Tryz.zeroValue4
 t5 := Tryz.underlying5
 a5 := Tryz.isAgg5
 z5 := Tryz.sizeOf5
 v5 := Tryz.zeroValue5
 t9 := Tryz.underlying9
 a9 := Tryz.isAgg9
 z9 := Tryz.sizeOf9
 v9 := Tryz.zeroValue9
 t31 := Tryz.underlying27
 a31 := Tryz.isAgg27
 z31 := Tryz.sizeOf27
 v31 := Tryz.zeroValue27
 t46 := Tryz.underlying180
 a46 := Tryz.isAgg180
 z46 := Tryz.sizeOf180
 v46 := Tryz.zeroValue180
 t51 := Tryz.underlying259
 a51 := Tryz.isAgg259
 z51 := Tryz.sizeOf259
 v51 := Tryz.zeroValue259
 t53 := Tryz.underlying176
 a53 := Tryz.isAgg176
 z53 := Tryz.sizeOf176
 v53 := Tryz.zeroValue176
 t131 := Tryz.underlying151
 a131 := Tryz.isAgg151
 z131 := Tryz.sizeOf151
 v131 := Tryz.zeroValue151
 t182 := Tryz.underlying252
 a182 := Tryz.isAgg252
 z182 := Tryz.sizeOf252
 v182 := Tryz.zeroValue252
 t183 := Tryz.underlying253
 a183 := Tryz.isAgg253
 z183 := Tryz.sizeOf253
 v183 := Tryz.zeroValue253
 t218 := Tryz.underlying269
 a218 := Tryz.isAgg269
 z218 := Tryz.sizeOf269
 v218 := Tryz.zeroValue269
 t222 := Tryz.underlying273
 a222 := Tryz.isAgg273
 z222 := Tryz.sizeOf273
 v222 := Tryz.zeroValue273
 t228 := Tryz.underlying282
 a228 := Tryz.isAgg282
 z228 := Tryz.sizeOf282
 v228 := Tryz.zeroValue282
 t229 := Tryz.underlying211
 a229 := Tryz.isAgg211
 z229 := Tryz.sizeOf211
 v229 := Tryz.zeroValue211 }
end Go.Proofs
end
section
namespace Go.Proofs.Try1
open Go Go.Lite
theorem KT : nH Tryz.prog 267 gY :=
 AQ (enters Tryz.func267 (by kernel_rfl) (by kernel_rfl))
  (fun blk off cap zs w hH hb hl => sK fun D => AnyS.slices_Sort_string_alone Tryz.laysSort D blk off cap zs w hH hb hl)
  (fun p cap w => sK fun D => AnyS.slices_Sort_string_none_alone Tryz.laysSort D p cap w)
end Go.Proofs.Try1
end
section
namespace Go.Lite
open Go
variable [Draws]
theorem DR {P : Program} {g : FuncId} {fn : Func} (hf : P.funcs[g]? = some fn) (hname : (fn.name == "runtime.NumGoroutine") = false) (hb : fn.body.isNone = true) (hn : Extern.findNext fn = none) (he : Extern.find fn = some Extern.BytealgIndexByte.indexByte) : nH P g uJ := by
 intro args H r H' h μ w us hs hv
 unfold uJ at h
 split at h
 ·rename_i s c
  cases h
  obtain ⟨u, u', rfl, h1, h2⟩ := hv.two
  obtain ⟨x, rfl, rfl⟩ := h1.str_inv
  have h3 := h2.int_inv
  subst h3
  refine .inl ⟨.int .i64 (Lib.indexByte x.data.toList c.toNat.toUInt8), w, ?_, μ, .refl hs, .int _ _⟩
  rw [run_callFunc_extern hf hname hb hn he, Lib.run_indexByteString]
  rfl
 ·cases h
end Go.Lite
end
section
namespace Go.Proofs.Try1
open Go Go.Lite
theorem LU : nH Tryz.prog 341 uJ :=
 DR Tryz.func341 (by kernel_rfl) (by kernel_rfl) rfl rfl
theorem progOk : ProgOk Tryz.prog C := CB mixed ok fun g pr h => by
 change zO g = some pr at h
 unfold zO at h
 split at h
 ·rename_i hg; subst hg; cases h; exact KT
 split at h
 ·rename_i hg; subst hg; cases h; exact MV
 split at h
 ·rename_i hg; subst hg; cases h; exact LU
 cases h
end Go.Proofs.Try1
end
