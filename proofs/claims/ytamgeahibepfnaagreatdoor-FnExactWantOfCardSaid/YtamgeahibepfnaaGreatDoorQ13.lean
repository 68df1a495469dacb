/- Part 13 of the proof of a law: the interpreter, its soundness, and what functions of the program compute over it. Conditions: none but those that each theorem names. -/
import Derived.Test.YtamgeahibepfnaaGreatDoorQ12
import Derived.Test.YtamgeahibepfnaaGreatDoorQ09
import Derived.Test.YtamgeahibepfnaaGreatDoorQ05
import Derived.Laws.Externs
import Derived.CallsIn
import Derived.Sort.EncStr
import Derived.Sort.Grow
import Derived.Test.YtamgeahibepfnaaGreatDoorQ07
import Derived.WalkKit
import Derived.Shelf.SlGeneric
import Derived.Shelf.SlLaysF
import Derived.Shelf.Slices.In.SortAlone
import Derived.Ground.SlsfProg
import Derived.Ground.NamesProg
import Derived.Test.YtamgeahibepfnaaGreatDoorProg
import Derived.Shelf.Slices.In.SortNone
import Derived.Test.YtamgeahibepfnaaGreatDoorQ06

set_option linter.all false
set_option maxRecDepth 20000
set_option maxHeartbeats 40000000
section
namespace Go.Proofs.Try1
open Go Go.Lite
attribute [-simp] aqY arP
attribute [local simp] arb arN aq6 aq9 aq7 aqQ
attribute [local simp low] ara
structure PWant where
 dn : Str
 login : Str
 mail : Str
 phone : Str
 code : Int
abbrev PWant.cs (w : PWant) : List V := [.str w.dn, .str w.login, .str w.mail, .str w.phone, .int .i64 w.code]
def aqN (t : Str) : Prop := t = [] ∨ ap2 t
noncomputable def asx (f : List PPart) (e : PEntry) : Str × Bool := match avL f e 5 0 with
 | some (t, b, _) => (t, b)
 | none => ([], false)
noncomputable def avF (f : PFlow) (e : PEntry) : PWant :=
 if ¬ ((asx f.login e).2 = true ∧ (asx f.mail e).2 = true ∧ (asx f.phone e).2 = true) then ⟨txt e.dn, [], [], [], 8⟩
 else if dec (apV (asx f.login e).1 ∧ aqN (asx f.mail e).1 ∧ aqN (asx f.phone e).1) = true then ⟨txt e.dn, (asx f.login e).1, (asx f.mail e).1, (asx f.phone e).1, 0⟩ else ⟨txt e.dn, [], [], [], 1⟩
noncomputable def ard (f : PFlow) (e : PEntry) : PWant := if dec (aqF f ∧ EntryOk e) = true then avF f e else ⟨[], [], [], [], 0⟩
theorem aur {f : List PPart} {e : PEntry} (he : EntryOk e) (hf : arA f) : avL f e 5 0 = some ((asx f e).1, (asx f e).2, f.length) := by
 obtain ⟨t, b, h1, _⟩ := aDF he hf
 unfold asx
 rw [h1]
theorem aFL {t : Str} {H : List Ob} : callW C 153 [.str t] H = some (.bool (dec (aqN t)), H) := by
 apply Ret.dec
 rw [aK7]
 have c1 := awE (t := t) (H := H)
 by_cases g : t = []
 ·subst g
  simp [au9, Tryz.f153, aqN]
 ·have ge : List.isEmpty t = false := by simpa using g
  by_cases g2 : ap2 t
  ·rw [apK g2] at c1
   simp [au9, Tryz.f153, g, ge, c1, aqN, g2]
  ·rw [apJ g2] at c1
   simp [au9, Tryz.f153, g, ge, c1, aqN, g2]
theorem aFQ {t : Str} {H : List Ob} : callW C 156 [.str t] H = some (.bool (dec (aqN t)), H) := by
 apply Ret.dec
 rw [aHV]
 have c1 := awt (t := t) (H := H)
 by_cases g : t = []
 ·subst g
  simp [au6, Tryz.f156, aqN]
 ·have ge : List.isEmpty t = false := by simpa using g
  by_cases g2 : ap2 t
  ·rw [apK g2] at c1
   simp [au6, Tryz.f156, g, ge, c1, aqN, g2]
  ·rw [apJ g2] at c1
   simp [au6, Tryz.f156, g, ge, c1, aqN, g2]
theorem aFW {H : List Ob} {vb vf vl vm vp vd va : V} {f : PFlow} {e : PEntry} (h1 : aq2 H vb f.base) (h2 : aqT H vf f.filter) (h3 : ap9 H vl f.login) (h4 : ap9 H vm f.mail) (h5 : ap9 H vp f.phone) (hd : aq2 H vd e.dn) (ha : aqO H va e.attrs) (gf : aqF f) (he : EntryOk e) :
  callW C 70 [.agg [vb, vf, vl, vm, vp, .bool f.back], .agg [vd, va]] H = some (.agg (avF f e).cs, H) := by
 apply Ret.eq
 rw [aQK]
 have o1 := h1.one
 have o2 := h2.one
 have o3 := h3.one
 have o4 := h4.one
 have o5 := h5.one
 have od := hd.one
 have oa := ha.one
 have c0 := aGe hd he.2.1
 have c1 := azv h3 hd ha he gf.2.2.1 (aur he gf.2.2.1)
 have c2 := azv h4 hd ha he gf.2.2.2.1 (aur he gf.2.2.2.1)
 have c3 := azv h5 hd ha he gf.2.2.2.2.1 (aur he gf.2.2.2.2.1)
 have c4 := axd (t := (asx f.login e).1) (H := H)
 have c5 := aFL (t := (asx f.mail e).1) (H := H)
 have c6 := aFL (t := (asx f.phone e).1) (H := H)
 unfold avF
 generalize (asx f.login e) = x1 at c1 c4 ⊢
 generalize (asx f.mail e) = x2 at c2 c5 ⊢
 generalize (asx f.phone e) = x3 at c3 c6 ⊢
 obtain ⟨t1, b1⟩ := x1
 obtain ⟨t2, b2⟩ := x2
 obtain ⟨t3, b3⟩ := x3
 simp only at c1 c2 c3 c4 c5 c6 ⊢
 cases b1 with
 | false => simp [atG, Tryz.f70, o1, o2, o3, o4, o5, od, oa, c0, c1, c2, c3, apN, apG, apQ, apE, apR, setRange, aiB, akl, List.lookup]
 | true =>
 cases b2 with
 | false => simp [atG, Tryz.f70, o1, o2, o3, o4, o5, od, oa, c0, c1, c2, c3, apN, apG, apQ, apE, apR, setRange, aiB, akl, List.lookup]
 | true =>
 cases b3 with
 | false => simp [atG, Tryz.f70, o1, o2, o3, o4, o5, od, oa, c0, c1, c2, c3, apN, apG, apQ, apE, apR, setRange, aiB, akl, List.lookup]
 | true =>
 by_cases g1 : apV t1
 rotate_left
 ·rw [apJ g1] at c4
  simp [atG, Tryz.f70, o1, o2, o3, o4, o5, od, oa, c0, c1, c2, c3, c4, apJ (P := apV t1 ∧ aqN t2 ∧ aqN t3) (fun h => g1 h.1), apN, apG, apQ, apE, apR, setRange, aiB, akl, List.lookup]
 rw [apK g1] at c4
 by_cases g2 : aqN t2
 rotate_left
 ·rw [apJ g2] at c5
  simp [atG, Tryz.f70, o1, o2, o3, o4, o5, od, oa, c0, c1, c2, c3, c4, c5, apJ (P := apV t1 ∧ aqN t2 ∧ aqN t3) (fun h => g2 h.2.1), apN, apG, apQ, apE, apR, setRange, aiB, akl, List.lookup]
 rw [apK g2] at c5
 by_cases g3 : aqN t3
 rotate_left
 ·rw [apJ g3] at c6
  simp [atG, Tryz.f70, o1, o2, o3, o4, o5, od, oa, c0, c1, c2, c3, c4, c5, c6, apJ (P := apV t1 ∧ aqN t2 ∧ aqN t3) (fun h => g3 h.2.2), apN, apG, apQ, apE, apR, setRange, aiB, akl, List.lookup]
 rw [apK g3] at c6
 simp [atG, Tryz.f70, o1, o2, o3, o4, o5, od, oa, c0, c1, c2, c3, c4, c5, c6, apK (P := apV t1 ∧ aqN t2 ∧ aqN t3) ⟨g1, g2, g3⟩, apN, apG, apQ, apE, apR, setRange, aiB, akl, List.lookup]
theorem aEg {H : List Ob} {vb vf vl vm vp vd va : V} {f : PFlow} {e : PEntry} (h1 : aq2 H vb f.base) (h2 : aqT H vf f.filter) (h3 : ap9 H vl f.login) (h4 : ap9 H vm f.mail) (h5 : ap9 H vp f.phone) (hd : aq2 H vd e.dn) (ha : aqO H va e.attrs) :
  callW C 20 [.agg [vb, vf, vl, vm, vp, .bool f.back], .agg [vd, va]] H = some (.agg (ard f e).cs, H) := by
 apply Ret.eq
 rw [aP7]
 have o1 := h1.one
 have o2 := h2.one
 have o3 := h3.one
 have o4 := h4.one
 have o5 := h5.one
 have od := hd.one
 have oa := ha.one
 have c1 := aAv h1 h2 h3 h4 h5
 have c2 := aE6 hd ha
 by_cases g1 : aqF f
 rotate_left
 ·rw [apJ g1] at c1
  have ew : ard f e = ⟨[], [], [], [], 0⟩ := by unfold ard; rw [apJ (fun h => g1 h.1)]; rfl
  rw [ew]
  simp [awS, Tryz.f20, o1, o2, o3, o4, o5, od, oa, c1, apN, apG, apQ, apE, apR, setRange, aiB, akl, List.lookup]
 rw [apK g1] at c1
 by_cases g2 : EntryOk e
 rotate_left
 ·rw [apJ g2] at c2
  have ew : ard f e = ⟨[], [], [], [], 0⟩ := by unfold ard; rw [apJ (fun h => g2 h.2)]; rfl
  rw [ew]
  simp [awS, Tryz.f20, o1, o2, o3, o4, o5, od, oa, c1, c2, apN, apG, apQ, apE, apR, setRange, aiB, akl, List.lookup]
 rw [apK g2] at c2
 have c3 := aFW h1 h2 h3 h4 h5 hd ha g1 g2
 have ew : ard f e = avF f e := by unfold ard; rw [apK ⟨g1, g2⟩]; rfl
 rw [ew]
 simp [awS, Tryz.f20, o1, o2, o3, o4, o5, od, oa, c1, c2, c3, apN, apG, apQ, apE, apR, setRange, aiB, akl, List.lookup]
theorem aFX {H : List Ob} {ide es : Nat} {own : Bool} {vb vf vl vm vp vd va : V} {f : PFlow} {e : PEntry} (h1 : aq2 H vb f.base) (h2 : aqT H vf f.filter) (h3 : ap9 H vl f.login) (h4 : ap9 H vm f.mail) (h5 : ap9 H vp f.phone) (heE : H[ide]? = some (.mk own es [vd, va])) (hd : aq2 H vd e.dn) (ha : aqO H va e.attrs) (gf : aqF f) (he : EntryOk e) :
  callW C 71 [.agg [vb, vf, vl, vm, vp, .bool f.back], .ptr (some (ide, 0))] H = some (.agg (avF f e).cs, H) := by
 apply Ret.eq
 rw [aQB]
 have o1 := h1.one
 have o2 := h2.one
 have o3 := h3.one
 have o4 := h4.one
 have o5 := h5.one
 have hidl := (List.getElem?_eq_some_iff.1 heE).1
 have od := hd.one
 have ld := aqt (o := 0) (v := vd) heE rfl
 have c0 := aDK hd he.2.1
 have c1 := auf h3 heE ha he gf.2.2.1 (aur he gf.2.2.1)
 have c2 := auf h4 heE ha he gf.2.2.2.1 (aur he gf.2.2.2.1)
 have c3 := auf h5 heE ha he gf.2.2.2.2.1 (aur he gf.2.2.2.2.1)
 have c4 := axs (t := (asx f.login e).1) (H := H)
 have c5 := aFQ (t := (asx f.mail e).1) (H := H)
 have c6 := aFQ (t := (asx f.phone e).1) (H := H)
 unfold avF
 generalize (asx f.login e) = x1 at c1 c4 ⊢
 generalize (asx f.mail e) = x2 at c2 c5 ⊢
 generalize (asx f.phone e) = x3 at c3 c6 ⊢
 obtain ⟨t1, b1⟩ := x1
 obtain ⟨t2, b2⟩ := x2
 obtain ⟨t3, b3⟩ := x3
 simp only at c1 c2 c3 c4 c5 c6 ⊢
 cases b1 with
 | false =>
  simp at c1
  cases b2 <;> cases b3 <;> simp at c2 c3 <;> simp [atL, Tryz.f71, o1, o2, o3, o4, o5, hidl, od, ld, c0, c1, c2, c3, apN, apG, St.new, apQ, apE, apR, setRange, aiB, akl, List.lookup]
 | true =>
 simp at c1
 cases b2 with
 | false =>
  simp at c2
  cases b3 <;> simp at c3 <;> simp [atL, Tryz.f71, o1, o2, o3, o4, o5, hidl, od, ld, c0, c1, c2, c3, apN, apG, St.new, apQ, apE, apR, setRange, aiB, akl, List.lookup]
 | true =>
 simp at c2
 cases b3 with
 | false =>
  simp at c3
  simp [atL, Tryz.f71, o1, o2, o3, o4, o5, hidl, od, ld, c0, c1, c2, c3, apN, apG, St.new, apQ, apE, apR, setRange, aiB, akl, List.lookup]
 | true =>
 simp at c3
 by_cases g1 : apV t1
 rotate_left
 ·rw [apJ g1] at c4
  simp [atL, Tryz.f71, o1, o2, o3, o4, o5, hidl, od, ld, c0, c1, c2, c3, c4, apJ (P := apV t1 ∧ aqN t2 ∧ aqN t3) (fun h => g1 h.1), apN, apG, St.new, apQ, apE, apR, setRange, aiB, akl, List.lookup]
 rw [apK g1] at c4
 by_cases g2 : aqN t2
 rotate_left
 ·rw [apJ g2] at c5
  simp [atL, Tryz.f71, o1, o2, o3, o4, o5, hidl, od, ld, c0, c1, c2, c3, c4, c5, apJ (P := apV t1 ∧ aqN t2 ∧ aqN t3) (fun h => g2 h.2.1), apN, apG, St.new, apQ, apE, apR, setRange, aiB, akl, List.lookup]
 rw [apK g2] at c5
 by_cases g3 : aqN t3
 rotate_left
 ·rw [apJ g3] at c6
  simp [atL, Tryz.f71, o1, o2, o3, o4, o5, hidl, od, ld, c0, c1, c2, c3, c4, c5, c6, apJ (P := apV t1 ∧ aqN t2 ∧ aqN t3) (fun h => g3 h.2.2), apN, apG, St.new, apQ, apE, apR, setRange, aiB, akl, List.lookup]
 rw [apK g3] at c6
 simp [atL, Tryz.f71, o1, o2, o3, o4, o5, hidl, od, ld, c0, c1, c2, c3, c4, c5, c6, apK (P := apV t1 ∧ aqN t2 ∧ aqN t3) ⟨g1, g2, g3⟩, apN, apG, St.new, apQ, apE, apR, setRange, aiB, akl, List.lookup]
theorem aED {H : List Ob} {vb vf vl vm vp vd va : V} {f : PFlow} {e : PEntry} (h1 : aq2 H vb f.base) (h2 : aqT H vf f.filter) (h3 : ap9 H vl f.login) (h4 : ap9 H vm f.mail) (h5 : ap9 H vp f.phone) (hd : aq2 H vd e.dn) (ha : aqO H va e.attrs) :
  callW C 21 [.agg [vb, vf, vl, vm, vp, .bool f.back], .agg [vd, va]] H = some (.agg (ard f e).cs, H) := by
 apply Ret.eq
 rw [aRQ]
 have o1 := h1.one
 have o2 := h2.one
 have o3 := h3.one
 have o4 := h4.one
 have o5 := h5.one
 have od := hd.one
 have oa := ha.one
 obtain ⟨K, hK⟩ : ∃ K, K = H ++ [.mk true 2 [vd, va]] := ⟨_, rfl⟩
 have hKe : K[H.length]? = some (.mk true 2 [vd, va]) := by rw [hK]; exact get_last
 have lN := awf (o := 0) (n := 2) hKe (by simp) (by decide) rfl
 simp at lN
 have k1 : aq2 K vb f.base := by rw [hK]; exact h1.ext
 have k2 : aqT K vf f.filter := by rw [hK]; exact h2.ext
 have k3 : ap9 K vl f.login := by rw [hK]; exact h3.ext
 have k4 : ap9 K vm f.mail := by rw [hK]; exact h4.ext
 have k5 : ap9 K vp f.phone := by rw [hK]; exact h5.ext
 have kd : aq2 K vd e.dn := by rw [hK]; exact hd.ext
 have ka : aqO K va e.attrs := by rw [hK]; exact ha.ext
 have c1 := aAa k1 k2 k3 k4 k5
 have c2 := aET kd ka
 have hgc : ∀ (w : PWant), gcH H K (.agg w.cs) = H := fun w => by rw [hK]; exact as8 (by simp [asC, arC])
 by_cases g1 : aqF f
 rotate_left
 ·rw [apJ g1] at c1
  have ew : ard f e = ⟨[], [], [], [], 0⟩ := by unfold ard; rw [apJ (fun h => g1 h.1)]; rfl
  have hg := hgc ⟨[], [], [], [], 0⟩
  rw [ew]
  simp only [PWant.cs] at hg
  simp [awV, Tryz.f21, o1, o2, o3, o4, o5, od, oa, aqC, ← hK, lN, c1, hg, apN, apG, St.new, apQ, apE, apR, setRange, aiB, akl, List.lookup]
 rw [apK g1] at c1
 by_cases g2 : EntryOk e
 rotate_left
 ·rw [apJ g2] at c2
  have ew : ard f e = ⟨[], [], [], [], 0⟩ := by unfold ard; rw [apJ (fun h => g2 h.2)]; rfl
  have hg := hgc ⟨[], [], [], [], 0⟩
  rw [ew]
  simp only [PWant.cs] at hg
  simp [awV, Tryz.f21, o1, o2, o3, o4, o5, od, oa, aqC, ← hK, lN, c1, c2, hg, apN, apG, St.new, apQ, apE, apR, setRange, aiB, akl, List.lookup]
 rw [apK g2] at c2
 have c3 := aFX k1 k2 k3 k4 k5 hKe kd ka g1 g2
 have ew : ard f e = avF f e := by unfold ard; rw [apK ⟨g1, g2⟩]; rfl
 rw [ew]
 have hg := hgc (avF f e)
 generalize avF f e = w at c3 hg ⊢
 simp only [PWant.cs] at c3 hg ⊢
 simp [awV, Tryz.f21, o1, o2, o3, o4, o5, od, oa, aqC, ← hK, lN, c1, c2, c3, hg, apN, apG, St.new, apQ, apE, apR, setRange, aiB, akl, List.lookup]
end Go.Proofs.Try1
end
section
namespace Go.Proofs.Try1
open Go Go.Lite
theorem lawWantOf {H : List Ob} {vs : List V} {xs : List D} (h : IsArgs H [ar4, shEntry] vs xs) : ∃ H', callW C 4 vs H = some (.bool true, H') := by
 rcases vs with _ | ⟨v1, _ | ⟨v2, _ | ⟨v3, vs⟩⟩⟩ <;> rcases xs with _ | ⟨d1, _ | ⟨d2, _ | ⟨d3, xs⟩⟩⟩ <;> first | (exfalso; simp [IsArgs] at h; done) | skip
 obtain ⟨⟨cs1, e1, l1, i1⟩, ⟨cs2, e2, l2, i2⟩, _⟩ := h
 subst e1; subst e2
 have h1 := Is.at _ i1
 obtain ⟨f, hf⟩ := aBC h1
 rw [hf] at h1
 have h2 := Is.at _ i2
 obtain ⟨e, he⟩ := azL h2
 rw [he] at h2
 have key := au8 (rV := .agg (ard f e).cs) h1 h2
  (fun G x0 x1 a0 a1 => by
   obtain ⟨w1, w2, w3, w4, w5, rfl, b1, b2, b3, b4, b5⟩ := aCA.1 a0
   obtain ⟨w6, w7, rfl, b6, b7⟩ := auZ.1 a1
   exact ⟨G, aEg b1 b2 b3 b4 b5 b6 b7, .refl⟩)
  (fun G x0 x1 a0 a1 => by
   obtain ⟨w1, w2, w3, w4, w5, rfl, b1, b2, b3, b4, b5⟩ := aCA.1 a0
   obtain ⟨w6, w7, rfl, b6, b7⟩ := auZ.1 a1
   exact ⟨G, aED b1 b2 b3 b4 b5 b6 b7, .refl⟩)
 obtain ⟨r, H', hc, rfl⟩ := key ⟨_, _, _, _, _, rfl⟩
 exact ⟨H', hc⟩
end Go.Proofs.Try1
end
section
namespace Go.Lite
open Go
variable [Draws]
theorem VL.one {μ : Mu} {v : V} {us : Array Value} (h : VL μ [v] us.toList) : ∃ u, us = #[u] ∧ VR μ v u := by
 have hl := h.length
 match us, hl, h with
 | ⟨[u]⟩, _, h => exact ⟨u, rfl, h.get 0 v u rfl rfl⟩
theorem VL.two {μ : Mu} {v v' : V} {us : Array Value} (h : VL μ [v, v'] us.toList) : ∃ u u', us = #[u, u'] ∧ VR μ v u ∧ VR μ v' u' := by
 have hl := h.length
 match us, hl, h with
 | ⟨[u, u']⟩, _, h => exact ⟨u, u', rfl, h.get 0 v u rfl rfl, h.get 1 v' u' rfl rfl⟩
theorem aBg {P : Program} {g : FuncId} {fn : Func} (hf : P.funcs[g]? = some fn) (hname : (fn.name == "runtime.NumGoroutine") = false) (hb : fn.body.isNone = true) (hn : Extern.findNext fn = none) (he : Extern.find fn = some Extern.BytealgCompare.compare) : auk P g avu := by
 intro args H r H' h μ w us hs hv
 unfold avu at h
 split at h
 ·rename_i a b
  cases h
  obtain ⟨u, u', rfl, h1, h2⟩ := hv.two
  obtain ⟨x, rfl, rfl⟩ := h1.str_inv
  obtain ⟨y, rfl, rfl⟩ := h2.str_inv
  refine .inl ⟨.int .i64 (Lib.compareBytes x.data.toList y.data.toList), w, ?_, μ, .refl hs, .int _ _⟩
  rw [run_callFunc_extern hf hname hb hn he, Lib.run_compareString]
  rfl
 ·cases h
theorem aw9 : ∀ {cs : List V} {l : List (List UInt8)}, strsOf cs = some l → cs = l.map V.str
 | [], l, h => by cases h; rfl
 | c :: cs, l, h => by
  unfold strsOf at h
  split at h
  ·rename_i he; cases he
  ·rename_i s vs he
   cases he
   split at h
   ·rename_i l' hl
    cases h
    rw [List.map_cons, ← aw9 hl]
   ·cases h
  ·cases h
theorem aA2 {cells l : List V} {o n : Nat} (h : (cells.drop o).take n = l) {j : Nat} (hj : j < n) : cells[o + j]? = l[j]? := by
 subst h
 rw [List.getElem?_take_of_lt hj, List.getElem?_drop]
theorem HGoes.garbage {H : List Ob} {μ : Mu} {w : World} (h : HSim H μ w) (n : Nat) (os : Array Obj) : HGoes H μ w H μ (Sort.grow (Sort.ahead w n) os) := by
 have hsame : ∀ b, b < w.heap.size → (Sort.grow (Sort.ahead w n) os).heap[b]? = w.heap[b]? := fun b hb => by
  show (w.heap ++ os)[b]? = _
  rw [Array.getElem?_append_left hb]
 have hsz : w.heap.size ≤ (Sort.grow (Sort.ahead w n) os).heap.size := by
  show _ ≤ (w.heap ++ os).size
  rw [Array.size_append]; omega
 exact ⟨h.world (fun id o m h1 h2 h3 => .of_heap (hsame _ (ata h id o m h1 h2 h3))) hsz, μ.le_refl, ⟨hsz, fun b hb _ => hsame b hb, fun b hb => .inl hb, rfl, rfl, rfl, fun _ => Nat.le_add_right _ _⟩, Lives.refl _ _ _⟩
theorem ayu {w : World} {blk off : Nat} {d d' : Array (List UInt8)} (h0 : Sort.Holds Go.Proofs.encStr w blk off d) (hs : d'.size = d.size) : Wrote w (Sort.putRow Go.Proofs.encStr w blk off d') blk off (d'.toList.map Go.Proofs.encStr) where
 size := by simp
 os := rfl
 tape := rfl
 drawn := rfl
 output := rfl
 other b' hb := by
  show (w.heap.modify blk _)[b']? = _
  rw [Array.getElem?_modify, if_neg (fun e => hb e.symm)]
 cell j := by
  rw [List.length_map, Array.length_toList]
  split
  ·rename_i hj
   have := Sort.cell?_putRow Go.Proofs.encStr w blk off d d' h0 hs (j - off) (by omega)
   rw [show off + (j - off) = j by omega] at this
   rw [this, List.getElem?_map, Array.getElem?_toList, Array.getElem?_eq_getElem (by omega), getElem!_pos d' (j - off) (by omega)]
   rfl
  ·rename_i hj
   exact Sort.cell?_putRow_other Go.Proofs.encStr w blk off d' ⟨blk, j, none⟩ (by simp only; omega)
 frozen j := by simp
theorem azH {P : Program} {g : FuncId} (hcall : ∀ us w, (callFunc g us).run P w = .ok (.enter g us) w)
  (hsort : ∀ (blk off cap : Nat) (zs : List (List UInt8)) (w : World), Sort.Holds Go.Proofs.encStr w blk off zs.toArray → blk < w.heap.size → zs.length < 4611686018427387904 → Calls P g #[.slice (some ⟨blk, off, none⟩) zs.length cap] w fun e w' =>
   e = .returned (.tuple #[]) ∧ ∃ n os, w' = Sort.grow (Sort.putRow Go.Proofs.encStr (Sort.ahead w n) blk off (zs.mergeSort fun x y => decide (x ≤ y)).toArray) os)
  (hnone : ∀ (p : Option Addr) (cap : Nat) (w : World), Calls P g #[.slice p 0 cap] w fun e w' => e = .returned (.tuple #[]) ∧ w' = w) : auk P g ash := by
 intro args H r H' h μ w us hs hv
 have htup : ∀ μ : Mu, VR μ (.tup []) (.tuple #[]) := fun μ => VR.tup [] #[] rfl (fun i v u h _ => by simp at h)
 unfold ash at h
 split at h
 case h_2 => cases h
 rename_i p n
 obtain ⟨u, rfl, hu⟩ := hv.one
 refine .inr ⟨hcall _ _, ?_⟩
 split at h
 ·rename_i hn
  subst hn
  cases h
  have : ∃ q c, u = .slice q 0 c := by
   cases p with
   | none => obtain ⟨rfl, _⟩ := hu.slcN_inv; exact ⟨_, _, rfl⟩
   | some p =>
    obtain ⟨id, off⟩ := p
    obtain ⟨m, _, ⟨c, _, _, _, rfl⟩ | ⟨_, _, a, rfl⟩⟩ := hu.slc_inv <;> exact ⟨_, _, rfl⟩
  obtain ⟨q, c, rfl⟩ := this
  refine (hnone q c w).mono ?_
  rintro e w' ⟨rfl, rfl⟩
  exact ⟨_, rfl, μ, .refl hs, htup μ⟩
 ·rename_i hn
  split at h
  case h_2 => cases h
  rename_i id off
  split at h
  case h_2 => cases h
  rename_i es cells ho
  split at h
  case isFalse => cases h
  rename_i hc
  obtain ⟨rfl, hlen, hmax⟩ := hc
  split at h
  case h_2 => cases h
  rename_i ss hss
  cases h
  have hcs := aw9 hss
  have hssl : ss.length = n := by
   have := congrArg List.length hcs
   simp at this
   omega
  obtain ⟨m, hm, ⟨c, hc1, hc2, hc3, rfl⟩ | ⟨h0, _⟩⟩ := hu.slc_inv
  rotate_left
  ·exact absurd h0 hn
  obtain ⟨g1, g2, g3, g4, g5, g6⟩ := hs.obj id _ m ho hm
  obtain ⟨g6, g7⟩ := g6 rfl
  have hget : ∀ j, j < ss.length → cells[off + j]? = some (.str ss[j]!) := fun j hj => by
   rw [aA2 hcs (show j < n by omega), List.getElem?_map, List.getElem?_eq_getElem hj]
   simp [hj]
  have hH : Sort.Holds Go.Proofs.encStr w m.blk (m.base + off) ss.toArray := fun j hj => by
   simp only [List.size_toArray] at hj
   obtain ⟨u, hu1, hu2⟩ := g4 (off + j) _ (hget j hj)
   obtain ⟨b, rfl, hb⟩ := hu2.str_inv
   have hbe : Value.string b = Go.Proofs.encStr ss[j]! := by
    show _ = Value.string ⟨ss[j]!.toArray⟩
    rw [hb]
   refine ⟨?_, ?_⟩
   ·rw [Nat.add_assoc, hu1, hbe]
    congr 2
    simp [hj]
   ·exact (g7 (m.base + off + j) (by omega) (by omega)).2
  have hsort' := hsort m.blk (m.base + off) c ss w hH g5 (by omega)
  rw [hssl] at hsort'
  refine hsort'.mono ?_
  rintro e w' ⟨rfl, k, os, rfl⟩
  refine ⟨_, rfl, μ, ?_, htup μ⟩
  have hlen2 : (ss.mergeSort fun x y => decide (x ≤ y)).length = ss.length := List.length_mergeSort ss
  have hwr := ayu (d' := (ss.mergeSort fun x y => decide (x ≤ y)).toArray) hH (by simp [hlen2])
  have hvl : VL μ ((ss.mergeSort fun x y => decide (x ≤ y)).map V.str) (((ss.mergeSort fun x y => decide (x ≤ y)).toArray).toList.map Go.Proofs.encStr) := by
   refine VL.of_get (by simp) fun i v u h1 h2 => ?_
   simp only [List.getElem?_map] at h1 h2
   cases hx : (ss.mergeSort fun x y => decide (x ≤ y))[i]? with
   | none => rw [hx] at h1; cases h1
   | some s =>
    rw [hx] at h1 h2
    cases h1
    cases h2
    exact VR.str ⟨s.toArray⟩
  have hgo := HGoes.write hs ho hm hwr hvl (by rw [List.length_map, hlen2]; omega)
  rw [Sort.putRow_ahead]
  exact hgo.trans (HGoes.garbage hgo.sim k os)
end Go.Lite
end
section
namespace Go.Proofs.Try1
open Go Go.Lite
theorem awj {L : List Nat} {n : Nat} {P : Program} {f : FuncId} {args : Array Value} {w : World} {R : Ending → World → Prop} (h : ∀ D, CallsIn (Fence.list L (some D)) n P f args w R) : Calls P f args w R := fun cs =>
 let ⟨e, w', fr, r, s, x⟩ := (h (cs.length + 1 + n)).2 cs (fun d hd => by cases hd; omega)
 ⟨e, w', fr, r, s.comes, x⟩
theorem aF3 [Draws] : auk Tryz.prog 382 avu :=
 aBg Tryz.func382 (by kernel_rfl) (by kernel_rfl) rfl rfl
theorem enters {g : Nat} {fn : Func} (h1 : Tryz.prog.funcs[g]? = some fn) (h2 : (fn.name == "runtime.NumGoroutine") = false) (h3 : fn.body.isNone = false) (us : Array Value) (w : World) : (callFunc g us).run Tryz.prog w = .ok (.enter g us) w := by
 simp [callFunc, h1, (by simpa using h2 : ¬ fn.name = "runtime.NumGoroutine")]
 intro hb
 rw [hb] at h3
 cases h3
end Go.Proofs.Try1
end
section
namespace Go.Proofs
open Go.Shelf
def Tryz.laysSort_ren : Go.Shelf.Ren := ⟨fun | 190 => 311 | 125 => 340 | 258 => 348 | 128 => 368 | 129 => 369 | 302 => 373 | 303 => 374 | 304 => 375 | 305 => 376 | 306 => 377 | 307 => 378 | 308 => 379 | 309 => 380 | 310 => 381 | 333 => 393 | 329 => 388 | 330 => 389 | 334 => 394 | 335 => 395 | 336 => 333 | 344 => 398 | n => n, fun | 31 => 30 | 9 => 9 | 3 => 3 | 46 => 348 | 0 => 0 | 51 => 371 | 53 => 373 | 4 => 4 | 183 => 365 | 182 => 364 | 131 => 237 | 5 => 5 | 218 => 387 | 222 => 391 | 228 => 395 | 229 => 235 | n => n, fun | n => n⟩
theorem Tryz.laysSort : Go.Proofs.Lays.n190 Tryz.prog Tryz.laysSort_ren := {
 mixed := by kernel_rfl
 f125 := Tryz.func340.trans (congrArg some (by kernel_rfl))
 f128 := Tryz.func368.trans (congrArg some (by kernel_rfl))
 f129 := Tryz.func369.trans (congrArg some (by kernel_rfl))
 f190 := Tryz.func311.trans (congrArg some (by kernel_rfl))
 f258 := Tryz.func348.trans (congrArg some (by kernel_rfl))
 f302 := Tryz.func373.trans (congrArg some (by kernel_rfl))
 f303 := Tryz.func374.trans (congrArg some (by kernel_rfl))
 f304 := Tryz.func375.trans (congrArg some (by kernel_rfl))
 f305 := Tryz.func376.trans (congrArg some (by kernel_rfl))
 f306 := Tryz.func377.trans (congrArg some (by kernel_rfl))
 f307 := Tryz.func378.trans (congrArg some (by kernel_rfl))
 f308 := Tryz.func379.trans (congrArg some (by kernel_rfl))
 f309 := Tryz.func380.trans (congrArg some (by kernel_rfl))
 f310 := Tryz.func381.trans (congrArg some (by kernel_rfl))
 f329 := Tryz.func388.trans (congrArg some (by kernel_rfl))
 f330 := Tryz.func389.trans (congrArg some (by kernel_rfl))
 f333 := Tryz.func393.trans (congrArg some (by kernel_rfl))
 f334 := Tryz.func394.trans (congrArg some (by kernel_rfl))
 f335 := Tryz.func395.trans (congrArg some (by kernel_rfl))
 f336 := Tryz.func333.trans (congrArg some (by kernel_rfl))
 f344 := Tryz.func398.trans (congrArg some (by kernel_rfl))
 t0 := Tryz.underlying0
 a0 := Tryz.isAgg0
 z0 := Tryz.sizeOf0
 v0 := Tryz.zeroValue0
 t3 := Tryz.underlying3
 a3 := Tryz.isAgg3
 z3 := Tryz.sizeOf3
 v3 := Tryz.zeroValue3
 t4 := Tryz.underlying4
 a4 := Tryz.isAgg4
 z4 := Tryz.sizeOf4
 v4 := Tryz.zeroValue4
 t5 := Tryz.underlying5
 a5 := Tryz.isAgg5
 z5 := Tryz.sizeOf5
 v5 := Tryz.zeroValue5
 t9 := Tryz.underlying9
 a9 := Tryz.isAgg9
 z9 := Tryz.sizeOf9
 v9 := Tryz.zeroValue9
 t31 := Tryz.underlying30
 a31 := Tryz.isAgg30
 z31 := Tryz.sizeOf30
 v31 := Tryz.zeroValue30
 t46 := Tryz.underlying348
 a46 := Tryz.isAgg348
 z46 := Tryz.sizeOf348
 v46 := Tryz.zeroValue348
 t51 := Tryz.underlying371
 a51 := Tryz.isAgg371
 z51 := Tryz.sizeOf371
 v51 := Tryz.zeroValue371
 t53 := Tryz.underlying373
 a53 := Tryz.isAgg373
 z53 := Tryz.sizeOf373
 v53 := Tryz.zeroValue373
 t131 := Tryz.underlying237
 a131 := Tryz.isAgg237
 z131 := Tryz.sizeOf237
 v131 := Tryz.zeroValue237
 t182 := Tryz.underlying364
 a182 := Tryz.isAgg364
 z182 := Tryz.sizeOf364
 v182 := Tryz.zeroValue364
 t183 := Tryz.underlying365
 a183 := Tryz.isAgg365
 z183 := Tryz.sizeOf365
 v183 := Tryz.zeroValue365
 t218 := Tryz.underlying387
 a218 := Tryz.isAgg387
 z218 := Tryz.sizeOf387
 v218 := Tryz.zeroValue387
 t222 := Tryz.underlying391
 a222 := Tryz.isAgg391
 z222 := Tryz.sizeOf391
 v222 := Tryz.zeroValue391
 t228 := Tryz.underlying395
 a228 := Tryz.isAgg395
 z228 := Tryz.sizeOf395
 v228 := Tryz.zeroValue395
 t229 := Tryz.underlying235
 a229 := Tryz.isAgg235
 z229 := Tryz.sizeOf235
 v229 := Tryz.zeroValue235 }
end Go.Proofs
end
section
namespace Go.Proofs.Try1
open Go Go.Lite
theorem aFC : auk Tryz.prog 311 ash :=
 azH (enters Tryz.func311 (by kernel_rfl) (by kernel_rfl))
  (fun blk off cap zs w hH hb hl => awj fun D => AnyS.slices_Sort_string_alone Tryz.laysSort D blk off cap zs w hH hb hl)
  (fun p cap w => awj fun D => AnyS.slices_Sort_string_none_alone Tryz.laysSort D p cap w)
end Go.Proofs.Try1
end
section
namespace Go.Lite
open Go
variable [Draws]
theorem aBu {P : Program} {g : FuncId} {fn : Func} (hf : P.funcs[g]? = some fn) (hname : (fn.name == "runtime.NumGoroutine") = false) (hb : fn.body.isNone = true) (hn : Extern.findNext fn = none) (he : Extern.find fn = some Extern.BytealgIndexByte.indexByte) : auk P g auq := by
 intro args H r H' h μ w us hs hv
 unfold auq at h
 split at h
 ·rename_i s c
  cases h
  obtain ⟨u, u', rfl, h1, h2⟩ := hv.two
  obtain ⟨x, rfl, rfl⟩ := h1.str_inv
  have h3 := h2.int_inv
  subst h3
  refine .inl ⟨.int .i64 (Lib.indexByte x.data.toList c.toNat.toUInt8), w, ?_, μ, .refl hs, .int _ _⟩
  rw [run_callFunc_extern hf hname hb hn he, Lib.run_indexByteString]
  rfl
 ·cases h
end Go.Lite
end
section
namespace Go.Proofs.Try1
open Go Go.Lite
theorem aF8 : auk Tryz.prog 383 auq :=
 aBu Tryz.func383 (by kernel_rfl) (by kernel_rfl) rfl rfl
theorem progOk : ProgOk Tryz.prog C := aAt mixed ok fun g pr h => by
 change primTab g = some pr at h
 unfold primTab at h
 split at h
 ·rename_i hg; subst hg; cases h; exact aFC
 split at h
 ·rename_i hg; subst hg; cases h; exact aF3
 split at h
 ·rename_i hg; subst hg; cases h; exact aF8
 cases h
end Go.Proofs.Try1
end
