/- Part 10 of the proof of a law: the interpreter, its soundness, and what functions of the program compute over it. Conditions: none but those that each theorem names. -/
import Derived.Test.YtdkbgdjfmbppfaaGreatDoorB09
import Derived.Test.YtdkbgdjfmbppfaaGreatDoorB07
import Derived.Test.YtdkbgdjfmbppfaaGreatDoorB08
import Derived.Test.YtdkbgdjfmbppfaaGreatDoorB06

set_option linter.all false
set_option maxRecDepth 20000
set_option maxHeartbeats 40000000
section
namespace Go.Proofs.Try1
open Go Go.Lite
noncomputable def nC (e : PEntry) (n v : Str) : PEntryOut :=
 if ∃ x ∈ valsOf e.attrs n, norm x = norm v then gz 7 else if 4 ≤ (valsOf e.attrs n).length ∨ (valsOf e.attrs n = [] ∧ 8 ≤ e.attrs.length) then gz 9 else ⟨o9 e n (bD (valsOf e.attrs n ++ [v])), 0⟩
noncomputable def dA (e : PEntry) (n v : Str) : PEntryOut :=
 if 8000 < n.length ∨ 8000 < v.length then gz 2 else if dec (EntryOk e ∧ aF n ∧ aA v) = true then nC e n v else gz 1
theorem J4 {H : List Ob} {n v : Str} : callW C 197 [.str n, .str v] H = some (.bool (dec (8000 < n.length ∨ 8000 < v.length)), H) := by
 apply Ret.dec
 rw [NH]
 by_cases g1 : 8000 < n.length
 ·have g1' : (8000 : Int) < n.length := by omega
  simp [uf, Tryz.f197, g1, g1']
 ·have g1' : ¬ (8000 : Int) < n.length := by omega
  by_cases g2 : 8000 < v.length
  ·have g2' : (8000 : Int) < v.length := by omega
   simp [uf, Tryz.f197, g1, g1', g2, g2']
  ·have g2' : ¬ (8000 : Int) < v.length := by omega
   simp [uf, Tryz.f197, g1, g1', g2, g2']
theorem H7 {H : List Ob} {w : V} {l : List Str} {v : Str} (hw : AStrs H w l) (hl : l.length ≤ 1000) (hv : v.length ≤ maxLen) :
  ∃ p1 X1, aU ⟨.str, 1, 16, [.str []]⟩ (H ++ [.mk true 1 [], .dead]) (.slc (some (H.length, 0)) 0) w = some (p1, H ++ X1) ∧ fB [1] 0 [.mk true 1 [], .mk true 1 [.str v]] X1 = X1.set 1 (.mk true 1 [.str v]) ∧ 2 ≤ X1.length ∧ aI p1 = true ∧ cellsOf p1 = some [p1] ∧
   ∃ p2 X2, aU ⟨.str, 1, 16, [.str []]⟩ (H ++ X1.set 1 (.mk true 1 [.str v])) p1 (.slc (some (H.length + 1, 0)) 1) = some (p2, H ++ X2) ∧ X1.length ≤ X2.length ∧ AStrs (H ++ X2) p2 (l ++ [v]) := by
 obtain ⟨p, rfl, hc, hp, _⟩ := vI (T := [.mk true 1 [], .dead]) hw
 have hmx := hw.max
 have fin : ∀ (X : List Ob) (id : Nat), H.length ≤ id → (H ++ X)[id]? = some (.mk true 1 ((l ++ [v]).map V.str)) → AStrs (H ++ X) (.slc (some (id, 0)) (l.length + 1)) (l ++ [v]) := fun X id h1 h2 => by
  have hg : Gs H (H ++ X) (.slc (some (id, 0)) (l.length + 1)) ((l ++ [v]).map V.str) := ⟨X, id, rfl, h1, h2, by simp⟩
  refine (hg.strs (by simp [maxLen]; omega) fun s hs => ?_).1
  rcases List.mem_append.1 hs with h | h
  ·exact hmx s h
  ·rw [List.mem_singleton.1 h]; exact hv
 by_cases h0 : l.length = 0
 ·have hl0 : l = [] := List.length_eq_zero_iff.1 h0
  subst hl0
  refine ⟨.slc (some (H.length, 0)) 0, [.mk true 1 [], .dead], ?_, rfl, by simp, rfl, rfl, ?_⟩
  ·unfold aU
   simp [gV, aQ, aO]
   cases p <;> simp
  ·have e : [Ob.mk true 1 [], .dead].set 1 (.mk true 1 [.str v]) = [.mk true 1 [], .mk true 1 [.str v]] := rfl
   rw [e]
   have hr : (H ++ [Ob.mk true 1 [], Ob.mk true 1 [.str v]])[H.length]? = some (.mk true 1 []) := by simp
   have hx : aQ ⟨.str, 1, 16, [.str []]⟩ (H ++ [Ob.mk true 1 [], Ob.mk true 1 [.str v]]) (.slc (some (H.length + 1, 0)) 1) = some ([.str v], 1) := by
    simp [aQ, aO, iC, cO]
   have := dG (n := 0) (by rfl) (by decide) (by decide) (by decide) hr (by simp) hx (by decide) (by rfl) (by simp [ax])
   refine ⟨.slc (some (H.length + 2, 0)) 1, [.dead, .mk true 1 [.str v], .mk true 1 [.str v]], by rw [this]; simp, by simp, ?_⟩
   have := fin [.dead, .mk true 1 [.str v], .mk true 1 [.str v]] (H.length + 2) (by omega) (by rw [iC]; rfl)
   simpa using this
 ·have hm : aQ ⟨.str, 1, 16, [.str []]⟩ (H ++ [Ob.mk true 1 [], .dead]) (.slc p l.length) = some (l.map V.str, l.length) := by
   simp [aQ, hc]
  have hr : (H ++ [Ob.mk true 1 [], .dead])[H.length]? = some (.mk true 1 []) := by simp
  have ha := dG (n := 0) (by rfl) (by decide) (by decide) (by decide) hr (by simp) hm h0 (by simp [aI]) (by unfold ax; omega)
  refine ⟨.slc (some (H.length + 2, 0)) l.length, [.dead, .dead, .mk true 1 (l.map V.str)], by rw [ha]; simp, rfl, by simp, rfl, rfl, ?_⟩
  have e : [Ob.dead, .dead, .mk true 1 (l.map V.str)].set 1 (.mk true 1 [.str v]) = [.dead, .mk true 1 [.str v], .mk true 1 (l.map V.str)] := rfl
  rw [e]
  have hr2 : (H ++ [Ob.dead, Ob.mk true 1 [.str v], .mk true 1 (l.map V.str)])[H.length + 2]? = some (.mk true 1 (l.map V.str)) := by rw [iC]; rfl
  have hx : aQ ⟨.str, 1, 16, [.str []]⟩ (H ++ [Ob.dead, Ob.mk true 1 [.str v], .mk true 1 (l.map V.str)]) (.slc (some (H.length + 1, 0)) 1) = some ([.str v], 1) := by
   simp [aQ, aO, iC, cO]
  have h2 := dG (n := l.length) (by rfl) (by decide) (by decide) (by decide) hr2 (by simp) hx (by decide) (by rfl) (by unfold ax; omega)
  refine ⟨.slc (some (H.length + 3, 0)) (l.length + 1), [.dead, .mk true 1 [.str v], .dead, .mk true 1 ((l ++ [v]).map V.str)], by rw [h2]; simp [ja], by simp, ?_⟩
  have := fin [.dead, .mk true 1 [.str v], .dead, .mk true 1 ((l ++ [v]).map V.str)] (H.length + 3) (by omega) (by rw [iC]; rfl)
  simpa using this
theorem NM {H : List Ob} {vd va : V} {e : PEntry} {n v : Str} (hd : aX H vd e.dn) (ha : aC H va e.attrs) (hb : l7 e) (hp : e.attrs.Pairwise fun a b => a.name < b.name) (hn : n.length ≤ maxLen) (hv : v.length ≤ maxLen) (hvl : ∀ a ∈ e.attrs, a.vals.length ≤ 500) :
  ∃ q H', callW C 198 [.agg [vd, va], .str n, .str v] H = some (q, H') ∧ EOut H (nC e n v) q H' := by
 suffices hs : Ret C 198 [.agg [vd, va], .str n, .str v] H fun q H' => EOut H (nC e n v) q H' by
  obtain ⟨q, H', hc, hr⟩ := hs
  exact ⟨q, H', hc, hr⟩
 rw [Pv]
 have hod := hd.one
 have hoa := ha.one
 obtain ⟨w, c1, hw⟩ := RP (t := n) ha hod.2 hod.1
 have hwl : (valsOf e.attrs n).length ≤ 500 := by
  unfold valsOf
  split
  ·rename_i a h; exact hvl a (List.mem_of_find?_eq_some h)
  ·simp
 have c2 := iY (t := v) (H := H)
 obtain ⟨r, c3, hr⟩ := O7 (n := norm v) hw
 have c4 := uT (H := H) (c := 7)
 have c5 := uT (H := H) (c := 9)
 rcases hr with ⟨k, x, h1, h2, h3, rfl⟩ | ⟨h1, rfl⟩
 ·have ho : nC e n v = gz 7 := if_pos ⟨x, List.mem_of_getElem? h1, by simpa using h2⟩
  have hk : (0 : Int) ≤ k := by omega
  rw [ho]
  simp [nV, Tryz.f198, c1, c2, c3, c4, hk, hod, hoa]
  exact EOut.ill (by decide)
 have hno : ¬ ∃ x ∈ valsOf e.attrs n, norm x = norm v := by
  rintro ⟨x, hx, he⟩
  obtain ⟨j, hj, rfl⟩ := List.getElem_of_mem hx
  have := h1 j _ (List.getElem?_eq_getElem hj)
  simp [he] at this
 by_cases g : 4 ≤ (valsOf e.attrs n).length ∨ (valsOf e.attrs n = [] ∧ 8 ≤ e.attrs.length)
 ·have ho : nC e n v = gz 9 := by unfold nC; rw [if_neg hno, if_pos g]
  rw [ho]
  by_cases g1 : 4 ≤ (valsOf e.attrs n).length
  ·have g1' : (4 : Int) ≤ (valsOf e.attrs n).length := by omega
   simp [nV, Tryz.f198, c1, c2, c3, c5, hod, hoa, hw.len, g1']
   exact EOut.ill (by decide)
  ·have g1' : ¬ (4 : Int) ≤ (valsOf e.attrs n).length := by omega
   obtain ⟨g2, g3⟩ := g.resolve_left g1
   have g2' : (valsOf e.attrs n).length = 0 := by rw [g2]; rfl
   have g3' : (8 : Int) ≤ e.attrs.length := by omega
   simp [nV, Tryz.f198, c1, c2, c3, c5, hod, hoa, hw.len, g1', g2, g3', ha.len]
   exact EOut.ill (by decide)
 have g1 : ¬ 4 ≤ (valsOf e.attrs n).length := fun h => g (.inl h)
 have g1' : ¬ (4 : Int) ≤ (valsOf e.attrs n).length := by omega
 have ho : nC e n v = ⟨o9 e n (bD (valsOf e.attrs n ++ [v])), 0⟩ := by unfold nC; rw [if_neg hno, if_neg g]
 obtain ⟨p1, X1, a1, x0, x1, o1, o1', p2, X2, a2, x2, hv2⟩ := H7 (v := v) hw (by omega) hv
 obtain ⟨T, w1, w2, c6, hat, hnl, hen⟩ := L9 (H := H ++ X2) hd.ext ha.ext hb hp hn hv2 (by simp; omega)
 obtain ⟨v1, v2, hcs, b1, b2⟩ := fC.1 hat
 cases hcs
 have ho1 := b1.one
 have ho2 := b2.one
 have hnl' : ¬ eF H w2 := fun h => hnl (by
  obtain ⟨p, rfl⟩ := b2.shape
  exact qJ h)
 have hgc : eY H (H ++ X2 ++ T) (.agg [w1, w2, .int .i64 0]) = H ++ X2 ++ T := by
  rw [List.append_assoc]
  exact eP fun h => hnl' h.2.1
 rw [ho]
 have fin : EOut H ⟨o9 e n (bD (valsOf e.attrs n ++ [v])), 0⟩ (.agg [w1, w2, .int .i64 0]) (H ++ X2 ++ T) := ⟨X2 ++ T, w1, w2, rfl, by simp, by rw [← List.append_assoc]; exact dS.2 ⟨_, _, rfl, b1, b2, show (Lit.int .i64 0).wf = true by decide⟩, by rw [← List.append_assoc]; exact hgc, fun _ => hnl', fun h => absurd rfl h, fun _ => by rw [← List.append_assoc]; exact hen.wide (by simp)⟩
 have hk1 : di [1] H.length (H ++ [.mk true 1 [], .mk true 1 [.str v]]) = H ++ [.mk true 1 [], .dead] := by rw [lU]; rfl
 have op2 : aI p2 = true ∧ cellsOf p2 = some [p2] := hv2.one
 simp only [List.append_assoc] at hgc fin c6
 by_cases g2 : valsOf e.attrs n = []
 ·have g3 : ¬ (8 : Int) ≤ e.attrs.length := fun h => g (.inr ⟨g2, by omega⟩)
  have g2' : ((valsOf e.attrs n).length : Int) = 0 := by rw [g2]; rfl
  simp [nV, Tryz.f198, c1, c2, c3, hod, hoa, hw.len, ha.len, g1', g2', g3, ae, ag, List.lookup, List.replicate, aB, ay, ak, ja, lX, hk1, lF, lH, lI, x0, a1, a2, o1, o1', op2, x1, x2, c6, ho1, ho2, aP, ah, hgc]
  exact fin
 ·have g2' : ¬ ((valsOf e.attrs n).length : Int) = 0 := fun h => g2 (List.length_eq_zero_iff.1 (by omega))
  simp [nV, Tryz.f198, c1, c2, c3, hod, hoa, hw.len, ha.len, g1', g2, g2', ae, ag, List.lookup, List.replicate, aB, ay, ak, ja, lX, hk1, lF, lH, lI, x0, a1, a2, o1, o1', op2, x1, x2, c6, ho1, ho2, aP, ah, hgc]
  exact fin
theorem DV {H : List Ob} {vd va : V} {e : PEntry} {n v : Str} (hd : aX H vd e.dn) (ha : aC H va e.attrs) (hn : n.length ≤ maxLen) (hv : v.length ≤ maxLen) :
  ∃ q H', callW C 106 [.agg [vd, va], .str n, .str v] H = some (q, H') ∧ EOut H (dA e n v) q H' := by
 suffices hs : Ret C 106 [.agg [vd, va], .str n, .str v] H fun q H' => EOut H (dA e n v) q H' by
  obtain ⟨q, H', hc, hr⟩ := hs
  exact ⟨q, H', hc, hr⟩
 rw [Pi]
 have hod := hd.one
 have hoa := ha.one
 have c0 := J4 (n := n) (v := v) (H := H)
 have c1 := uT (H := H) (c := 2)
 have c2 := uT (H := H) (c := 1)
 have c3 := nS hd ha
 have c4 := uX (t := n) (H := H)
 have c5 := qw (t := v) (H := H)
 by_cases g1 : 8000 < n.length ∨ 8000 < v.length
 ·have ho : dA e n v = gz 2 := if_pos g1
  rw [au g1] at c0
  rw [ho]
  simp [oh, Tryz.f106, c0, c1, hod, hoa]
  exact EOut.ill (by decide)
 rw [ai g1] at c0
 have ho0 : dA e n v = if dec (EntryOk e ∧ aF n ∧ aA v) = true then nC e n v else gz 1 := if_neg g1
 have hill : ¬ (EntryOk e ∧ aF n ∧ aA v) → dA e n v = gz 1 := fun h => by rw [ho0, ai h]; rfl
 by_cases h1 : EntryOk e
 rotate_left
 ·rw [ai h1] at c3
  rw [hill fun h => h1 h.1]
  simp [oh, Tryz.f106, c0, c2, c3, hod, hoa]
  exact EOut.ill (by decide)
 rw [au h1] at c3
 by_cases h2 : aF n
 rotate_left
 ·rw [ai h2] at c4
  rw [hill fun h => h2 h.2.1]
  simp [oh, Tryz.f106, c0, c2, c3, c4, hod, hoa]
  exact EOut.ill (by decide)
 rw [au h2] at c4
 by_cases h3 : aA v
 rotate_left
 ·rw [ai h3] at c5
  rw [hill fun h => h3 h.2.2]
  simp [oh, Tryz.f106, c0, c2, c3, c4, c5, hod, hoa]
  exact EOut.ill (by decide)
 rw [au h3] at c5
 have ho : dA e n v = nC e n v := by rw [ho0, au ⟨h1, h2, h3⟩]; rfl
 rw [ho]
 obtain ⟨q, H', c6, T, w1, w2, rfl, rfl, hat, hgc, hnl⟩ := NM (v := v) hd ha (EntryOk.small h1) (EntryOk.rise h1) hn hv (fun a ha => by
  obtain ⟨j, hj, rfl⟩ := List.getElem_of_mem ha
  have := (h1.2.2.1 j _ (List.getElem?_eq_getElem hj)).2.2.2.2
  omega)
 obtain ⟨_, _, hcs, a1, a2, hwf⟩ := dS.1 hat
 cases hcs
 have ho1 := a1.one
 have ho2 := a2.one
 simp [oh, Tryz.f106, c0, c3, c4, c5, c6, hod, hoa, ho1, ho2, hgc]
 exact ⟨T, w1, w2, rfl, rfl, hat, hgc, hnl⟩
end Go.Proofs.Try1
end
section
namespace Go.Proofs.Try1
open Go Go.Lite
attribute [-simp] dH gG
attribute [local simp] dO fV dM dK dL df
attribute [local simp low] dJ
theorem yB {e : PEntry} {n v : Str} (h : (dA e n v).code = 0) : (dA e n v).entry.dn = e.dn ∧ (dA e n v).entry.attrs.length ≤ 17 ∧ ∀ a ∈ (dA e n v).entry.attrs, a.vals.length ≤ 100 ∧ ∀ s ∈ a.vals, s.length ≤ 200 := by
 unfold dA at h ⊢
 split at h
 ·simp [gz] at h
 ·rename_i g1
  rw [if_neg g1]
  by_cases g0 : EntryOk e ∧ aF n ∧ aA v
  ·rw [au g0, if_pos rfl] at h ⊢
   have hok : EntryOk e := g0.1
   unfold nC at h ⊢
   split at h
   ·simp [gz] at h
   ·rename_i g3
    rw [if_neg g3]
    split at h
    ·simp [gz] at h
    ·rename_i g4
     rw [if_neg g4]
     refine ⟨rfl, ?_, ?_⟩
     rotate_left
     ·intro a ha
      simp only [o9, aY, List.mem_append, List.mem_filter] at ha
      have hall : ∀ a ∈ e.attrs, a.vals.length ≤ 100 ∧ ∀ s ∈ a.vals, s.length ≤ 200 := fun a ha => by
       obtain ⟨j, hj, rfl⟩ := List.getElem_of_mem ha
       have hv := (hok.2.2.1 j _ (List.getElem?_eq_getElem hj)).2.2
       refine ⟨by have := hv.2.2; omega, fun s hs => ?_⟩
       obtain ⟨k, hk, rfl⟩ := List.getElem_of_mem hs
       have := (hv.1 k _ (List.getElem?_eq_getElem hk)).1.2.1
       omega
      rcases ha with (ha | ha) | ha
      ·exact hall a ha.1
      ·split at ha
       ·cases ha
       ·simp at ha
        subst ha
        refine ⟨?_, fun s hs => ?_⟩
        ·simp only [jS, List.length_append, List.length_singleton]
         have h4 : ¬ 4 ≤ (valsOf e.attrs n).length := fun h => g4 (.inl h)
         omega
        ·rcases List.mem_append.1 ((jW _).mem_iff.1 hs) with h | h
         ·unfold valsOf at h
          split at h
          ·rename_i x hx
           exact (hall x (List.mem_of_find?_eq_some hx)).2 s h
          ·cases h
         ·simp at h
          subst h
          have := g0.2.2.2.1
          omega
      ·exact hall a ha.1
     have h8 := hok.2.2.2
     have f1 := List.length_filter_le (fun a : PAttr => dec (bG a.name n)) e.attrs
     have f2 := List.length_filter_le (fun a : PAttr => dec (bG n a.name)) e.attrs
     simp only [o9, aY, List.length_append]
     split <;> simp <;> omega
  ·rw [ai g0] at h
   simp [gz] at h
theorem wE {G : List Ob} (A : List Ob) {s : Str} {l : List Str} (hl : l.length ≤ 1000) (hb : ∀ s ∈ l, s.length ≤ 100) (hs : s.length ≤ 200) : At (G ++ (A ++ [.mk true 1 (l.map V.str)])) shAttr [.str s, .slc (some (G.length + A.length, 0)) l.length] (PAttr.u ⟨s, l⟩) := by
 have := vw (G := G ++ A) (T := []) hl hb
 simp at this
 exact nZ.2 ⟨_, rfl, by unfold maxLen; simp; omega, this⟩
theorem xk {G : List Ob} (A : List Ob) {s : Str} {l : List Str} (hl : l.length ≤ 1000) (hb : ∀ s ∈ l, s.length ≤ 100) (hs : s.length ≤ 200) : ∀ id, id < G.length → At ((G ++ (A ++ [Ob.mk true 1 (l.map V.str)])).set id .dead) shAttr [.str s, .slc (some (G.length + A.length, 0)) l.length] (PAttr.u ⟨s, l⟩) := by
 intro id hid
 rw [jO hid]
 have := wE (G := G.set id .dead) A (s := s) hl hb hs
 rwa [List.length_set] at this
theorem xP {b : Nat} {K G : List Ob} {w1 w2 : V} {e : PEntry} (h : EnR b K w1 w2 e) (hb : G.length ≤ b) (h2 : w2 ≠ .slc none 0 ∨ ¬ eF G w1) : ¬ eF G (.agg [w1, w2]) := by
 intro hl
 obtain ⟨l1, l2, _⟩ := hl
 rcases h2 with h2 | h2
 ·obtain ⟨_, ⟨rfl, _⟩ | ⟨id, cs, q1, rfl, _⟩⟩ := h
  ·exact h2 rfl
  ·obtain ⟨own, es, cells, hx⟩ := l2
   have := (List.getElem?_eq_some_iff.1 hx).1
   omega
 ·exact h2 l1
def EnQ (id : Nat) (v : V) (G K : List Ob) (w1 w2 : V) (n : Nat) : Prop := Ev id G K ∧ SrcIn K id v ∧ ∃ e, EnR G.length K w1 w2 e ∧ (w2 ≠ .slc none 0 ∨ ¬ eF G w1) ∧ e.dn.length ≤ 10 ∧ e.attrs.length ≤ n ∧ ∀ a ∈ e.attrs, a.vals.length ≤ 100 ∧ ∀ s ∈ a.vals, s.length ≤ 200
section
variable {id : Nat} {v : V} {G K K' : List Ob} {w1 w2 : V} {n : Nat}
theorem EnQ.gc (h : EnQ id v G K w1 w2 n) : eY G K (.agg [w1, w2]) = K := by
 obtain ⟨_, _, e, h1, h2, _⟩ := h
 exact eP (xP h1 (Nat.le_refl _) h2)
theorem EnQ.to (h : EnQ id v G K w1 w2 n) (hE : Ev id K K') (hS : SrcIn K' id v) {m : Nat} (hm : n ≤ m) : EnQ id v G K' w1 w2 m := by
 obtain ⟨h1, h2, e, h3, h4, h5, h6, h7⟩ := h
 exact ⟨h1.trans hE, hS, e, h3.ev h2.at hS.at hE, h4, h5, Nat.le_trans h6 hm, h7⟩
theorem EnQ.ones (h : EnQ id v G K w1 w2 n) (hn : n ≤ 1000) : (aI w1 = true ∧ cellsOf w1 = some [w1]) ∧ (aI w2 = true ∧ cellsOf w2 = some [w2]) := by
 obtain ⟨h1, h2, e, h3, h4, h5, h6, h7⟩ := h
 exact ⟨h3.1.one, (h3.attrs (by unfold maxLen; omega)).one⟩
def EnX (id : Nat) (v : V) (G K : List Ob) (w1 w2 : V) (n : Nat) : Prop := Ev id G K ∧ SrcIn K id v ∧ ∃ e, EnR G.length K w1 w2 e ∧ (w2 ≠ .slc none 0 ∨ ¬ eF G w1) ∧ e.dn.length ≤ 10 ∧ e.attrs.length = n ∧ ∀ a ∈ e.attrs, a.vals.length ≤ 100 ∧ ∀ s ∈ a.vals, s.length ≤ 200
theorem EnX.q (h : EnX id v G K w1 w2 n) {m : Nat} (hm : n ≤ m) : EnQ id v G K w1 w2 m := by
 obtain ⟨h1, h2, e, h3, h4, h5, h6, h7⟩ := h
 exact ⟨h1, h2, e, h3, h4, h5, by omega, h7⟩
theorem EnQ.x (h : EnQ id v G K w1 w2 n) : ∃ m, m ≤ n ∧ EnX id v G K w1 w2 m := by
 obtain ⟨h1, h2, e, h3, h4, h5, h6, h7⟩ := h
 exact ⟨_, h6, h1, h2, e, h3, h4, h5, rfl, h7⟩
theorem EnX.to (h : EnX id v G K w1 w2 n) (hE : Ev id K K') (hS : SrcIn K' id v) : EnX id v G K' w1 w2 n := by
 obtain ⟨h1, h2, e, h3, h4, h5, h6, h7⟩ := h
 exact ⟨h1.trans hE, hS, e, h3.ev h2.at hS.at hE, h4, h5, h6, h7⟩
theorem EnX.len (h : EnX id v G K w1 w2 n) (hn : n ≤ 1000) {e s b : Nat} {z : List V} : lenV ⟨.slice e, s, b, z⟩ w2 = some (.int .i64 n) := by
 obtain ⟨h1, h2, e, h3, h4, h5, rfl, _⟩ := h
 exact (h3.attrs (by unfold maxLen; omega)).len
theorem EnX.push {T : List Ob} {c : List V} {d : LD} {z : List V} (hs : SrcIn G id v) (h : EnX id v G K w1 w2 n) {s : Str} {l : List Str} (hc : c.length = 2) (hx : ∀ i, i < K.length → At ((K ++ T).set i .dead) shAttr c (PAttr.u ⟨s, l⟩)) (hx0 : At (K ++ T) shAttr c (PAttr.u ⟨s, l⟩)) (hz : z.length = 2) (hn : n ≤ 900) (hll : l.length ≤ 100 ∧ ∀ s ∈ l, s.length ≤ 200) :
  ∃ w' K', aU ⟨d, 2, 40, z⟩ (K ++ (T ++ [.mk true 2 c])) w2 (.slc (some (K.length + T.length, 0)) 1) = some (w', K') ∧ EnX id v G K' w1 w' (n + 1) ∧ (aI w' = true ∧ cellsOf w' = some [w']) ∧ K.length + T.length + 1 ≤ K'.length := by
 obtain ⟨h1, h2, e, h3, h4, h5, h6, h7⟩ := h
 have hid := hs.lt
 obtain ⟨w', K', p1, p2, p3, p4, p5⟩ := EnR.push (x := ⟨s, l⟩) (c := c) (d := d) (z := z) h3 h1.1 hc hx hx0 hz (by omega)
 have hE : Ev id G K' := ⟨Nat.le_trans h1.1 p3, fun q hq hql => by rw [p4 q hql, h1.2 q hq hql]⟩
 have hS : SrcIn K' id v := SrcIn.of hs h2 hE (p4 id hid)
 rw [List.append_assoc, List.length_append] at p1
 have hq : EnX id v G K' w1 w' (n + 1) := ⟨hE, hS, ⟨e.dn, e.attrs ++ [⟨s, l⟩]⟩, p2, .inl ?_, h5, by simp; omega, fun a ha => by
  rcases List.mem_append.1 ha with ha | ha
  ·exact h7 a ha
  ·simp at ha; subst ha; exact hll⟩
 ·exact ⟨w', K', p1, hq, ((hq.q (Nat.le_refl _)).ones (by omega)).2, by have := BH p1; simp at this; omega⟩
 ·rintro rfl
  obtain ⟨_, ⟨_, h⟩ | ⟨i, cs, _, h, _⟩⟩ := p2
  ·simp at h
  ·cases h
theorem EnQ.push {T : List Ob} {c : List V} {d : LD} {z : List V} (hs : SrcIn G id v) (h : EnQ id v G K w1 w2 n) {s : Str} {l : List Str} (hc : c.length = 2) (hx : ∀ i, i < K.length → At ((K ++ T).set i .dead) shAttr c (PAttr.u ⟨s, l⟩)) (hx0 : At (K ++ T) shAttr c (PAttr.u ⟨s, l⟩)) (hz : z.length = 2) (hn : n ≤ 900) (hll : l.length ≤ 100 ∧ ∀ s ∈ l, s.length ≤ 200) :
  ∃ w' K', aU ⟨d, 2, 40, z⟩ (K ++ (T ++ [.mk true 2 c])) w2 (.slc (some (K.length + T.length, 0)) 1) = some (w', K') ∧ EnQ id v G K' w1 w' (n + 1) ∧ (aI w' = true ∧ cellsOf w' = some [w']) ∧ K.length + T.length + 1 ≤ K'.length := by
 obtain ⟨m, hm, hx'⟩ := h.x
 obtain ⟨w', K', p1, p2, p3⟩ := EnX.push (d := d) (z := z) hs hx' hc hx hx0 hz (by omega) hll
 exact ⟨w', K', p1, p2.q (by omega), p3⟩
theorem EnQ.setDn (h : EnQ id v G K w1 w2 n) {u : V} {dn : List PRdn} (hE : Ev id K K') (hS : SrcIn K' id v) (hr : RowF K.length K' 2 u dn.length (kN dn)) (hl : dn.length ≤ 10) (hb : ∀ r ∈ dn, r.attr.length ≤ 100 ∧ r.value.length ≤ 100) : EnQ id v G K' u w2 n := by
 obtain ⟨h1, h2, e, h3, h4, h5, h6, h7⟩ := h
 have h3' := h3.ev h2.at hS.at hE
 obtain ⟨i0, q1, q2, q3, q4⟩ := hr
 have hK := h1.1
 have hnl : ¬ eF G u := by
  rw [q2]
  rintro ⟨own, es, cells, h⟩
  have := (List.getElem?_eq_some_iff.1 h).1
  omega
 refine ⟨h1.trans hE, hS, ⟨dn, e.attrs⟩, ⟨uD ⟨i0, q1, q2, q3, q4⟩ (by show dn.length ≤ 1000; omega) hb, ?_⟩, .inr hnl, hl, h6, h7⟩
 obtain ⟨_, h7 | ⟨i, cs, f1, f2, f3, f4, f5, f6⟩⟩ := h3'
 ·exact .inl h7
 ·have hiK : i < K.length := by
   obtain ⟨_, ⟨k1, k2⟩ | ⟨i', cs', k1, k2, k3, _⟩⟩ := h3
   ·rw [k1] at f2; cases f2
   ·rw [k2] at f2
    injection f2 with f2 _
    injection f2 with f2
    injection f2 with f2 _
    rw [← f2]
    exact (List.getElem?_eq_some_iff.1 k3).1
  refine .inr ⟨i, cs, f1, f2, f3, f4, uD ⟨i0, q1, q2, by rw [List.getElem?_set_ne (by omega)]; exact q3, q4⟩ (by show dn.length ≤ 1000; omega) hb, f6⟩
end
theorem nT {id : Nat} {v : V} {G : List Ob} (hs : SrcIn G id v) : ∃ w1 w2 G', callW C 77 [.ptr (some (id, 0))] G = some (.agg [w1, w2], G') ∧ EnQ id v G G' w1 w2 40 := by
 suffices hg : Ret C 77 [.ptr (some (id, 0))] G fun q G' => ∃ w1 w2, q = .agg [w1, w2] ∧ EnQ id v G G' w1 w2 40 by
  obtain ⟨q, G', hc, w1, w2, rfl, hr⟩ := hg
  exact ⟨w1, w2, G', hc, hr⟩
 rw [TR]
 have hid := hs.lt
 obtain ⟨_, K1, c1, l1, e1, s1, nm, rfl, hnm, _⟩ := kS (S := []) hs [[97, 110, 110], [98, 111, 98], [99, 97, 116]] (by decide) (by decide) (by decide)
 have f1 := Ev.app.trans (e1.appS (S := [Ob.mk true 1 [.str [97, 110, 110], .str [98, 111, 98], .str [99, 97, 116]]]) l1)
 obtain ⟨_, K2, c2, l2, e2, s2, n, rfl, hn, _⟩ := NC (S := []) (G := K1 ++ [.mk true 1 [.str [97, 110, 110], .str [98, 111, 98], .str [99, 97, 116]], .mk true 2 [.str [99, 110], .str nm, .str [100, 99], .str [120]]]) s1.app (most := 6) (by decide)
 have f2 : Ev id G K2 := (f1.trans (Ev.app (T := [.mk true 2 [.str [99, 110], .str nm, .str [100, 99], .str [120]]]))).trans (by simpa using e2)
 have hn6 : n < 6 := by have := hn (by decide); omega
 have hrow : RowF G.length (K1 ++ [.mk true 1 [.str [97, 110, 110], .str [98, 111, 98], .str [99, 97, 116]], .mk true 2 [.str [99, 110], .str nm, .str [100, 99], .str [120]]]) 2 (.slc (some (K1.length + 1, 0)) 2) 2 (kN [⟨[99, 110], nm⟩, ⟨[100, 99], [120]⟩]) := ⟨K1.length + 1, by omega, rfl, by simp only [iC]; rfl, rfl⟩
 have hrow2 := hrow.ev e2 hid
 have hd2 : aX K2 (.slc (some (K1.length + 1, 0)) 2) [⟨[99, 110], nm⟩, ⟨[100, 99], [120]⟩] := uD hrow2 (by simp) (by simp; exact hnm)
 have hq2 : EnQ id v G K2 (.slc (some (K1.length + 1, 0)) 2) (.slc none 0) 17 := ⟨f2, s2, ⟨[⟨[99, 110], nm⟩, ⟨[100, 99], [120]⟩], []⟩, EnR.nil hd2, .inr (hrow2.notlow (Nat.le_refl _)), by simp, by simp, by simp⟩
 simp at c1 c2
 simp [Hy, Tryz.f77, aB, ay, ak, St.new, aP, ah, c1, c2]
 refine aH (fun k σ => ∃ (r : Nat → R) (K : List Ob) (n : Nat) (w1 w2 : V), σ = ⟨r, n, K⟩ ∧ r 0 = .val (.ptr (some (id, 0))) ∧ r 2 = .box 0 [.slc none 0, .slc none 0] ∧ r 3 = .box 1 [w1, w2] ∧ r 4 = .val (.int .i64 k) ∧ k ≤ 6 ∧ EnQ id v G K w1 w2 17) ?_ n _ ⟨_, K2, _, _, _, rfl, by simp, by simp, by simp, by simp, by omega, hq2⟩
 clear hq2 hd2 hrow2 hrow hn6 f2 c1 c2 e2 s2 f1 e1 s1 l1 l2 hn
 rintro k σ ⟨r, K, n, w1, w2, rfl, r0, r2, r3, r4, hk6, hq⟩
 obtain ⟨hp1, hp2⟩ := hq.ones (by omega)
 cases k with
 | zero =>
  obtain ⟨_, K2, c2, l2, e2, s2, t, rfl⟩ := Bz (S := []) hq.2.1 (most := 20) (by decide)
  simp at c2
  have hq2 := hq.to e2 s2 (m := 17) (by omega)
  clear hq
  cases t with
  | false =>
   simp [r0, r2, r3, r4, ae, ag, List.lookup, c2, hp1, hp2, hq2.gc]
   exact ⟨_, _, ⟨rfl, rfl⟩, hq2.to .refl hq2.2.1 (by omega)⟩
  | true =>
  obtain ⟨_, K3, c3, l3, e3, s3, m, rfl, _, _⟩ := NC (S := []) hq2.2.1 (most := 4) (by decide)
  simp at c3
  have hq3 := hq2.to e3 s3 (m := 17) (by omega)
  clear hq2 e2 s2 l2 e3 s3 l3
  simp [r0, r2, r3, r4, ae, ag, List.lookup, c2, c3]
  clear c2 c3
  by_cases g0 : m = 0
  ·subst g0
   obtain ⟨u, K4, c4, e4, s4, dn, hr, hdl, hdb⟩ := Me hq3.2.1
   have hq4 := hq3.setDn e4 s4 hr hdl hdb
   obtain ⟨hp3, _⟩ := hq4.ones (by omega)
   simp [r0, r2, r3, r4, ae, ag, List.lookup, c4, hp1, hp2, hp3, hq4.gc]
   exact ⟨_, _, ⟨rfl, rfl⟩, hq4.to .refl hq4.2.1 (by omega)⟩
  have g0' : ¬ (m : Int) = 0 := by omega
  by_cases g1 : m = 1
  ·subst g1
   obtain ⟨_, K4, c4, l4, e4, s4, nm, rfl, hnm, _⟩ := kS (S := [.dead]) hq3.2.1 [[97], [122, 122]] (by decide) (by decide) (by decide)
   have hq4 := hq3.to e4 s4 (m := 17) (by omega)
   have y1 := wE (G := K4) [.mk true 1 [.str [97], .str [122, 122]]] (s := nm) (l := [[98], [97]]) (by decide) (by decide) (by omega)
   have y2 := xk (G := K4) [.mk true 1 [.str [97], .str [122, 122]]] (s := nm) (l := [[98], [97]]) (by decide) (by decide) (by omega)
   obtain ⟨w', K5, c5, hq5, hp4, hlK⟩ := EnQ.push (d := .struct [(0, 9), (1, 27)]) (z := [.str [], .slc none 0]) hs hq4 (by rfl) y2 y1 rfl (by omega) (by simp)
   have k1 : di [1] K3.length (K3 ++ [Ob.mk true 1 [.str [97], .str [122, 122]], .mk true 1 [.str [98], .str [97]]]) = K3 ++ [Ob.mk true 1 [.str [97], .str [122, 122]], .dead] := by rw [lU]; rfl
   have k2 : fB [1] K3.length (K3 ++ [Ob.mk true 1 [.str [97], .str [122, 122]], .mk true 1 [.str [98], .str [97]]]) (K4 ++ [Ob.mk true 1 [.str [97], .str [122, 122]], .dead]) = K4 ++ [Ob.mk true 1 [.str [97], .str [122, 122]], .mk true 1 [.str [98], .str [97]]] := by rw [uB l4]; rfl
   simp at c4 c5
   rw [l4] at c5
   have hlK' : K3.length + 3 ≤ K5.length := by simp at hlK; omega
   simp [hlK', r0, r2, r3, r4, ae, ag, List.lookup, List.replicate, g0', c4, c5, l4, hp1, hp2, hp4, hq5.gc, aB, ay, ak, St.new, aP, ah, lF, lH, ja, lX, oO, k1, k2]
   exact ⟨_, _, ⟨rfl, rfl⟩, hq5.to .refl hq5.2.1 (by omega)⟩
  have g1' : ¬ (m : Int) = 1 := by omega
  by_cases g2 : m = 2
  ·subst g2
   obtain ⟨nn, hnn, hx⟩ := hq3.x
   clear hq3 r4
   simp [r0, r2, r3, ae, ag, List.lookup, g0', g1']
   refine aH (fun k σ => ∃ (i nn : Nat) (r : Nat → R) (K : List Ob) (n : Nat) (w1 w2 : V), σ = ⟨r, n, K⟩ ∧ r 0 = .val (.ptr (some (id, 0))) ∧ r 2 = .box 0 [.slc none 0, .slc none 0] ∧ r 3 = .box 1 [w1, w2] ∧ r 6 = .val (.int .i64 i) ∧ (nn + k = 20 ∧ i ≤ nn) ∧ EnX id v G K w1 w2 nn) ?_ (20 - nn) _ ⟨0, nn, _, K3, _, w1, w2, rfl, by simp [r0], by simp [r2], by simp [r3], by simp, by omega, hx⟩
   clear hx r0 r2 r3 r hp1 hp2
   rintro k σ ⟨i, nn, r, K, n, w1, w2, rfl, r0, r2, r3, r6, ⟨hk, hin⟩, hq⟩
   obtain ⟨_, K2, c2, l2, e2, s2, m, rfl, hm, _⟩ := NC (S := []) hq.2.1 (most := 3) (by decide)
   have hm3 : m < 3 := by have := hm (by decide); omega
   simp at c2
   have hq2 := hq.to e2 s2
   obtain ⟨hp1, hp2⟩ := (hq2.q (Nat.le_refl _)).ones (by omega)
   have hwr : IntKind.i64.wrap (7 + (m : Int)) = 7 + m := wrap_i64 (by omega) (by omega)
   have hln := fun {e s b : Nat} {z : List V} => hq.len (by omega) (e := e) (s := s) (b := b) (z := z)
   by_cases g : (nn : Int) < 7 + m
   ·cases k with
    | zero => omega
    | succ k =>
     have hi10 : i < 10 := by omega
     obtain ⟨ds, c3, hds⟩ := NE (H := K2 ++ [.dead]) hi10
     have y1 := wE (G := K2) [] (s := [122] ++ ds) (l := [[97]]) (by decide) (by decide) (by simp; omega)
     have y2 := xk (G := K2) [] (s := [122] ++ ds) (l := [[97]]) (by decide) (by decide) (by simp; omega)
     obtain ⟨w', K5, c5, hq5, hp4, hlK⟩ := EnX.push (d := .struct [(0, 9), (1, 27)]) (z := [.str [], .slc none 0]) hs hq2 (by rfl) y2 y1 rfl (by omega) (by simp)
     have k1 : di [0] K2.length (K2 ++ [Ob.mk true 1 [.str [97]]]) = K2 ++ [.dead] := by rw [lU]; rfl
     have k2 : fB [0] K2.length (K2 ++ [Ob.mk true 1 [.str [97]]]) (K2 ++ [.dead]) = K2 ++ [Ob.mk true 1 [.str [97]]] := by rw [lI]; rfl
     have hms : ds.length + 1 ≤ maxStr := by unfold maxStr; omega
     have hwi : IntKind.i64.wrap ((i : Int) + 1) = (i : Int) + 1 := wrap_i64 (by omega) (by omega)
     have hlK' : K2.length + 2 ≤ K5.length := by simp at hlK; omega
     have hms' : 1 + ds.length ≤ maxStr := by omega
     simp at c5
     simp [hlK', r0, r2, r3, r6, ae, ag, List.lookup, List.replicate, c2, c3, c5, hp1, hp2, hp4, hln, hwr, hwi, g, hms, hms', aB, ay, ak, St.new, aP, ah, lF, lH, ja, lX, oO, k1, k2]
     exact ⟨k, by omega, i + 1, nn + 1, _, _, ⟨rfl, rfl⟩, by simp [r0], by simp [r2], _, _, by simp, by simp, by omega, hq5⟩
   ·simp [r0, r2, r3, r6, ae, ag, List.lookup, c2, hp1, hp2, hln, hwr, g, (hq2.q (Nat.le_refl _)).gc]
    exact ⟨_, _, ⟨rfl, rfl⟩, hq2.q (by omega)⟩
  have g2' : ¬ (m : Int) = 2 := by omega
  have y1 : At (K3 ++ []) shAttr [.str [122, 122], .slc none 0] (PAttr.u ⟨[122, 122], []⟩) := nZ.2 ⟨_, rfl, by unfold maxLen; simp, aG.2 ⟨_, _, rfl, rfl, by simp, .inl ⟨rfl, rfl⟩⟩⟩
  have y2 : ∀ i, i < K3.length → At ((K3 ++ []).set i .dead) shAttr [.str [122, 122], .slc none 0] (PAttr.u ⟨[122, 122], []⟩) := fun i _ => nZ.2 ⟨_, rfl, by unfold maxLen; simp, aG.2 ⟨_, _, rfl, rfl, by simp, .inl ⟨rfl, rfl⟩⟩⟩
  obtain ⟨w', K5, c5, hq5, hp4, hlK⟩ := EnQ.push (d := .struct [(0, 9), (1, 27)]) (z := [.str [], .slc none 0]) hs hq3 (by rfl) y2 y1 rfl (by omega) (by simp)
  simp at c5
  simp [r0, r2, r3, r4, ae, ag, List.lookup, List.replicate, g0', g1', g2', g0, g1, g2, c5, hp1, hp2, hp4, hq5.gc, aB, ay, ak, St.new, aP, ah]
  exact ⟨_, _, ⟨rfl, rfl⟩, hq5.to .refl hq5.2.1 (by omega)⟩
 | succ k =>
  have hk0 : (0 : Int) < (k : Int) + 1 := by omega
  have hw1 : IntKind.i64.wrap ((k : Int) + 1 - 1) = k := by rw [wrap_i64 (by omega) (by omega)]; omega
  have hwk : IntKind.i64.wrap (k : Int) = k := by rw [wrap_i64 (by omega) (by omega)]
  obtain ⟨_, K2, c2, e2, s2, nm, rfl, hnm⟩ := vM hq.2.1
  obtain ⟨_, K3, c3, e3, s3, vl, rfl, hvl⟩ := xq s2
  have hq3 := hq.to (e2.trans e3) s3 (m := 17) (by omega)
  obtain ⟨h1, h2, e, h3, h4, h5, h6, h7⟩ := hq3
  obtain ⟨q, H', c4, T, u1, u2, rfl, rfl, hat, hgc, hnl2, hill, hen4⟩ := DV h3.1 (h3.attrs (by unfold maxLen; omega)) (n := nm) (v := vl) (by unfold maxLen; omega) (by unfold maxLen; omega)
  obtain ⟨_, _, hcs, a1, a2, hwf⟩ := dS.1 hat
  cases hcs
  have ho1 := a1.one
  have ho2 := a2.one
  by_cases g : (dA e nm vl).code = 0
  ·have hlen := yB g
   have hq4 : EnQ id v G (K3 ++ T) u1 u2 17 := ⟨h1.trans .app, h2.app, _, (hen4 g).wide h1.1, .inl fun h => hnl2 g (by rw [h]; trivial), by rw [hlen.1]; exact h5, hlen.2.1, hlen.2.2⟩
   simp [r0, r2, r3, r4, ae, ag, List.lookup, c2, c3, c4, hk0, hw1, hwk, g, ho1, ho2, hp1, hp2]
   exact ⟨k, by omega, _, _, ⟨rfl, rfl⟩, by simp [r0], by simp [r2], _, _, by simp, by simp, by omega, hq4⟩
  ·have hT := hill g
   obtain ⟨rfl, rfl, rfl⟩ := hT
   have hq4 : EnQ id v G K3 w1 w2 17 := ⟨h1, h2, e, h3, h4, h5, h6, h7⟩
   simp [r0, r2, r3, r4, ae, ag, List.lookup, c2, c3, c4, hk0, hw1, hwk, g, ho1, ho2, hp1, hp2]
   exact ⟨k, by omega, _, _, ⟨rfl, rfl⟩, by simp [r0], by simp [r2], _, _, by simp [r3], by simp, by omega, hq4⟩
theorem J5 : ∃ xr mw : Int → Int → Int, (∀ a b, iP .xor .u64 a b = some (.int .u64 (xr a b))) ∧ (∀ a b, iP .mul .u64 a b = some (.int .u64 (mw a b))) ∧ ∀ a b, 0 ≤ mw a b ∧ mw a b < 18446744073709551616 :=
 ⟨_, _, fun _ _ => rfl, fun _ _ => rfl, fun _ _ => wrap_u64 _⟩
theorem Nq {k : IntKind} {a b : Int} : iP .lss k a b = some (.bool (decide (a < b))) := rfl
theorem MB {k : IntKind} {a b : Int} : iP .add k a b = some (.int k (k.wrap (a + b))) := rfl
def iZ (H : List Ob) (v : V) (m z : Int) : List Ob := H ++ [.mk true 4 [v, .int .i64 0, .int .u64 m, .int .i64 z]]
theorem E5 {H : List Ob} {v : V} {m z : Int} : iZ H v m z = bF (H ++ [.dead]) H.length v 0 m z := by
 unfold iZ bF
 rw [List.set_append_right _ _ (Nat.le_refl _), Nat.sub_self]
 rfl
theorem wI {H : List Ob} {v : V} {us : List U} (hv : At H (.slice (.int .u8)) [v] (.lst us)) : ∃ m z, callW C 76 [v] H = some (.ptr (some (H.length, 0)), iZ H v m z) ∧ SrcIn (iZ H v m z) H.length v := by
 suffices hg : Ret C 76 [v] H fun q H' => ∃ m z, q = .ptr (some (H.length, 0)) ∧ H' = iZ H v m z ∧ SrcIn (iZ H v m z) H.length v by
  obtain ⟨q, H', hc, m, z, rfl, rfl, hr⟩ := hg
  exact ⟨m, z, hc, hr⟩
 rw [Sv]
 have hA : ASl H (.int .u8) (fun u => u) v us := by unfold ASl; simpa using hv
 have hb := hA.bound
 unfold maxLen at hb
 have hone := hA.one
 have hok : ∀ {m z : Int}, 0 ≤ m → m < 18446744073709551616 → 0 ≤ z → z ≤ 12 → SrcIn (iZ H v m z) H.length v := fun {m z} h1 h2 h3 h4 => ⟨H ++ [.dead], us.length, 0, m, z, E5, ⟨by simp, ⟨us, rfl, by rw [← E5]; exact At.ext hv⟩, by omega, by omega, h1, h2, h3, h4⟩⟩
 have hid : ∀ {m z : Int}, (iZ H v m z)[H.length]? = some (.mk true 4 [v, .int .i64 0, .int .u64 m, .int .i64 z]) := get_last
 have lm : ∀ m z, ∀ T : LT, T.one → ∀ r c, loadAt T ⟨r, c, iZ H v m z⟩ (.hp H.length 2) = some (.int .u64 m) := fun m z => dF hid rfl
 have lz : ∀ m z, ∀ T : LT, T.one → ∀ r c, loadAt T ⟨r, c, iZ H v m z⟩ (.hp H.length 3) = some (.int .i64 z) := fun m z => dF hid rfl
 have sm : ∀ m z (m' : Int), ∀ T : LT, T.one → ∀ r c, storeAt T ⟨r, c, iZ H v m z⟩ (.hp H.length 2) (.int .u64 m') = some ⟨r, c, iZ H v m' z⟩ := fun m z m' T hT r c => by rw [store1 hid (by simp) rfl rfl T hT r c]; simp [iZ]
 have sz : ∀ m z (z' : Int), ∀ T : LT, T.one → ∀ r c, storeAt T ⟨r, c, iZ H v m z⟩ (.hp H.length 3) (.int .i64 z') = some ⟨r, c, iZ H v m z'⟩ := fun m z z' T hT r c => by rw [store1 hid (by simp) rfl rfl T hT r c]; simp [iZ]
 have hg : ∀ {m z : Int}, eY H (iZ H v m z) (.ptr (some (H.length, 0))) = iZ H v m z := fun {m z} => eP (by
  rintro ⟨own, es, cells, h⟩
  have := (List.getElem?_eq_some_iff.1 h).1
  omega)
 simp [JM, Tryz.f76, hone, ay, ak, St.new, aP, ah, aV]
 refine aH (fun k σ => ∃ (i : Nat) (r : Nat → R) (m : Int), i + k = us.length ∧ σ = ⟨r, 0, iZ H v m 0⟩ ∧ r 0 = .val v ∧ r 3 = .val (.ptr (some (H.length, 0))) ∧ r 4 = .val (.int .i64 i) ∧ 0 ≤ m ∧ m < 18446744073709551616) ?_ us.length _ ⟨0, _, 88172645463325252, by simp, by unfold iZ; rfl, by simp, by simp, by simp, by omega, by omega⟩
 rintro k σ ⟨i, r, m, hik, rfl, r0, r3, r4, hm0, hm1⟩
 have hln := fun {e s b : Nat} {z : List V} => hA.len (e := e) (s := s) (b := b) (z := z)
 by_cases g : i < us.length ∧ i < 64
 ·obtain ⟨g1, g2⟩ := g
  have hw1 : IntKind.i64.wrap ((i : Int) + 1) = ((i : Int) + 1) := wrap_i64 (by omega) (by omega)
  cases k with
  | zero => omega
  | succ k =>
  obtain ⟨idb, o, own, cells, q1, q2, q3, q4⟩ := ASl.idx (H := iZ H v m 0) (ASl.ext hA) (List.getElem?_eq_getElem g1) (by decide)
  obtain ⟨b, q4, _, q5⟩ := nI.1 q4
  have q1' : ∀ (e s b : Nat) (z : List V) (ty : Nat → LT) (k : IntKind), (ty e).size = 1 → dQ ⟨.slice e, s, b, z⟩ ty (.val v) (.int k i) = some (.val (.ptr (some (idb, o)))) := q1
  have lb : ∀ T : LT, T.one → ∀ r c, loadAt T ⟨r, c, iZ H v m 0⟩ (.hp idb o) = some (.int .u8 b) := dF q2 (by simpa using dm q4 (j := 0) rfl)
  have g2' : (i : Int) < 64 := by omega
  obtain ⟨xr, mw, hxr, hmw, hmi⟩ := J5
  simp [-iP, Nq, MB, hxr, hmw, r0, r3, r4, g1, g2, g2', hln, q1', lb, lm, sm, hw1, ae, ag, List.lookup, lM]
  exact ⟨k, by omega, i + 1, by omega, _, _, ⟨rfl, rfl⟩, by simp [r0], by simp [r3], by simp, (hmi _ _).1, (hmi _ _).2⟩
 ·have e : ∃ t : Bool, t = false := ⟨_, rfl⟩
  by_cases g1 : i < us.length
  ·have hdv : IntKind.i64.wrap ((us.length : Int) / 20) = (us.length : Int) / 20 := wrap_i64 (by omega) (by omega)
   have g2 : ¬ (i : Int) < 64 := by omega
   have g2' : ¬ i < 64 := by omega
   simp [r0, r3, r4, g1, g2, g2', hln, lz, sz, hdv, hg, ae, ag, List.lookup]
   by_cases g3 : (12 : Int) < (us.length : Int) / 20
   ·rw [if_pos g3]
    exact ⟨m, 12, rfl, hok hm0 hm1 (by decide) (by decide)⟩
   ·rw [if_neg g3]
    exact ⟨m, _, rfl, hok hm0 hm1 (by omega) (by omega)⟩
  ·have hdv : IntKind.i64.wrap ((us.length : Int) / 20) = (us.length : Int) / 20 := wrap_i64 (by omega) (by omega)
   simp [r0, r3, r4, g1, hln, lz, sz, hdv, hg, ae, ag, List.lookup]
   by_cases g3 : (12 : Int) < (us.length : Int) / 20
   ·rw [if_pos g3]
    exact ⟨m, 12, rfl, hok hm0 hm1 (by decide) (by decide)⟩
   ·rw [if_neg g3]
    exact ⟨m, _, rfl, hok hm0 hm1 (by omega) (by omega)⟩
end Go.Proofs.Try1
end
section
namespace Go.Lite
open Go
def PG (c c' : V) : Prop := c' = c ∨ ((∃ s, c = .str s) ∧ ∃ s', c' = .str s' ∧ s'.length ≤ maxLen)
def SimCs (cs cs' : List V) : Prop := cs'.length = cs.length ∧ ∀ (i : Nat) c c', cs[i]? = some c → cs'[i]? = some c' → PG c c'
def SimH (G G' : List Ob) : Prop := ∀ (id : Nat) own es cells, G[id]? = some (.mk own es cells) → ∃ cells', G'[id]? = some (.mk own es cells') ∧ SimCs cells cells'
section
variable {G G' : List Ob} {cs cs' a b : List V} {u : U}
theorem SimCs.refl : SimCs cs cs := ⟨rfl, fun i c c' h h' => by rw [h] at h'; cases h'; exact .inl rfl⟩
theorem SimCs.one {c : V} (h : SimCs [c] cs') : ∃ c', cs' = [c'] ∧ PG c c' := by
 obtain ⟨hl, hc⟩ := h
 obtain ⟨c', rfl⟩ := List.length_eq_one_iff.1 hl
 exact ⟨c', rfl, hc 0 c c' rfl rfl⟩
theorem SimCs.chunk (h : SimCs cs cs') (o n : Nat) : SimCs ((cs.drop o).take n) ((cs'.drop o).take n) := by
 refine ⟨by simp [h.1], fun i c c' h1 h2 => ?_⟩
 have hi : i < n := by
  have := (List.getElem?_eq_some_iff.1 h1).1
  simp at this; omega
 rw [List.getElem?_take_of_lt hi, List.getElem?_drop] at h1 h2
 exact h.2 _ c c' h1 h2
theorem SimCs.split (h : SimCs (a ++ b) cs') : ∃ a' b', cs' = a' ++ b' ∧ SimCs a a' ∧ SimCs b b' := by
 have hl : a.length ≤ cs'.length := by rw [h.1]; simp
 refine ⟨cs'.take a.length, cs'.drop a.length, (List.take_append_drop _ _).symm, ⟨by rw [List.length_take]; omega, fun i c c' h1 h2 => ?_⟩, ⟨by rw [List.length_drop, h.1]; simp, fun i c c' h1 h2 => ?_⟩⟩
 ·have hi := (List.getElem?_eq_some_iff.1 h1).1
  rw [List.getElem?_take_of_lt hi] at h2
  exact h.2 i c c' (by rw [List.getElem?_append_left hi]; exact h1) h2
 ·rw [List.getElem?_drop] at h2
  exact h.2 _ c c' (by rw [List.getElem?_append_right (by omega), Nat.add_sub_cancel_left]; exact h1) h2
mutual
theorem At.sim (hG : SimH G G') : ∀ (sh : Sh) {cs cs' : List V} {u : U}, At G sh cs u → SimCs cs cs' → ∃ u', At G' sh cs' u'
 | .int k, _, _, _, h, hs => by
  obtain ⟨n, rfl, rfl, hw⟩ := nI.1 h
  obtain ⟨c', rfl, rfl | ⟨⟨s, hc⟩, _⟩⟩ := hs.one
  ·exact ⟨_, nI.2 ⟨n, rfl, rfl, hw⟩⟩
  ·cases hc
 | .bool, _, _, _, h, hs => by
  obtain ⟨n, rfl, rfl⟩ := sZ.1 h
  obtain ⟨c', rfl, rfl | ⟨⟨s, hc⟩, _⟩⟩ := hs.one
  ·exact ⟨_, sZ.2 ⟨n, rfl, rfl⟩⟩
  ·cases hc
 | .str, _, _, _, h, hs => by
  obtain ⟨s, rfl, rfl, hl⟩ := dw.1 h
  obtain ⟨c', rfl, rfl | ⟨_, s', rfl, hl'⟩⟩ := hs.one
  ·exact ⟨_, dw.2 ⟨s, rfl, rfl, hl⟩⟩
  ·exact ⟨_, dw.2 ⟨s', rfl, rfl, hl'⟩⟩
 | .slice e, _, _, _, h, hs => by
  obtain ⟨v, l, rfl, rfl, hl, hsl⟩ := aG.1 h
  obtain ⟨c', rfl, hc | ⟨⟨s, hc⟩, _⟩⟩ := hs.one
  rotate_left
  ·subst hc
   rcases hsl with ⟨h, _⟩ | ⟨_, _, _, _, h, _⟩ <;> cases h
  subst hc
  rcases hsl with ⟨rfl, rfl⟩ | ⟨id, off, own, cells, rfl, h2, h3, h4⟩
  ·exact ⟨_, aG.2 ⟨_, [], rfl, rfl, by simp, .inl ⟨rfl, rfl⟩⟩⟩
  ·obtain ⟨cells', h5, h6⟩ := hG _ _ _ _ h2
   have hex : ∀ i : Nat, i < l.length → ∃ u', At G' e ((cells'.drop (off + i * e.size)).take e.size) u' := fun i hi =>
    At.sim hG e (h4 i _ (List.getElem?_eq_getElem hi)) (h6.chunk _ _)
   refine ⟨.lst ((List.range l.length).map fun i => if hi : i < l.length then (hex i hi).choose else .lst []), aG.2 ⟨_, _, rfl, rfl, by simpa using hl, .inr ⟨id, off, own, cells', by simp, h5, by rw [h6.1]; simpa using h3, fun i x hx => ?_⟩⟩⟩
   rw [List.getElem?_map] at hx
   obtain ⟨j, hj, rfl⟩ := Option.map_eq_some_iff.1 hx
   obtain ⟨hi, rfl⟩ := List.getElem?_eq_some_iff.1 hj
   simp at hi
   simp only [List.getElem_range, hi, dif_pos]
   exact (hex i hi).choose_spec
 | .st fs, _, _, _, h, hs => by
  obtain ⟨us, hu, h0⟩ := jC.1 h
  obtain ⟨us', h'⟩ := Ats.sim hG fs h0 hs
  exact ⟨_, jC.2 ⟨us', rfl, h'⟩⟩
theorem Ats.sim (hG : SimH G G') : ∀ (fs : List Sh) {cs cs' : List V} {us : List U}, Ats G fs cs us → SimCs cs cs' → ∃ us', Ats G' fs cs' us'
 | [], _, cs', _, h, hs => by
  obtain ⟨rfl, rfl⟩ := eH.1 h
  have : cs' = [] := List.length_eq_zero_iff.1 hs.1
  subst this
  exact ⟨_, eH.2 ⟨rfl, rfl⟩⟩
 | f :: fs, _, _, _, h, hs => by
  obtain ⟨c1, c2, u1, us1, rfl, rfl, h1, h2⟩ := bn.1 h
  obtain ⟨a', b', rfl, ha, hb⟩ := hs.split
  obtain ⟨u', h1'⟩ := At.sim hG f h1 ha
  obtain ⟨us', h2'⟩ := Ats.sim hG fs h2 hb
  exact ⟨_, bn.2 ⟨_, _, _, _, rfl, rfl, h1', h2'⟩⟩
end
theorem SimH.set {id o : Nat} {own : Bool} {es : Nat} {cells : List V} {s s' : Str} (h : G[id]? = some (.mk own es cells)) (hc : cells[o]? = some (.str s)) (hs : s'.length ≤ maxLen) : SimH G (G.set id (.mk own es (cells.set o (.str s')))) := fun q own' es' cells' hq => by
 have hid := (List.getElem?_eq_some_iff.1 h).1
 by_cases e : id = q
 ·subst e
  rw [h] at hq
  cases hq
  refine ⟨_, List.getElem?_set_self hid, by simp, fun i c c' h1 h2 => ?_⟩
  by_cases ho : o = i
  ·subst ho
   rw [List.getElem?_set_self (List.getElem?_eq_some_iff.1 hc).1] at h2
   rw [hc] at h1
   cases h1; cases h2
   exact .inr ⟨⟨_, rfl⟩, _, rfl, hs⟩
  ·rw [List.getElem?_set_ne ho] at h2
   rw [h1] at h2; cases h2; exact .inl rfl
 ·exact ⟨cells', by rw [List.getElem?_set_ne e]; exact hq, .refl⟩
end
end Go.Lite
end
section
namespace Go.Proofs.Try1
open Go Go.Lite
attribute [-simp] dH gG
attribute [local simp] dO fV dM dK dL df
attribute [local simp low] dJ
section
variable {H K K' : List Ob} {v w1 w2 : V} {m z : Int} {n : Nat}
theorem ww : (iZ H v m z).length = H.length + 1 := by simp [iZ]
theorem OU (h : Ev H.length (iZ H v m z) K) : ∃ T, K = H ++ T := by
 have hl : H.length ≤ K.length := by have := h.1; rw [ww] at this; omega
 refine ⟨K.drop H.length, ?_⟩
 apply List.ext_getElem?
 intro q
 by_cases hq : q < H.length
 ·rw [List.getElem?_append_left hq, h.2 q (by omega) (by rw [ww]; omega)]
  unfold iZ
  rw [List.getElem?_append_left hq]
 ·rw [List.getElem?_append_right (by omega), List.getElem?_drop]
  congr 1
  omega
theorem EnQ.out (h : EnQ H.length v (iZ H v m z) K w1 w2 n) (hn : n ≤ 1000) : ∃ T e, K = H ++ T ∧ aX K w1 e.dn ∧ aC K w2 e.attrs ∧ (l7 e ∧ ∀ a ∈ e.attrs, ∀ s ∈ a.vals, s.length ≤ 200) ∧ ¬ eF H (.agg [w1, w2]) := by
 obtain ⟨h1, h2, e, h3, h4, h5, h6, h7⟩ := h
 obtain ⟨T, rfl⟩ := OU h1
 refine ⟨T, e, rfl, h3.1, h3.attrs (by unfold maxLen; omega), ⟨⟨by omega, by omega, fun a ha => by have := (h7 a ha).1; omega⟩, fun a ha => (h7 a ha).2⟩, xP h3 (by rw [ww]; omega) (h4.imp id fun h hl => h ?_)⟩
 obtain ⟨p, rfl⟩ := h3.1.shape
 exact qJ hl
end
def J6 (H : List Ob) (q : V) (H' : List Ob) : Prop := ∃ (T : List Ob) (w1 w2 : V) (e : PEntry) (s : Str), q = .tup [.agg [w1, w2], .str s] ∧ H' = H ++ T ∧ aX (H ++ T) w1 e.dn ∧ aC (H ++ T) w2 e.attrs ∧ s.length ≤ 100
def Hl (H : List Ob) (q : V) (H' : List Ob) : Prop := ∃ (T : List Ob) (w1 w2 : V) (e : PEntry) (s : Str) (w : V) (l : List Str), q = .tup [.agg [w1, w2], .str s, w] ∧ H' = H ++ T ∧ aX (H ++ T) w1 e.dn ∧ aC (H ++ T) w2 e.attrs ∧ s.length ≤ 100 ∧ AStrs (H ++ T) w l
theorem Hm {H : List Ob} {v : V} {us : List U} (hv : At H (.slice (.int .u8)) [v] (.lst us)) : ∃ (T : List Ob) (w1 w2 : V) (e : PEntry) (s : Str), callW C 12 [v] H = some (.tup [.agg [w1, w2], .str s], H ++ T) ∧ aX (H ++ T) w1 e.dn ∧ aC (H ++ T) w2 e.attrs ∧ s.length ≤ 100 := by
 suffices hg : Ret C 12 [v] H (J6 H) by
  obtain ⟨q, G', hc, T, w1, w2, e, s, rfl, rfl, hr⟩ := hg
  exact ⟨T, w1, w2, e, s, hc, hr⟩
 rw [Tq]
 have hone : aI v = true ∧ cellsOf v = some [v] := by
  have hA : ASl H (.int .u8) (fun u => u) v us := by unfold ASl; simpa using hv
  exact hA.one
 obtain ⟨m, z, c1, s1⟩ := wI hv
 obtain ⟨w1, w2, K1, c2, hq⟩ := nT s1
 obtain ⟨hp1, hp2⟩ := hq.ones (by omega)
 obtain ⟨_, K2, c3, e3, s3, s, rfl, hs⟩ := vM hq.2.1
 have hq2 := hq.to e3 s3 (m := 40) (by omega)
 obtain ⟨T, e, rfl, h1, h2, _, h4⟩ := hq2.out (by omega)
 have hgc : eY H (H ++ T) (.tup [.agg [w1, w2], .str s]) = H ++ T := eP fun h => h4 h.1
 simp [JF, Tryz.f12, hone, c1, c2, c3, hp1, hp2, ay, ak, St.new, aP, ah, ae, ag, List.lookup, hgc]
 exact ⟨T, w1, w2, e, s, rfl, rfl, h1, h2, hs⟩
theorem xX {b : Nat} {G : List Ob} {w : V} {l : List Str} (h : RowF b G 1 w l.length (l.map V.str)) (hl : l.length ≤ 1000) (hb : ∀ s ∈ l, s.length ≤ 100) : AStrs G w l := by
 obtain ⟨i, _, rfl, h3, _⟩ := h
 have := (Gs.strs (H := []) (G := G) (v := .slc (some (i, 0)) (l.map V.str).length) (l := l) ⟨G, i, rfl, by simp, h3, rfl⟩ (by unfold maxLen; omega) (fun s hs => by have := hb s hs; unfold maxLen; omega)).1
 simpa using this
theorem FO {H : List Ob} {v : V} {us : List U} (hv : At H (.slice (.int .u8)) [v] (.lst us)) : ∃ (T : List Ob) (w1 w2 : V) (e : PEntry) (s : Str) (w : V) (l : List Str), callW C 9 [v] H = some (.tup [.agg [w1, w2], .str s, w], H ++ T) ∧ aX (H ++ T) w1 e.dn ∧ aC (H ++ T) w2 e.attrs ∧ s.length ≤ 100 ∧ AStrs (H ++ T) w l := by
 suffices hg : Ret C 9 [v] H (Hl H) by
  obtain ⟨q, G', hc, T, w1, w2, e, s, w, l, rfl, rfl, hr⟩ := hg
  exact ⟨T, w1, w2, e, s, w, l, hc, hr⟩
 rw [Ur]
 have hone : aI v = true ∧ cellsOf v = some [v] := by
  have hA : ASl H (.int .u8) (fun u => u) v us := by unfold ASl; simpa using hv
  exact hA.one
 obtain ⟨m, z, c1, s1⟩ := wI hv
 have hid := s1.lt
 obtain ⟨w1, w2, K1, c2, hq⟩ := nT s1
 obtain ⟨hp1, hp2⟩ := hq.ones (by omega)
 obtain ⟨_, K2, c3, e3, s3, s, rfl, hs⟩ := vM hq.2.1
 have hq2 := hq.to e3 s3 (m := 40) (by omega)
 have hqB := hq2.to (.app (T := [.mk true 1 []])) s3.app (m := 40) (by omega)
 have hidB : H.length < K2.length := hq2.2.1.lt
 have w0 : RowF K2.length (K2 ++ [.mk true 1 []]) 1 (.slc (some (K2.length, 0)) 0) 0 (List.map V.str []) := RowF.init (Nat.le_refl _)
 obtain ⟨_, K3, c4, l4, e4, s4, n, rfl, hn, _⟩ := NC (S := []) hqB.2.1 (most := 4) (by decide)
 have hn4 : n < 4 := by have := hn (by decide); omega
 simp at c4
 have hE0 : Ev H.length K2 K3 := Ev.app.trans e4
 simp [LU, Tryz.f9, hone, c1, c2, c3, c4, hp1, hp2, ay, ak, aB, St.new, aP, ah, ae, ag, List.lookup]
 refine aH (fun k σ => ∃ (r : Nat → R) (K : List Ob) (n : Nat) (w : V) (l : List Str), σ = ⟨r, n, K⟩ ∧ r 2 = .box 0 [.slc none 0, .slc none 0] ∧ r 5 = .val (.ptr (some (H.length, 0))) ∧ r 6 = .box 1 [w1, w2] ∧ r 7 = .val (.str s) ∧ r 8 = .val w ∧ r 9 = .val (.int .i64 k) ∧ Ev H.length K2 K ∧ SrcIn K H.length v ∧ RowF K2.length K 1 w l.length (l.map V.str) ∧ l.length + k ≤ 3 ∧ ∀ s ∈ l, s.length ≤ 100) ?_ n _ ⟨_, K3, _, _, [], rfl, by simp, by simp, by simp, by simp, by simp, by simp, hE0, s4, w0.ev e4 hidB, by simp; omega, by simp⟩
 rintro k σ ⟨r, K, nn, w, l, rfl, r2, r5, r6, r7, r8, r9, hE, hS, hw, hlen, hb⟩
 have hE' : ∀ {G' : List Ob}, (∀ q, q < K2.length → G'[q]? = K[q]?) → K.length ≤ G'.length → Ev H.length K2 G' := fun h1 h2 => ⟨Nat.le_trans hE.1 h2, fun q hq hql => by rw [h1 q hql, hE.2 q hq hql]⟩
 cases k with
 | zero =>
  obtain ⟨_, K4, c5, l5, e5, s5, t, rfl⟩ := Bz (S := []) hS (most := 15) (by decide)
  simp at c5
  have hE5 := hE.trans e5
  have hw5 := hw.ev e5 hidB
  have hwo := hw5.one
  cases t with
  | false =>
   have hq5 := hq2.to hE5 s5 (m := 40) (by omega)
   obtain ⟨T, e, rfl, h1, h2, _, h4⟩ := hq5.out (by omega)
   have hgc : eY H (H ++ T) (.tup [.agg [w1, w2], .str s, w]) = H ++ T := eP fun h => h4 h.1
   simp [r2, r5, r6, r7, r8, r9, ae, ag, List.lookup, c5, hwo, hp1, hp2, hgc]
   exact ⟨T, w1, w2, e, s, w, l, rfl, rfl, h1, h2, hs, xX hw5 (by omega) hb⟩
  | true =>
   have hw6 : RowF K2.length (K4 ++ [.mk true 1 (List.map V.str [[112], [113], [114], [115]])]) 1 w l.length (l.map V.str) := hw5.ev (id := H.length) .app hidB
   have hle : K2.length ≤ K4.length := hE5.1
   have hmx4 : (l.length + 4) * 16 ≤ ax := by unfold ax; omega
   obtain ⟨G', p1, p2, p3, p4⟩ := RowF.push hw6 (x := .slc (some (K4.length, 0)) 4) (by_ := 16) (z := [.str []]) (c := List.map V.str [[112], [113], [114], [115]]) (m := 4) (fun d => by
    simp [aQ, aO, get_last]) rfl (by decide) (by decide) rfl (by decide) (by decide) rfl hmx4 (by simp; omega)
   simp at p1
   have p3' : ∀ q, q < K2.length → G'[q]? = K4[q]? := fun q hq => by rw [p3 q hq, List.getElem?_append_left (by omega)]
   have hEG : Ev H.length K2 G' := ⟨by rw [p2]; simp; omega, fun q hq hql => by rw [p3' q hql, hE5.2 q hq hql]⟩
   have hSG : SrcIn G' H.length v := SrcIn.of hq2.2.1 s5 hEG (p3' _ hidB)
   have hq5 := hq2.to hEG hSG (m := 40) (by omega)
   obtain ⟨T, e, rfl, h1, h2, _, h4⟩ := hq5.out (by omega)
   have hwo' := p4.one
   have hgc : ∀ w, eY H (H ++ T) (.tup [.agg [w1, w2], .str s, w]) = H ++ T := fun w => eP fun h => h4 h.1
   simp [r2, r5, r6, r7, r8, r9, ae, ag, List.lookup, c5, hwo, hwo', hp1, hp2, hgc, ay, ak, aB, St.new, aP, ah, p1]
   refine ⟨T, w1, w2, e, s, _, l ++ [[112], [113], [114], [115]], rfl, rfl, h1, h2, hs, xX (b := K2.length) (by simpa using p4) (by simp; omega) (fun s' hs' => ?_)⟩
   rcases List.mem_append.1 hs' with h | h
   ·exact hb s' h
   ·simp at h
    rcases h with rfl | rfl | rfl | rfl <;> simp
 | succ k =>
  have hw1 : IntKind.i64.wrap ((k : Int) + 1 - 1) = k := by rw [wrap_i64 (by omega) (by omega)]; omega
  have hwk : IntKind.i64.wrap (k : Int) = k := by rw [wrap_i64 (by omega) (by omega)]
  have hk0 : (0 : Int) < (k : Int) + 1 := by omega
  obtain ⟨_, K4, c5, e5, s5, x, rfl, hx⟩ := xq hS
  have hE5 := hE.trans e5
  have hw5 := hw.ev e5 hidB
  have hle : K2.length ≤ K4.length := hE5.1
  have hmx : (l.length + 1) * 16 ≤ ax := by unfold ax; omega
  obtain ⟨G', p1, p2, p3, p4⟩ := RowF.push1 (c := [.str x]) (by_ := 16) (z := [.str []]) (by simpa using hw5) (by simp) (by simp) (by decide) (by decide) rfl hmx hle
  simp at p1
  have hEG : Ev H.length K2 G' := ⟨by omega, fun q hq hql => by rw [p3 q hql, hE5.2 q hq hql]⟩
  have hSG : SrcIn G' H.length v := SrcIn.of hq2.2.1 s5 hEG (p3 _ hidB)
  simp [r2, r5, r6, r7, r8, r9, ae, ag, List.lookup, c5, hw1, hwk, hk0, ay, ak, aB, St.new, aP, ah, p1]
  refine ⟨k, by omega, _, _, ⟨rfl, rfl⟩, by simp [r2], by simp [r5], by simp [r6], by simp [r7], _, by simp; rfl, by simp, hEG, hSG, l ++ [x], by simpa using p4, by simp; omega, fun r hr => ?_⟩
  rcases List.mem_append.1 hr with h | h
  ·exact hb r h
  ·simp at h; subst h; exact hx
theorem Gh {b e : Nat} {G : List Ob} {w1 w2 : V} {x : PEntry} {a : PAttr} {l : List PAttr} (h : New b e G bK [w1, w2] x.u) (ha : x.attrs = a :: l) : ∃ (ida oa : Nat) (ca : List V) (wv : V), b ≤ ida ∧ w2 = .slc (some (ida, oa)) x.attrs.length ∧ G[ida]? = some (.mk true 2 ca) ∧ ca[oa + 1]? = some wv ∧ (∃ p, wv = .slc p a.vals.length) ∧
  ∀ s vs, a.vals = s :: vs → ∃ (idv ov : Nat) (cv : List V), b ≤ idv ∧ wv = .slc (some (idv, ov)) a.vals.length ∧ G[idv]? = some (.mk true 1 cv) ∧ cv[ov]? = some (.str s) := by
 obtain ⟨F, hF, _, hb⟩ := h
 obtain ⟨us, hu, hF⟩ := jZ.1 hF
 cases hu
 obtain ⟨c1, c2, u, us', F1, F2, hc, hu, rfl, h1, h2⟩ := bH.1 hF
 cases hu
 obtain ⟨c3, c4, u3, us3, F3, F4, rfl, hu, rfl, h3, h4⟩ := bH.1 h2
 cases hu
 obtain ⟨rfl, _, rfl⟩ := jl.1 h4
 obtain ⟨v1, l1, rfl, _, _, _⟩ := aZ.1 h1
 obtain ⟨v2, l2, rfl, hl2, _, hs⟩ := aZ.1 h3
 simp at hc
 obtain ⟨rfl, rfl⟩ := hc
 injection hl2 with hl2
 subst hl2
 rw [ha] at hs
 rcases hs with ⟨_, hx, _⟩ | ⟨ida, oa, ca, Fs, hv, hG, hlen, hFs, rfl, hat⟩
 ·simp at hx
 have hsz : shAttr.size = 2 := rfl
 rw [hsz] at hG hlen hat
 obtain ⟨F0, hF0⟩ : ∃ F0, Fs[0]? = some F0 := ⟨Fs[0]'(by rw [hFs]; simp), by simp⟩
 have h0 := hat 0 a.u F0 (by simp) hF0
 have hb1 : ∀ q ∈ F0, b ≤ q := fun q hq => (hb q (by
  simp only [List.mem_append, List.mem_cons, List.mem_flatten]
  exact .inr (.inl (.inr ⟨F0, List.mem_of_getElem? hF0, hq⟩)))).1
 obtain ⟨us, hu, h0⟩ := jZ.1 h0
 cases hu
 obtain ⟨d1, d2, u, us', F5, F6, hc, hu, hF5, k1, k2⟩ := bH.1 h0
 cases hu
 obtain ⟨d3, d4, u3, us3, F7, F8, rfl, hu, rfl, k3, k4⟩ := bH.1 k2
 cases hu
 obtain ⟨rfl, _, rfl⟩ := jl.1 k4
 obtain ⟨⟨s1, rfl, _, _⟩, rfl⟩ := kR.1 k1
 obtain ⟨wv, lv, rfl, hlv, _, hsv⟩ := aZ.1 k3
 injection hlv with hlv
 subst hlv
 have hwv : ca[oa + 1]? = some wv := by
  have : ((ca.drop (oa + 0 * 2)).take 2)[1]? = some wv := by rw [hc]; rfl
  rw [List.getElem?_take_of_lt (by omega), List.getElem?_drop] at this
  simpa using this
 refine ⟨ida, oa, ca, wv, (hb ida (by simp)).1, by rw [hv, ha]; simp, hG, hwv, ?_, fun s vs hvs => ?_⟩
 ·rcases hsv with ⟨rfl, hx, _⟩ | ⟨idv, ov, cv, Fv, rfl, _⟩
  ·have : a.vals = [] := by simpa using hx
   exact ⟨none, by rw [this]; rfl⟩
  ·exact ⟨some (idv, ov), by simp⟩
 ·rw [hvs] at hsv
  rcases hsv with ⟨_, hx, _⟩ | ⟨idv, ov, cv, Fv, hwv2, hG2, hlen2, hFv, hF7, hat2⟩
  ·simp at hx
  have hsz2 : Sh.str.size = 1 := rfl
  rw [hsz2] at hG2 hlen2 hat2
  obtain ⟨F0', hF0'⟩ : ∃ F0, Fv[0]? = some F0 := ⟨Fv[0]'(by rw [hFv]; simp), by simp⟩
  have h1 := hat2 0 _ F0' rfl hF0'
  obtain ⟨⟨t, ht, ht2, _⟩, _⟩ := kR.1 h1
  cases ht2
  refine ⟨idv, ov, cv, hb1 idv (by rw [hF5, hF7]; simp), by rw [hwv2, hvs]; simp, hG2, ?_⟩
  have : ((cv.drop (ov + 0 * 1)).take 1)[0]? = some (.str s) := by rw [ht]; rfl
  rw [List.getElem?_take_of_lt (by omega), List.getElem?_drop] at this
  simpa using this
def wJ (H : List Ob) (q : V) (H' : List Ob) : Prop := ∃ (T : List Ob) (w1 w2 w3 w4 : V) (a b : PEntry), q = .tup [.agg [w1, w2], .agg [w3, w4]] ∧ H' = H ++ T ∧ aX (H ++ T) w1 a.dn ∧ aC (H ++ T) w2 a.attrs ∧ aX (H ++ T) w3 b.dn ∧ aC (H ++ T) w4 b.attrs
theorem BQ {H : List Ob} {v : V} {us : List U} (hv : At H (.slice (.int .u8)) [v] (.lst us)) : ∃ (T : List Ob) (w1 w2 w3 w4 : V) (a b : PEntry), callW C 11 [v] H = some (.tup [.agg [w1, w2], .agg [w3, w4]], H ++ T) ∧ aX (H ++ T) w1 a.dn ∧ aC (H ++ T) w2 a.attrs ∧ aX (H ++ T) w3 b.dn ∧ aC (H ++ T) w4 b.attrs := by
 suffices hg : Ret C 11 [v] H (wJ H) by
  obtain ⟨q, G', hc, T, w1, w2, w3, w4, a, b, rfl, rfl, hr⟩ := hg
  exact ⟨T, w1, w2, w3, w4, a, b, hc, hr⟩
 rw [Sz]
 have hone : aI v = true ∧ cellsOf v = some [v] := by
  have hA : ASl H (.int .u8) (fun u => u) v us := by unfold ASl; simpa using hv
  exact hA.one
 obtain ⟨m, z, c1, s1⟩ := wI hv
 have hid := s1.lt
 obtain ⟨w1, w2, K1, c2, hq⟩ := nT s1
 obtain ⟨hp1, hp2⟩ := hq.ones (by omega)
 obtain ⟨w3, w4, K2, c3, hq2⟩ := nT hq.2.1
 obtain ⟨hp3, hp4⟩ := hq2.ones (by omega)
 obtain ⟨_, K3, c4, l4, e4, s4, t, rfl⟩ := Bz (S := []) hq2.2.1 (most := 2) (by decide)
 simp at c4
 have hqa := hq.to (hq2.1.trans e4) s4 (m := 40) (by omega)
 have hqb := hq2.to e4 s4 (m := 40) (by omega)
 obtain ⟨TA, ea, rfl, h1, h2, ⟨hsm, hsl⟩, h4⟩ := hqa.out (by omega)
 have hgc : ∀ (T : List Ob) x, eY H (H ++ T) (.tup [.agg [w1, w2], x]) = H ++ T := fun T x => eP fun h => h4 h.1
 cases t with
 | false =>
  obtain ⟨_, _, eb, h5, _⟩ := hqb
  simp [vS, Tryz.f11, hone, c1, c2, c3, c4, hp1, hp2, hp3, hp4, ay, ak, aB, St.new, aP, ah, ae, ag, List.lookup, hgc]
  exact ⟨TA, w1, w2, w3, w4, ea, eb, rfl, rfl, h1, h2, h5.1, h5.attrs (by unfold maxLen; omega)⟩
 | true =>
  clear hqb
  have hcp := IY h1 h2 hsm
  obtain ⟨T2, w5, w6, c5, hnew⟩ := hcp
  obtain ⟨v1, v2, hcs, n1, n2⟩ := fC.1 hnew.at
  cases hcs
  have hp5 := n1.one
  have hp6 := n2.one
  have hlen6 := fun {e s b : Nat} {z : List V} => n2.len (e := e) (s := s) (b := b) (z := z)
  have nochange : wJ H (.tup [.agg [w1, w2], .agg [w5, w6]]) (H ++ (TA ++ T2)) := ⟨TA ++ T2, w1, w2, w5, w6, ea, ea, rfl, rfl, by rw [← List.append_assoc]; exact h1.ext, by rw [← List.append_assoc]; exact h2.ext, by rw [← List.append_assoc]; exact n1, by rw [← List.append_assoc]; exact n2⟩
  have hgc2 := hgc (TA ++ T2)
  cases hatt : ea.attrs with
  | nil =>
   rw [hatt] at hlen6
   simp at hlen6
   simp [vS, Tryz.f11, hone, c1, c2, c3, c4, c5, hp1, hp2, hp3, hp4, hp5, hp6, hlen6, ay, ak, aB, St.new, aP, ah, ae, ag, List.lookup, hgc, hgc2]
   exact nochange
  | cons a l =>
   obtain ⟨ida, oa, ca, wv, f1, f2, f3, f4, ⟨p, f5⟩, f6⟩ := Gh hnew hatt
   have hpos : 0 < ea.attrs.length := by rw [hatt]; simp
   have x1 : ∀ (e s b : Nat) (z : List V) (ty : Nat → LT) (k : IntKind), (ty e).size = 2 → dQ ⟨.slice e, s, b, z⟩ ty (.val w6) (.int k 0) = some (.val (.ptr (some (ida, oa)))) := fun e s b z ty k hs => by
    rw [f2]
    simp [dQ, hs, hpos]
   have hone_wv : aI wv = true ∧ cellsOf wv = some [wv] := by rw [f5]; exact ⟨rfl, rfl⟩
   have hK : H ++ TA ++ T2 = H ++ (TA ++ T2) := List.append_assoc _ _ _
   rw [hK] at f3
   have l1 : ∀ T : LT, T.one → ∀ r c, loadAt T ⟨r, c, H ++ (TA ++ T2)⟩ (.hp ida (oa + 1)) = some wv := dF f3 f4
   have hlv : ∀ {e s b : Nat} {z : List V}, lenV ⟨.slice e, s, b, z⟩ wv = some (.int .i64 a.vals.length) := by rw [f5]; exact rfl
   cases hval : a.vals with
   | nil =>
    rw [hval] at hlv
    simp at hlv
    simp [vS, Tryz.f11, hone, c1, c2, c3, c4, c5, hp1, hp2, hp3, hp4, hp5, hp6, hlen6, hpos, x1, l1, hlv, ay, ak, aB, St.new, aP, ah, ae, ag, List.lookup, hgc, hgc2]
    exact nochange
   | cons s0 vs =>
    obtain ⟨idv, ov, cv, g1, g2, g3, g4⟩ := f6 s0 vs hval
    rw [hK] at g3
    rw [hval] at g2
    have hlv2 : 0 < a.vals.length := by rw [hval]; simp
    have hsK : SrcIn (H ++ (TA ++ T2)) H.length v := by rw [← hK]; exact s4.app
    obtain ⟨_, K5, c6, l6, e6, s6, tx, rfl, htx, _⟩ := kS (S := []) hsK [[], [32], [120]] (by decide) (by decide) (by decide)
    simp at c6
    have hbl : H.length < (H ++ TA).length := s4.lt
    have hidv : idv < (H ++ (TA ++ T2)).length := (List.getElem?_eq_some_iff.1 g3).1
    have hida : ida < (H ++ (TA ++ T2)).length := (List.getElem?_eq_some_iff.1 f3).1
    have hne1 : ida ≠ H.length := by omega
    have hne2 : idv ≠ H.length := by omega
    have x2 : ∀ (e s b : Nat) (z : List V) (ty : Nat → LT) (k : IntKind), (ty e).size = 1 → dQ ⟨.slice e, s, b, z⟩ ty (.val wv) (.int k 0) = some (.val (.ptr (some (idv, ov)))) := fun e s b z ty k hs => by
     rw [g2]
     simp [dQ, hs]
    have l2 : ∀ T : LT, T.one → ∀ r c, loadAt T ⟨r, c, H ++ (TA ++ T2)⟩ (.hp idv ov) = some (.str s0) := dF g3 g4
    have hs0 := hsl a (by rw [hatt]; simp) s0 (by rw [hval]; simp)
    have hms : s0.length + tx.length ≤ maxStr := by unfold maxStr; omega
    simp [-ER, vS, Tryz.f11, hone, c1, c2, c3, c4, c5, hp1, hp2, hp3, hp4, hp5, hp6, hlen6, hpos, x1, l1, hlv, hlv2, ay, ak, aB, St.new, aP, ah, ae, ag, List.lookup, hgc, hgc2]
    refine xB [H.length] ER ?_
    have g3' : (K5 ++ [Ob.mk true 1 [.str [], .str [32], .str [120]]])[idv]? = some (.mk true 1 cv) := by
     rw [List.getElem?_append_left (by omega), e6.2 idv hne2 hidv, g3]
    have st1 := store1 (v := .str (s0 ++ tx)) g3' (List.getElem?_eq_some_iff.1 g4).1 rfl rfl
    have y1 := fun (a b c : List Nat) (d e : List (Nat × Nat)) (g : List (Nat × List Nat)) => BI (a := a) (b := b) (c := c) (d := d) (e := e) (g := g) (n := (H ++ (TA ++ T2)).length) (S := [Ob.mk true 1 [.str [], .str [32], .str [120]]]) e6 l6
    have y2 := fun (h : Hint) => G5 (h := h) (G := H ++ (TA ++ T2)) (S := [Ob.mk true 1 [.str [], .str [32], .str [120]]])
    simp at y1 y2 hida hidv
    simp [dP, hone, c6, hp1, hp2, hp5, hp6, hlen6, hpos, x1, x2, l1, l2, hone_wv, hlv, hlv2, hne1, hne2, hida, hidv, hms, st1, y1, y2, ay, ak, aB, St.new, aP, ah, ae, ag, List.lookup]
    obtain ⟨HF, hHF⟩ : ∃ HF, HF = (K5 ++ [Ob.mk true 1 [.str [], .str [32], .str [120]]]).set idv (Ob.mk true 1 (cv.set ov (V.str (s0 ++ tx)))) := ⟨_, rfl⟩
    rw [← hHF]
    have l6' : K5.length = H.length + (TA.length + T2.length) := by rw [l6]; simp
    have hle : H.length ≤ HF.length := by rw [hHF]; simp; omega
    have hpre : ∀ q, q < H.length → HF[q]? = H[q]? := fun q hq => by
     rw [hHF, List.getElem?_set_ne (by omega), List.getElem?_append_left (by omega), e6.2 q (by omega) (by simp; omega), List.getElem?_append_left hq]
    obtain ⟨TF, rfl⟩ : ∃ T, HF = H ++ T := by
     refine ⟨HF.drop H.length, List.ext_getElem? fun q => ?_⟩
     by_cases hq : q < H.length
     ·rw [List.getElem?_append_left hq, hpre q hq]
     ·rw [List.getElem?_append_right (by omega), List.getElem?_drop]
      congr 1
      omega
    have hsim : SimH (K5 ++ [Ob.mk true 1 [.str [], .str [32], .str [120]]]) (H ++ TF) := by
     rw [hHF]
     exact SimH.set g3' g4 (by unfold maxLen; simp; omega)
    have tr : ∀ {u1 u2 : V} {x : PEntry}, aX (H ++ (TA ++ T2)) u1 x.dn → aC (H ++ (TA ++ T2)) u2 x.attrs → ∃ y : PEntry, aX (H ++ TF) u1 y.dn ∧ aC (H ++ TF) u2 y.attrs := by
     intro u1 u2 x k1 k2
     have k3 : At (H ++ (TA ++ T2)) bK [u1, u2] x.u := fC.2 ⟨_, _, rfl, k1, k2⟩
     have k4 := (At.ev (by decide) hsK.at s6.at e6 k3).ext (T := [Ob.mk true 1 [.str [], .str [32], .str [120]]])
     obtain ⟨u', k5⟩ := At.sim hsim _ k4 .refl
     obtain ⟨y, rfl⟩ := Ak k5
     obtain ⟨_, _, hc, k6, k7⟩ := fC.1 k5
     cases hc
     exact ⟨y, k6, k7⟩
    rw [hgc]
    obtain ⟨ya, q1, q2⟩ := tr (by rw [← hK]; exact h1.ext) (by rw [← hK]; exact h2.ext)
    obtain ⟨yb, q3, q4⟩ := tr (by rw [← hK]; exact n1) (by rw [← hK]; exact n2)
    exact ⟨TF, w1, w2, w5, w6, ya, yb, rfl, rfl, q1, q2, q3, q4⟩
end Go.Proofs.Try1
end
section
namespace Go.Proofs.Try1
open Go Go.Lite
theorem KO {H : List Ob} {id o : Nat} {x : V} (h : ∀ T : LT, T.one → ∀ r c, loadAt T ⟨r, c, H⟩ (.hp id o) = some x) : id < H.length := by
 by_cases hi : id < H.length
 ·exact hi
 ·have h1 := h ⟨.str, 1, 16, [.str []]⟩ yF (fun _ => .val .undef) 0
  have h2 : H[id]? = none := List.getElem?_eq_none (by omega)
  simp [loadAt, cellsAt, h2] at h1
theorem L6 {H : List Ob} {v : V} {l : List PRdn} (h : aX H v l) (hd : DnOk l) : callW C 140 [v] H = some (.str (jk l), H) := by
 apply Ret.eq
 rw [Ou]
 have hb := hd.2
 have hw0 : IntKind.i64.wrap ((l.length : Int) - 1) = (l.length : Int) - 1 := wrap_i64 (by omega) (by omega)
 simp [Fz, Tryz.f140, h.len, hw0]
 refine aH (fun m σ => ∃ (r : Nat → R), m ≤ l.length ∧ σ = ⟨r, 0, H⟩ ∧ r 0 = .val v ∧ r 3 = .val (.str (oC l m)) ∧ r 4 = .val (.int .i64 ((m : Int) - 1))) ?_ l.length _ ⟨_, by omega, rfl, by simp, by simp [Hu], by simp⟩
 rintro m σ ⟨r, hm, rfl, r0, r3, r4⟩
 cases m with
 | zero =>
  simp at r4
  simp [r0, r3, r4, Gp]
 | succ m =>
  have hi : m < l.length := by omega
  obtain ⟨x, hx⟩ : ∃ c, l[m]? = some c := ⟨l[m], by simp [hi]⟩
  have r4' : r 4 = .val (.int .i64 m) := by rw [r4]; congr 2; omega
  have hw : IntKind.i64.wrap ((m : Int) - 1) = (m : Int) - 1 := wrap_i64 (by omega) (by omega)
  obtain ⟨id, o, e1, l0, l1, _, _⟩ := wu h hx
  have c1 := iY (t := x.value) (H := H)
  have k1 := Jp hd (m + 1)
  have k2 := (hd.1 m x hx).1.2.1
  have k3 := qj (t := x.value)
  have kst := GK hx
  have b1 : (oC l (m + 1)).length + 1 ≤ maxStr := by unfold maxStr; omega
  have b2 : (oC l (m + 1)).length + (x.attr.length + 1) ≤ maxStr := by unfold maxStr; omega
  have b3 : (oC l (m + 1)).length + (x.attr.length + 1 + 1) ≤ maxStr := by unfold maxStr; omega
  have b4 : (oC l (m + 1)).length + (x.attr.length + ((norm x.value).length + 1) + 1) ≤ maxStr := by unfold maxStr; omega
  have hid := KO l0
  have b5 : (oC l (m + 1)).length + 1 + x.attr.length ≤ maxStr := by unfold maxStr; omega
  have b6 : (oC l (m + 1)).length + (x.attr.length + 1) + 1 ≤ maxStr := by unfold maxStr; omega
  have b7 : (oC l (m + 1)).length + (x.attr.length + 1 + 1) + (norm x.value).length ≤ maxStr := by unfold maxStr; omega
  simp [r0, r3, r4', e1, l0, l1, c1, hw, qX, b1, b2, b3, b4, b5, b6, b7, hid]
  exact ⟨m, by omega, by omega, by rw [kst]; simp [fG], rfl⟩
end Go.Proofs.Try1
end
section
namespace Go.Lite
open Go
def At2 (H : List Ob) (id o : Nat) (x y : V) : Prop := ∃ own es cells, H[id]? = some (.mk own es cells) ∧ cells[o]? = some x ∧ cells[o + 1]? = some y
section
variable {H T : List Ob} {id o : Nat} {x y : V}
theorem At2.of {own : Bool} {es : Nat} (h : H[id]? = some (.mk own es [x, y])) : At2 H id 0 x y := ⟨_, _, _, h, rfl, rfl⟩
theorem At2.lt (h : At2 H id o x y) : id < H.length := by
 obtain ⟨_, _, _, h, _⟩ := h
 exact (List.getElem?_eq_some_iff.1 h).1
theorem At2.ext (h : At2 H id o x y) : At2 (H ++ T) id o x y := by
 obtain ⟨a, b, c, h, h2⟩ := h
 exact ⟨a, b, c, bg _ _ h, h2⟩
theorem At2.ld1 (h : At2 H id o x y) : ∀ T : LT, T.one → ∀ r c, loadAt T ⟨r, c, H⟩ (.hp id (o + 1)) = some y := by
 obtain ⟨a, b, c, h, _, h2⟩ := h
 exact dF h h2
theorem At2.there (h : At2 H id o x y) : kT H id := by
 obtain ⟨a, b, c, h, _⟩ := h
 exact ⟨a, b, c, h⟩
end
end Go.Lite
end
section
namespace Go.Proofs.Try1
open Go Go.Lite
theorem oU {α : Type} {key : α → Str} {l : List α} {t : Str} {i : Nat} {a : α} (hp : l.Pairwise fun a b => key a < key b) (h : l[i]? = some a) (hk : key a = t) : bT key l t = some a := by
 unfold bT
 rw [List.find?_eq_some_iff_getElem]
 obtain ⟨hi, h⟩ := List.getElem?_eq_some_iff.1 h
 refine ⟨by simp [hk], i, hi, h, fun j hj => ?_⟩
 have := List.pairwise_iff_getElem.1 hp j i (by omega) hi hj
 rw [h, hk] at this
 have hne : key l[j] ≠ t := fun e => by rw [e] at this; exact List.lt_irrefl _ this
 simp [hne]
theorem uq {α : Type} {key : α → Str} {l : List α} {t : Str} (h : ∀ a ∈ l, key a ≠ t) : bT key l t = none := by
 unfold bT
 rw [List.find?_eq_none]
 intro x hx
 simpa using h x hx
theorem Ll {H : List Ob} {ide eo : Nat} {vd va : V} {l : List PAttr} {t : Str} (he : At2 H ide eo vd va) (h : aC H va l) (hl : l.length ≤ 1000) (hp : l.Pairwise fun a b => a.name < b.name) :
  ∃ (i : Nat) (ok : Bool), callW C 183 [.ptr (some (ide, eo)), .str t] H = some (.tup [.int .i64 i, .bool ok], H) ∧
   (ok = true → ∃ a, l[i]? = some a ∧ a.name = t) ∧ (ok = false → ∀ a ∈ l, a.name ≠ t) := by
 obtain ⟨i, ok, c1, h1, h2⟩ := Il (t := t) h hl hp
 refine ⟨i, ok, ?_, h1, h2⟩
 apply Ret.eq
 rw [LZ]
 have ld := he.ld1
 simp [x9, Tryz.f183, ld, c1]
theorem GL {H : List Ob} {ide eo : Nat} {vd va : V} {l : List PAttr} {t : Str} (he : At2 H ide eo vd va) (h : aC H va l) (hl : l.length ≤ 1000) (hp : l.Pairwise fun a b => a.name < b.name) :
  ∃ w, callW C 99 [.ptr (some (ide, eo)), .str t] H = some (w, H) ∧ AStrs H w (valsOf l t) := by
 obtain ⟨i, ok, c1, h1, h2⟩ := Ll (t := t) he h hl hp
 suffices hs : Ret C 99 [.ptr (some (ide, eo)), .str t] H fun q H' => AStrs H q (valsOf l t) ∧ H' = H by
  obtain ⟨q, H', hc, hr, rfl⟩ := hs
  exact ⟨q, hc, hr⟩
 rw [Td]
 have ld := he.ld1
 cases ok with
 | false =>
  have hv : valsOf l t = [] := by unfold valsOf; rw [uq (h2 rfl)]
  simp [Du, Tryz.f99, c1, hv]
  exact aG.2 ⟨_, _, rfl, rfl, by simp, .inl ⟨rfl, rfl⟩⟩
 | true =>
  obtain ⟨a, ha, hat⟩ := h1 rfl
  obtain ⟨id, o, w, e1, l0, l1, _, hw, _⟩ := dX h ha
  have hv : valsOf l t = a.vals := by unfold valsOf; rw [oU hp ha hat]
  simp [Du, Tryz.f99, c1, ld, e1, l1, hv]
  exact hw
theorem Bi {H : List Ob} {ide : Nat} {own : Bool} {es : Nat} {vd va : V} {l : List PAttr} {t : Str} (he : H[ide]? = some (.mk own es [vd, va])) (h : aC H va l) (hl : l.length ≤ 1000) (hp : l.Pairwise fun a b => a.name < b.name) :
  ∃ w, callW C 99 [.ptr (some (ide, 0)), .str t] H = some (w, H) ∧ AStrs H w (valsOf l t) := GL (.of he) h hl hp

theorem LQ {H : List Ob} {v : V} {l : List PRdn} (h : aX H v l) (hd : DnOk l) : callW C 141 [v] H = some (.str (jk l), H) := by
 rw [jV (show C.prim 141 = some oW from rfl)]
 exact G9 h hd.small.1 hd.small.2
theorem I5 {H : List Ob} {id : Nat} {own : Bool} {es : Nat} {t n : Str} (hq : H[id]? = some (.mk own es [.str n])) : callW C 195 [.str t, .ptr (some (id, 0))] H = some (.bool (dec (norm t = n)), H) := by
 apply Ret.dec
 rw [OB]
 have ld := dF (o := 0) (v := .str n) hq rfl
 have c1 := ku (t := t) (H := H)
 have hid : id < H.length := (List.getElem?_eq_some_iff.1 hq).1
 simp [EE, Tryz.f195, ld, c1, hid]
 exact (Classical.em _).symm
theorem Pj {H : List Ob} {ide : Nat} {own : Bool} {es : Nat} {vd va : V} {l : List PAttr} {t n : Str} (he : H[ide]? = some (.mk own es [vd, va])) (h : aC H va l) (hl : l.length ≤ 1000) (hp : l.Pairwise fun a b => a.name < b.name) :
  callW C 103 [.ptr (some (ide, 0)), .str t, .str n] H = some (.bool (dec (xh l t n)), H) := by
 apply Ret.dec
 rw [O4]
 have ld := dF (H := H ++ [.mk true 1 [.str n]]) (o := 0) (v := .str n) get_last rfl
 have hgb : ∀ X b, eY H (H ++ X) (.bool b) = H := fun X b => qQ
 by_cases hn : n = []
 ·subst hn
  simp [zy, Tryz.f103, aV, ld, xh, hgb]
 ·obtain ⟨w, c1, hw⟩ := Bi (H := H ++ [.mk true 1 [.str n]]) (t := t) (bg _ _ he) h.ext hl hp
  have c2 := vX hw (fun x => dec (norm x = n)) (g := 195) (a := []) (b := [.ptr (some (H.length, 0))]) (fun x _ => I5 get_last)
  simp [zy, Tryz.f103, aV, ld, hn, c1, c2, hgb, xh]
  have e : (∃ x, x ∈ valsOf l t ∧ dec (norm x = n) = true) ↔ ∃ v, v ∈ valsOf l t ∧ norm v = n := by simp only [dC]
  rw [gu e]
  by_cases hx : ∃ v, v ∈ valsOf l t ∧ norm v = n
  ·exact .inr ⟨au hx, hx⟩
  ·exact .inl ⟨ai hx, fun x hx1 hx2 => hx ⟨x, hx1, hx2⟩⟩

noncomputable abbrev keyE (e : PEntry) : Str := jk e.dn

def Back (H G : List Ob) (w : V) (l : List Str) : Prop := ∃ F, AtF G (.slice .str) [w] (.lst (l.map kD)) F ∧ F.Nodup ∧ ∀ q ∈ F, H.length ≤ q
theorem Back.nil {H G : List Ob} : Back H G (.slc none 0) [] := ⟨[], aZ.2 ⟨_, _, rfl, rfl, by simp, .inl ⟨rfl, rfl, rfl⟩⟩, by simp, by simp⟩




def NOut (H : List Ob) (o : PEntryOut) (q : V) (H' : List Ob) : Prop := ∃ T w1 w2, q = .agg [w1, w2, .int .i64 o.code] ∧ H' = H ++ T ∧ New H.length (H ++ T).length (H ++ T) fQ [w1, w2, .int .i64 o.code] o.u
theorem NOut.ill {H : List Ob} {c : Int} (h : (Lit.int .i64 c).wf = true) : NOut H (gz c) (.agg [.slc none 0, .slc none 0, .int .i64 c]) H :=
 ⟨[], .slc none 0, .slc none 0, rfl, by simp, New.st (News.cons (c1 := [.slc none 0, .slc none 0]) (m := H.length) (New.st (News.nilS (News.nilS News.nil))) (News.int h News.nil) (Nat.le_refl _) (by simp))⟩
theorem NOut.of {H G : List Ob} {e : PEntry} {w1 w2 : V} (hT : ∃ T, G = H ++ T) (hn : New H.length G.length G bK [w1, w2] e.u) : NOut H ⟨e, 0⟩ (.agg [w1, w2, .int .i64 0]) (eY H G (.agg [w1, w2, .int .i64 0])) := by
 obtain ⟨T, rfl⟩ := hT
 have h2 : New H.length (H ++ T).length (H ++ T) fQ [w1, w2, .int .i64 0] (PEntryOut.u ⟨e, 0⟩) := New.st (News.cons (c1 := [w1, w2]) (m := (H ++ T).length) hn (News.int (by decide) News.nil) (by simp) (Nat.le_refl _))
 obtain ⟨T', h3, h4⟩ := h2.gcA
 exact ⟨T', w1, w2, rfl, h3, h4⟩
def NOutB (b : Nat) (H : List Ob) (o : PEntryOut) (q : V) (H' : List Ob) : Prop := ∃ T w1 w2, q = .agg [w1, w2, .int .i64 o.code] ∧ H' = H ++ T ∧ New b (H ++ T).length (H ++ T) fQ [w1, w2, .int .i64 o.code] o.u
theorem NOutB.base {H : List Ob} {X : List Ob} {o : PEntryOut} {q : V} {H' : List Ob} (h : NOutB H.length (H ++ X) o q H') : NOut H o q (eY H H' q) := by
 obtain ⟨T, w1, w2, rfl, rfl, h3⟩ := h
 rw [List.append_assoc] at h3 ⊢
 obtain ⟨T', h4, h5⟩ := h3.gcA
 exact ⟨T', w1, w2, rfl, h4, h5⟩
theorem NOutB.one {b : Nat} {H : List Ob} {o : PEntryOut} {q : V} {H' : List Ob} (h : NOutB b H o q H') : ∃ w1 w2, q = .agg [w1, w2, .int .i64 o.code] ∧ (aI w1 = true ∧ cellsOf w1 = some [w1]) ∧ (aI w2 = true ∧ cellsOf w2 = some [w2]) := by
 obtain ⟨T, w1, w2, rfl, rfl, h3⟩ := h
 obtain ⟨_, _, hcs, a1, a2, _⟩ := dS.1 h3.at
 cases hcs
 exact ⟨w1, w2, rfl, a1.one, a2.one⟩
theorem DN {H : List Ob} {v : V} {l : List Str} (h : AStrs H v l) : callW C 82 [v] H = some (.bool (dec (∃ t ∈ l, 8000 < t.length)), H) := by
 apply Ret.dec
 rw [TP]
 have hb : l.length ≤ 9223372036854775807 := h.bound
 simp [IV, Tryz.f82, h.len]
 refine aH (fun k σ => ∃ (i : Nat) (r : Nat → R), i + k = l.length ∧ σ = ⟨r, 0, H⟩ ∧ r 5 = .val v ∧ r 6 = .val (.int .i64 l.length) ∧ r 7 = .val (.int .i64 i) ∧ ∀ j x, j < i → l[j]? = some x → ¬ 8000 < x.length) ?_ l.length _ ⟨0, _, by simp, rfl, by simp, by simp, by simp, by simp⟩
 rintro k σ ⟨i, r, hik, rfl, r5, r6, r7, hall⟩
 cases k with
 | zero =>
  have hi : i = l.length := by omega
  subst hi
  have hx := kG (P := fun j (x : Str) => ¬ 8000 < x.length) hall
  simp [r5, r6, r7]
  intro x hm
  obtain ⟨j, hj, rfl⟩ := List.getElem_of_mem hm
  have := hx j _ (List.getElem?_eq_getElem hj)
  omega
 | succ k =>
  have hi : i < l.length := by omega
  obtain ⟨x, hx⟩ : ∃ c, l[i]? = some c := ⟨l[i], by simp [hi]⟩
  have hw : IntKind.i64.wrap ((i : Int) + 1) = ((i : Int) + 1) := wrap_i64 (by omega) (by omega)
  obtain ⟨id, o, e1, l0, _⟩ := cZ h hx
  by_cases g1 : 8000 < x.length
  ·have g1' : (8000 : Int) < x.length := by omega
   simp [r5, r6, r7, hi, e1, l0, g1']
   exact ⟨x, List.mem_of_getElem? hx, g1⟩
  ·have g1' : ¬ (8000 : Int) < x.length := by omega
   simp [r5, r6, r7, hi, e1, l0, g1', hw]
   exact ⟨k, by omega, i + 1, by omega, by omega, fun j x hj hx' => Nat.not_lt.1 (ig (P := fun j (x : Str) => ¬ 8000 < x.length) hall hx g1 j x hj hx')⟩
theorem Kz {H : List Ob} {v : V} {l : List Str} (h : AStrs H v l) : callW C 83 [v] H = some (.bool (decide (400 < l.length)), H) := by
 apply Ret.eq
 rw [SA]
 simp [Ij, Tryz.f83, h.len]
 omega
theorem Ic {H : List Ob} {v : V} {l : List PRdn} (h : aX H v l) (hl : l.length ≤ 1048576) :
  ∃ T w, callW C 216 [v] H = some (w, H ++ T) ∧ New H.length (H ++ T).length (H ++ T) (.slice shRdn) [w] (.lst (l.map PRdn.u)) := by
 suffices hs : Ret C 216 [v] H fun q H' => ∃ T, H' = H ++ T ∧ New H.length (H ++ T).length (H ++ T) (.slice shRdn) [q] (.lst (l.map PRdn.u)) by
  obtain ⟨q, H', hc, T, rfl, hr⟩ := hs
  exact ⟨T, q, hc, hr⟩
 rw [NI]
 obtain ⟨w, T1, a1, n1⟩ := iR (d := .struct [(0, 9), (1, 9)]) (by_ := 32) (z := [.str [], .str []]) (sz := 2) h rfl rfl rfl (by decide) (by decide) (by decide) (by unfold ax; omega)
 obtain ⟨T', hg, hn⟩ := n1.gc1
 rcases h.sub with ⟨rfl, rfl⟩ | ⟨id, off, own, cells, rfl, _⟩
 ·simp [yc, Tryz.f216]
  exact New.nil
 ·simp [yc, Tryz.f216, aB, ay, ak, St.new, a1, hg]
  simpa using hn
theorem Af {H : List Ob} {v : V} {l : List Str} (h : AStrs H v l) (hl : l.length ≤ 1048576) :
  ∃ T w, callW C 98 [v] H = some (w, H ++ T) ∧ New H.length (H ++ T).length (H ++ T) (.slice .str) [w] (.lst (l.map kD)) := by
 suffices hs : Ret C 98 [v] H fun q H' => ∃ T, H' = H ++ T ∧ New H.length (H ++ T).length (H ++ T) (.slice .str) [q] (.lst (l.map kD)) by
  obtain ⟨q, H', hc, T, rfl, hr⟩ := hs
  exact ⟨T, q, hc, hr⟩
 rw [NZ]
 obtain ⟨w, T1, a1, n1⟩ := iR (d := .str) (by_ := 16) (z := [.str []]) (sz := 1) h rfl rfl rfl (by decide) (by decide) (by decide) (by unfold ax; omega)
 obtain ⟨T', hg, hn⟩ := n1.gc1
 rcases h.sub with ⟨rfl, rfl⟩ | ⟨id, off, own, cells, rfl, _⟩
 ·simp [qY, Tryz.f98]
  exact New.nil
 ·simp [qY, Tryz.f98, aB, ay, ak, St.new, a1, hg]
  simpa using hn
theorem Jd {H : List Ob} {vd va : V} {e : PEntry} (hd : aX H vd e.dn) (ha : aC H va e.attrs) (hb : l7 e) :
  ∃ T w1 w2, callW C 128 [.agg [vd, va]] H = some (.agg [w1, w2], H ++ T) ∧ New H.length (H ++ T).length (H ++ T) bK [w1, w2] e.u := by
 suffices hs : Ret C 128 [.agg [vd, va]] H fun q H' => ∃ T w1 w2, q = .agg [w1, w2] ∧ H' = H ++ T ∧ New H.length (H ++ T).length (H ++ T) bK [w1, w2] e.u by
  obtain ⟨q, H', hc, T, w1, w2, rfl, rfl, hr⟩ := hs
  exact ⟨T, w1, w2, hc, hr⟩
 rw [O0]
 have hod := hd.one
 have hoa := ha.one
 obtain ⟨T1, w1, a1, n1⟩ := Ic hd hb.1
 have hb2 := hb.2.1
 have how := New.one1 n1
 obtain ⟨K, hK⟩ : ∃ K, K = H ++ T1 := ⟨_, rfl⟩
 rw [← hK] at n1 a1
 have haK : aC K va e.attrs := by rw [hK]; exact ha.ext
 simp [EM, Tryz.f128, hod, hoa, a1, aP, ah, ay, how, haK.len]
 refine aH (fun k σ => ∃ (i n : Nat) (r : Nat → R) (G : List Ob) (w : V), i + k = e.attrs.length ∧ σ = ⟨r, n, G⟩ ∧ r 2 = .box 1 [.slc none 0, .slc none 0] ∧ r 3 = .box 2 [w1, w] ∧ r 11 = .val va ∧ r 12 = .val (.int .i64 e.attrs.length) ∧ r 13 = .val (.int .i64 i) ∧ LstF K G shAttr PAttr.u w (e.attrs.take i)) ?_ e.attrs.length _ ⟨0, 3, _, K, .slc none 0, by simp, rfl, by simp, by simp, by simp, by simp, by simp, by simpa using LstF.nil⟩
 rintro k σ ⟨i, cn, r, G, w, hik, rfl, r2, r3, r11, r12, r13, hG⟩
 obtain ⟨S, hS⟩ := hG.pre
 have haG : aC G va e.attrs := by rw [hS]; exact haK.ext
 have hwo := hG.one
 cases k with
 | zero =>
  have hi : i = e.attrs.length := by omega
  subst hi
  rw [List.take_length] at hG
  have n2 := hG.new ha.bound
  have hne : New H.length G.length G bK [w1, w] e.u := by
   refine New.st (News.cons (m := K.length) (c1 := [w1]) ?_ (News.one n2 (by rw [hS]; simp)) (by rw [hK]; simp) (by rw [hS]; simp))
   rw [hS]; exact n1.ext
  obtain ⟨T', hg, hn⟩ := (show New H.length G.length (H ++ (T1 ++ S)) bK [w1, w] e.u by rw [← List.append_assoc, ← hK, ← hS]; exact hne).gcA
  rw [← List.append_assoc, ← hK, ← hS] at hg
  simp [r2, r3, r11, r12, r13, hg, how, hwo]
  exact ⟨T', w1, w, ⟨rfl, rfl⟩, rfl, by simpa using hn⟩
 | succ k =>
  have hi : i < e.attrs.length := by omega
  obtain ⟨x, hx⟩ : ∃ c, e.attrs[i]? = some c := ⟨e.attrs[i], by simp [hi]⟩
  have hw : IntKind.i64.wrap ((i : Int) + 1) = ((i : Int) + 1) := wrap_i64 (by omega) (by omega)
  obtain ⟨id, o, wx, ex, lx, hvx, hnx, hidx, _⟩ := dN ha hx
  have hGH : G = H ++ (T1 ++ S) := by rw [hS, hK, List.append_assoc]
  obtain ⟨l0, l1, l2⟩ := lx G ⟨_, hGH⟩
  have hvG : AStrs G wx x.vals := by rw [hGH]; exact hvx.ext
  have hox := hvG.one
  have hbx := hb.2.2 x (List.mem_of_getElem? hx)
  obtain ⟨T2, wv, a2, n2⟩ := Af hvG hbx
  have hel : New G.length (G ++ T2).length (G ++ T2) shAttr [.str x.name, wv] x.u := New.st (News.str hnx (News.one n2 (by simp)))
  obtain ⟨w', G', a3, hG', _, _⟩ := hG.push (T := T2) (d := .struct [(0, 9), (1, 27)]) (by_ := 40) (z := [.str [], .slc none 0]) (sz := 2) hel rfl rfl (by decide) (by decide) (by decide) (by simp; unfold ax; omega)
  rw [← fA hx] at hG'
  have hwv := New.one1 n2
  have hw' := hG'.one
  simp only [List.append_assoc, List.length_append] at a3
  simp [r2, r3, r11, r12, r13, hi, ex, l0, l1, l2, a2, a3, kV, aB, ay, ak, St.new, aP, ah, hod, hoa, hox, hwv, hwo, hw', hw, List.lookup]
  exact ⟨k, by omega, i + 1, by omega, _, _, _, ⟨rfl, rfl, rfl⟩, by simp [r2], w', by simp, by simp [r11], by simp [r12], by simp, hG'⟩
theorem He {H : List Ob} {v : V} {l : List PAttr} {t : Str} (h : aC H v l) (hl : l.length ≤ 1000) (hp : l.Pairwise fun a b => a.name < b.name) :
  ∃ (i : Nat) (ok : Bool), callW C 260 [v, .str t, .fn 261 [] []] H = some (.tup [.int .i64 i, .bool ok], H) ∧
   i ≤ l.length ∧ (∀ q a, q < i → l[q]? = some a → bG a.name t) ∧ (∀ q a, i ≤ q → l[q]? = some a → ¬ bG a.name t) ∧ (ok = true ↔ ∃ a, l[i]? = some a ∧ a.name = t) := by
 suffices hs : Ret C 260 [v, .str t, .fn 261 [] []] H fun q H' =>
   (∃ (i : Nat) (ok : Bool), q = .tup [.int .i64 i, .bool ok] ∧ i ≤ l.length ∧ (∀ q a, q < i → l[q]? = some a → bG a.name t) ∧ (∀ q a, i ≤ q → l[q]? = some a → ¬ bG a.name t) ∧ (ok = true ↔ ∃ a, l[i]? = some a ∧ a.name = t)) ∧ H' = H by
  obtain ⟨q, H', hc, ⟨i, ok, rfl, h1⟩, rfl⟩ := hs
  exact ⟨i, ok, hc, h1⟩
 rw [LY]
 simp [yU, Tryz.f260, h.len]
 refine aH (fun k σ => ∃ (i j : Nat) (r : Nat → R), j - i = k ∧ i ≤ j ∧ j ≤ l.length ∧ σ = ⟨r, 0, H⟩ ∧ r 0 = .val v ∧ r 1 = .val (.str t) ∧ r 2 = .val (.fn 261 [] []) ∧ r 8 = .val (.int .i64 l.length) ∧ r 9 = .val (.int .i64 i) ∧ r 10 = .val (.int .i64 j) ∧
  (∀ q a, q < i → l[q]? = some a → bG a.name t) ∧ (∀ q a, j ≤ q → l[q]? = some a → ¬ bG a.name t)) ?_ l.length _ ⟨0, l.length, _, by omega, by omega, by omega, rfl, by simp, by simp, by simp, by simp, by simp, by simp, fun q a h => by omega, fun q a h1 h2 => by have := (List.getElem?_eq_some_iff.1 h2).1; omega⟩
 rintro k σ ⟨i, j, r, hk, hij, hjl, rfl, r0, r1, r2, r8, r9, r10, hlo, hhi⟩
 cases k with
 | succ k =>
  have hlt : (i : Int) < j := by omega
  have hlt' : i < j := by omega
  have hw1 : IntKind.i64.wrap ((i : Int) + j) = (i : Int) + j := wrap_i64 (by omega) (by omega)
  have hw2 : IntKind.u64.wrap ((i : Int) + j) = (i : Int) + j := by unfold IntKind.wrap; simp [IntKind.bits, IntKind.signed]; omega
  have hq : ((i : Int) + j).fdiv 2 = (((i + j) / 2 : Nat) : Int) := by rw [Int.fdiv_eq_ediv_of_nonneg _ (by omega)]; omega
  obtain ⟨m, hm⟩ : ∃ m, m = (i + j) / 2 := ⟨_, rfl⟩
  rw [← hm] at hq
  have hw3 : IntKind.i64.wrap (m : Int) = m := wrap_i64 (by omega) (by omega)
  have hw4 : IntKind.i64.wrap ((m : Int) + 1) = (m : Int) + 1 := wrap_i64 (by omega) (by omega)
  have hml : m < l.length := by omega
  obtain ⟨a, ha⟩ : ∃ a, l[m]? = some a := ⟨l[m], List.getElem?_eq_getElem hml⟩
  obtain ⟨id, o, w, e1, l0, l1, l2, hvs, _⟩ := dX h ha
  have c1 := qx (n := a.name) (t := t) (w := w) (H := H) hvs.one.2
  have hord : ∀ q b, l[q]? = some b → (q < m → b.name < a.name) ∧ (m < q → a.name < b.name) := fun q b hb => by
   obtain ⟨hq1, hb⟩ := List.getElem?_eq_some_iff.1 hb
   obtain ⟨_, ha⟩ := List.getElem?_eq_some_iff.1 ha
   have := List.pairwise_iff_getElem.1 hp
   exact ⟨fun hh => by have := this q m hq1 hml hh; rwa [hb, ha] at this, fun hh => by have := this m q hml hq1 hh; rwa [hb, ha] at this⟩
  by_cases g1 : bG a.name t
  ·have g1' := sV.2 g1
   simp [r0, r1, r2, r8, r9, r10, hlt, hlt', hw1, hw2, hq, hw3, hw4, e1, l2, c1, g1', gX, IntKind.bits]
   refine ⟨j - (m + 1), by omega, m + 1, j, by omega, by omega, by omega, by omega, rfl, fun q b hq1 hb => ?_, hhi⟩
   by_cases hqm : q = m
   ·subst hqm; rw [ha] at hb; cases hb; exact g1
   ·exact (bi _ _).2 (List.lt_trans ((hord q b hb).1 (by omega)) ((bi _ _).1 g1))
  ·have g1' : ¬ oz a.name t < 0 := mt sV.1 g1
   simp [r0, r1, r2, r8, r9, r10, hlt, hlt', hw1, hw2, hq, hw3, hw4, e1, l2, c1, g1', gX, IntKind.bits]
   refine ⟨m - i, by omega, i, m, by omega, by omega, by omega, rfl, rfl, hlo, fun q b hq1 hb hlt2 => ?_⟩
   by_cases hqm : q = m
   ·subst hqm; rw [ha] at hb; cases hb; exact g1 hlt2
   ·exact g1 ((bi _ _).2 (List.lt_trans ((hord q b hb).2 (by omega)) ((bi _ _).1 hlt2)))
 | zero =>
  have hij' : i = j := by omega
  subst hij'
  by_cases hil : i < l.length
  ·have hilI : (i : Int) < l.length := by omega
   obtain ⟨a, ha⟩ : ∃ a, l[i]? = some a := ⟨l[i], List.getElem?_eq_getElem hil⟩
   obtain ⟨id, o, w, e1, l0, l1, l2, hvs, _⟩ := dX h ha
   have c1 := qx (n := a.name) (t := t) (w := w) (H := H) hvs.one.2
   by_cases g1 : a.name = t
   ·have g1' := pV.2 g1
    simp [r0, r1, r2, r8, r9, r10, hil, e1, l2, c1, g1']
    exact ⟨i, rfl, by omega, hlo, hhi, a, ha, g1⟩
   ·have g1' : ¬ oz a.name t = 0 := mt pV.1 g1
    simp [r0, r1, r2, r8, r9, r10, hil, e1, l2, c1, g1']
    exact ⟨i, rfl, by omega, hlo, hhi, fun b hb => by rw [ha] at hb; cases hb; exact g1⟩
  ·simp [r0, r1, r2, r8, r9, r10, hil]
   exact ⟨i, rfl, by omega, hlo, hhi, fun b hb => by have := (List.getElem?_eq_some_iff.1 hb).1; omega⟩
theorem Fb {H : List Ob} {ide : Nat} {own : Bool} {es : Nat} {vd va : V} {l : List PAttr} {t : Str} (he : H[ide]? = some (.mk own es [vd, va])) (h : aC H va l) (hl : l.length ≤ 1000) (hp : l.Pairwise fun a b => a.name < b.name) :
  ∃ (i : Nat) (ok : Bool), callW C 183 [.ptr (some (ide, 0)), .str t] H = some (.tup [.int .i64 i, .bool ok], H) ∧ i ≤ l.length ∧ (∀ q a, q < i → l[q]? = some a → bG a.name t) ∧ (∀ q a, i ≤ q → l[q]? = some a → ¬ bG a.name t) ∧ (ok = true ↔ ∃ a, l[i]? = some a ∧ a.name = t) := by
 obtain ⟨i, ok, c1, h1⟩ := He (t := t) h hl hp
 refine ⟨i, ok, ?_, h1⟩
 apply Ret.eq
 rw [LZ]
 have ld := dF (o := 1) (v := va) he rfl
 simp [x9, Tryz.f183, ld, c1]
theorem TreeOk.dns {t : PTree} (h : TreeOk t) : ∀ x ∈ t.entries, EntryOk x := fun x hx => by
 obtain ⟨j, hj, rfl⟩ := List.getElem_of_mem hx
 exact (h.2.1.2 j _ (List.getElem?_eq_getElem hj)).1
def MQ (c : PClass) : Prop := c.must.length ≤ 1048576 ∧ c.may.length ≤ 1048576 ∧ c.single.length ≤ 1048576
def MO (t : PTree) : Prop := (t.schema.length ≤ 1048576 ∧ ∀ c ∈ t.schema, MQ c) ∧ t.entries.length ≤ 1048576 ∧ ∀ e ∈ t.entries, l7 e
structure PTreeOut where
 tree : PTree
 entries : List PEntry
 code : Int
def PTreeOut.u (o : PTreeOut) : U := .st [o.tree.u, .lst (o.entries.map PEntry.u), .int o.code]
abbrev rq : Sh := .st [CU, .slice bK, .int .i64]
def Rt (c : Int) : PTreeOut := ⟨⟨[], []⟩, [], c⟩
def TOut (H : List Ob) (o : PTreeOut) (q : V) (H' : List Ob) : Prop := ∃ T w1 w2 w3, q = .agg [w1, w2, w3, .int .i64 o.code] ∧ H' = H ++ T ∧ New H.length (H ++ T).length (H ++ T) rq [w1, w2, w3, .int .i64 o.code] o.u
theorem TOut.ill {H : List Ob} {c : Int} (h : (Lit.int .i64 c).wf = true) : TOut H (Rt c) (.agg [.slc none 0, .slc none 0, .slc none 0, .int .i64 c]) H :=
 ⟨[], .slc none 0, .slc none 0, .slc none 0, rfl, by simp, New.st (News.cons (c1 := [.slc none 0, .slc none 0]) (m := H.length) (New.st (News.nilS (News.nilS News.nil))) (News.nilS (News.int h News.nil)) (Nat.le_refl _) (by simp))⟩
theorem TOut.of {H G : List Ob} {t : PTree} {w1 w2 : V} (hT : ∃ T, G = H ++ T) (hn : New H.length G.length G CU [w1, w2] t.u) : TOut H ⟨t, [], 0⟩ (.agg [w1, w2, .slc none 0, .int .i64 0]) (eY H G (.agg [w1, w2, .slc none 0, .int .i64 0])) := by
 obtain ⟨T, rfl⟩ := hT
 have h2 : New H.length (H ++ T).length (H ++ T) rq [w1, w2, .slc none 0, .int .i64 0] (PTreeOut.u ⟨t, [], 0⟩) := New.st (News.cons (c1 := [w1, w2]) (m := (H ++ T).length) hn (News.nilS (News.int (by decide) News.nil)) (by simp) (Nat.le_refl _))
 obtain ⟨T', h3, h4⟩ := h2.gcA
 exact ⟨T', w1, w2, .slc none 0, rfl, h3, h4⟩
theorem DnOk.drop {l : List PRdn} (hd : DnOk l) (k : Nat) : DnOk (l.drop k) :=
 ⟨fun j x hx => hd.1 (k + j) x (by rw [List.getElem?_drop] at hx; exact hx), by have := hd.2; simp; omega⟩
end Go.Proofs.Try1
end
