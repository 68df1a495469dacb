/- Part 16 of the proof of a law: the interpreter, its soundness, and what functions of the program compute over it. Conditions: none but those that each theorem names. -/
import Derived.Test.YtamgeahibepfnaaGreatDoorP15
import Derived.Test.YtamgeahibepfnaaGreatDoorP10
import Derived.Test.YtamgeahibepfnaaGreatDoorP14
import Derived.Test.YtamgeahibepfnaaGreatDoorP05
import Derived.Laws.Externs
import Derived.CallsIn
import Derived.Sort.EncStr
import Derived.Sort.Grow
import Derived.Test.YtamgeahibepfnaaGreatDoorP07
import Derived.WalkKit
import Derived.Test.YtamgeahibepfnaaGreatDoorP06
import Derived.Test.YtamgeahibepfnaaGreatDoorProg
import Derived.KernelRfl

set_option linter.all false
set_option maxRecDepth 20000
set_option maxHeartbeats 40000000
section
namespace Go.Proofs.Try1
open Go Go.Lite
noncomputable def stepOf (kind : Int) (n v : Str) (e : PEntry) : PEntryOut := if kind = 1 then jR e n v else jH e n v
noncomputable def fC (kind : Int) (n : Str) : List Str → PEntry → PEntryOut
 | [], e => ⟨e, 0⟩
 | v :: vs, e => if (stepOf kind n v e).code = 0 then fC kind n vs (stepOf kind n v e).entry else lJ (stepOf kind n v e).code
noncomputable def fA (m : PMod) (e : PEntry) : PEntryOut := if m.kind = 3 then jm e m.attr m.vals else fC m.kind m.attr m.vals e
theorem yz {l : List PAttr} {n : Str} (hl : fZ l) : fZ (bC l n []) := by
 have hp : l.Pairwise fun a b => a.name < b.name := gB (fun j x hx => (hl.1 j x hx).2.1)
 have e : bC l n [] = l.filter (fun a => dec (df a.name n)) ++ l.filter (fun a => dec (df n a.name)) := by
  unfold bC
  simp
 rw [e]
 have hpw : (l.filter (fun a => dec (df a.name n)) ++ l.filter (fun a => dec (df n a.name))).Pairwise fun a b => a.name < b.name :=
  List.pairwise_append.2 ⟨hp.filter _, hp.filter _, fun a ha b hb => List.lt_trans ((bD _ _).1 (dS.1 (List.mem_filter.1 ha).2)) ((bD _ _).1 (dS.1 (List.mem_filter.1 hb).2))⟩
 refine ⟨fun j x hx => ?_, ?_⟩
 ·have hm : x ∈ l := by
   rcases List.mem_append.1 (List.mem_of_getElem? hx) with h | h
   ·exact (List.mem_filter.1 h).1
   ·exact (List.mem_filter.1 h).1
  obtain ⟨q, hq, rfl⟩ := List.getElem_of_mem hm
  have := hl.1 q _ (List.getElem?_eq_getElem hq)
  exact ⟨this.1, yY hpw hx, this.2.2⟩
 ·have h1 := (zU (p := fun a : PAttr => dec (df a.name n)) (q := fun a => dec (df n a.name)) (fun x hx => eG (dS.1 hx.1) (dS.1 hx.2)) l).1
  have := hl.2
  simp only [List.length_append]
  omega
theorem UG {l : List Str} {v : Str} (h : aZ l ∨ l = []) : aZ (iR l v) ∨ iR l v = [] := by
 by_cases g : iR l v = []
 ·exact .inr g
 rcases h with h | rfl
 ·have hpw := (gB (key := norm) (fun j x hx => (h.1 j x hx).2)).sublist (List.filter_sublist (l := l) (p := fun x => !decide (norm x = norm v)))
  have hle : (iR l v).length ≤ l.length := List.length_filter_le _ _
  refine .inl ⟨fun j x hx => ⟨?_, yY hpw hx⟩, ?_, by have := h.2.2; omega⟩
  ·obtain ⟨q, hq, rfl⟩ := List.getElem_of_mem (List.mem_filter.1 (List.mem_of_getElem? hx)).1
   exact (h.1 q _ (List.getElem?_eq_getElem hq)).1
  ·have := List.length_pos_iff.2 g
   omega
 ·exact absurd rfl g
theorem Pn {e : PEntry} {n v : Str} (he : EntryOk e) (hn : aQ n) (h0 : (jH e n v).code = 0) : EntryOk (jH e n v).entry := by
 unfold jH at h0 ⊢
 split at h0
 case isFalse => cases h0
 rename_i g1
 rw [if_pos g1]
 refine ⟨he.1, he.2.1, ?_⟩
 have hvo := Gq he.2.2 n
 rcases UG (v := v) hvo with h | h
 ·refine uD he.2.2 hn h fun hh => ?_
  obtain ⟨x, hx, _⟩ := g1
  rw [hh.1] at hx; cases hx
 ·show fZ (bC e.attrs n (iR (valsOf e.attrs n) v))
  rw [h]; exact yz he.2.2
theorem SG {e : PEntry} {n : Str} {vs : List Str} (he : EntryOk e) (hn : aQ n) (hv : lC vs) (h0 : (jm e n vs).code = 0) : EntryOk (jm e n vs).entry := by
 unfold jm at h0 ⊢
 split at h0
 ·cases h0
 rename_i g1
 rw [if_neg g1]
 refine ⟨he.1, he.2.1, ?_⟩
 show fZ (bC e.attrs n (dw vs))
 by_cases hz : vs = []
 ·subst hz
  exact yz he.2.2
 ·obtain ⟨h1, h2, h3⟩ := mi.1 hv
  refine uD he.2.2 hn (AC h1 h2 (List.length_pos_iff.2 hz) h3) fun hh => g1 ⟨hz, hh.2, ?_⟩
  have h4 := hh.1
  unfold valsOf at h4
  cases hf : bT PAttr.name e.attrs n with
  | none => rfl
  | some a =>
   rw [hf] at h4
   obtain ⟨j, hj, rfl⟩ := List.getElem_of_mem (List.mem_of_find?_eq_some hf)
   have := (he.2.2.1 j _ (List.getElem?_eq_getElem hj)).2.2.2.1
   simp only at h4
   rw [h4] at this
   simp at this
theorem xK {kind : Int} {n v : Str} {e : PEntry} (he : EntryOk e) (hn : aQ n) (hv : aN v) (h0 : (stepOf kind n v e).code = 0) : EntryOk (stepOf kind n v e).entry := by
 unfold stepOf at h0 ⊢
 split
 ·rename_i g; rw [if_pos g] at h0; exact (PQ he hn hv h0).1
 ·rename_i g; rw [if_neg g] at h0; exact Pn he hn h0
theorem Ar {kind : Int} {n : Str} (hn : aQ n) : ∀ (vs : List Str) (e : PEntry), EntryOk e → (∀ x ∈ vs, aN x) → (fC kind n vs e).code = 0 → EntryOk (fC kind n vs e).entry
 | [], e, he, _, _ => he
 | v :: vs, e, he, hv, h0 => by
  unfold fC at h0 ⊢
  split
  ·rename_i g
   rw [if_pos g] at h0
   exact Ar hn vs _ (xK he hn (hv v (by simp)) g) (fun x hx => hv x (by simp [hx])) h0
  ·rename_i g
   rw [if_neg g] at h0
   exact absurd h0 g
theorem Bc {m : PMod} {e : PEntry} (he : EntryOk e) (hm : kE m) (h0 : (fA m e).code = 0) : EntryOk (fA m e).entry := by
 unfold fA at h0 ⊢
 split
 ·rename_i g; rw [if_pos g] at h0; exact SG he hm.2.1 hm.2.2.1 h0
 ·rename_i g; rw [if_neg g] at h0; exact Ar hm.2.1 _ _ he (mi.1 hm.2.2.1).1 h0
theorem lS {kind : Int} {n v : Str} {vs : List Str} {e : PEntry} : fC kind n (v :: vs) e = if (stepOf kind n v e).code = 0 then fC kind n vs (stepOf kind n v e).entry else lJ (stepOf kind n v e).code := by
 conv => lhs; unfold fC
def Qx (H G : List Ob) (m : PMod) (e : PEntry) (i : Nat) (w1 w2 : V) (e' : PEntry) : Prop :=
 (∃ T, G = H ++ T) ∧ dK G w1 e'.dn ∧ bK G w2 e'.attrs ∧ EntryOk e' ∧ fC m.kind m.attr m.vals e = fC m.kind m.attr (m.vals.drop i) e' ∧ (0 < i → ¬ eY H w2)
theorem afw {H : List Ob} {vd va w : V} {e : PEntry} {m : PMod} (hd : dK H vd e.dn) (ha : bK H va e.attrs) (he : EntryOk e) (hm : kE m) (hw : AStrs H w m.vals) (hn : m.attr.length ≤ maxLen) :
  ∃ q H', callW C 217 [.agg [vd, va], .agg [.int .i64 m.kind, .str m.attr, w]] H = some (q, H') ∧ EOut H (fA m e) q H' := by
 suffices hs : Ret C 217 [.agg [vd, va], .agg [.int .i64 m.kind, .str m.attr, w]] H fun q H' => EOut H (fA m e) q H' by
  obtain ⟨q, H', hc, hr⟩ := hs
  exact ⟨q, H', hc, hr⟩
 rw [adr]
 have hod := hd.one
 have hoa := ha.one
 have how := hw.one
 by_cases g3 : m.kind = 3
 ·have ho : fA m e = jm e m.attr m.vals := if_pos g3
  rw [ho]
  obtain ⟨q, H', c1, T, w1, w2, rfl, rfl, hat, hgc, hnl⟩ := acL hd ha (EntryOk.small he) (EntryOk.rise he) hn hw (by have := hm.2.2.1.2; omega)
  obtain ⟨_, _, hcs, a1, a2, hwf⟩ := fU.1 hat
  cases hcs
  have ho1 := a1.one
  have ho2 := a2.one
  simp [yU, Tryz.f217, hod, hoa, how, g3, c1, ho1, ho2, hgc]
  exact ⟨T, w1, w2, rfl, rfl, hat, hgc, hnl⟩
 have ho : fA m e = fC m.kind m.attr m.vals e := if_neg g3
 rw [ho]
 have hvk := (mi.1 hm.2.2.1).1
 have hmx := hw.max
 have hv4 : m.vals.length ≤ 4 := hm.2.2.1.2
 have hv0 : 0 < m.vals.length := hm.2.2.2.resolve_right g3
 simp [yU, Tryz.f217, hod, hoa, how, g3, aH, ax, aW, ay, aJ]
 refine aA (fun k σ => ∃ (i : Nat) (r : Nat → R) (c : Nat) (G : List Ob) (w1 w2 : V) (e' : PEntry), i + k = m.vals.length ∧ σ = ⟨r, c, G⟩ ∧ 3 ≤ c ∧ r 2 = .box 0 [w1, w2] ∧ r 3 = .box 1 [.int .i64 m.kind, .str m.attr, w] ∧ r 4 = .box 2 [.slc none 0, .slc none 0, .int .i64 0] ∧ r 5 = .val (.int .i64 i) ∧ Qx H G m e i w1 w2 e') ?_ m.vals.length _ ⟨0, _, 3, H, vd, va, e, by simp, rfl, by omega, by simp, by simp, by simp, by simp, ⟨[], by simp⟩, hd, ha, he, by simp, by omega⟩
 rintro k σ ⟨i, r, c, G, w1, w2, e', hik, rfl, hc, r2, r3, r4, r5, hG, b1, b2, b3, b4, b5⟩
 have oo1 := b1.one
 have oo2 := b2.one
 have hwG : AStrs G w m.vals := by obtain ⟨T, rfl⟩ := hG; exact hw.ext
 cases k with
 | zero =>
  obtain rfl : i = m.vals.length := by omega
  obtain ⟨T, rfl⟩ := hG
  have hgc : fB H (H ++ T) (.agg [w1, w2, .int .i64 0]) = H ++ T := kD fun h => b5 hv0 h.2.1
  rw [List.drop_length] at b4
  rw [b4]
  simp [r2, r3, r4, r5, hwG.len, oo1, oo2, hgc, aH, ax, aW, ay, aJ]
  exact ⟨T, w1, w2, rfl, rfl, fU.2 ⟨_, _, rfl, b1, b2, show (Lit.int .i64 0).wf = true by decide⟩, hgc, fun _ => b5 hv0, fun h => absurd rfl h⟩
 | succ k =>
  have hi : i < m.vals.length := by omega
  obtain ⟨x, hx⟩ : ∃ c, m.vals[i]? = some c := ⟨m.vals[i], by simp [hi]⟩
  have hxm := List.mem_of_getElem? hx
  have hwr : IntKind.i64.wrap ((i : Int) + 1) = ((i : Int) + 1) := wrap_i64 (by omega) (by omega)
  obtain ⟨id, o, e1, l0, _⟩ := dB hwG hx
  have hdr : m.vals.drop i = x :: m.vals.drop (i + 1) := by
   obtain ⟨_, rfl⟩ := List.getElem?_eq_some_iff.1 hx
   exact List.drop_eq_getElem_cons hi
  have hsm := EntryOk.small b3
  have hri := EntryOk.rise b3
  have hstep : ∃ q H', callW C (if m.kind = 1 then 204 else 299) [.agg [w1, w2], .str m.attr, .str x] G = some (q, H') ∧ EOut G (stepOf m.kind m.attr x e') q H' := by
   unfold stepOf
   split
   ·exact aeQ b1 b2 hsm hri hn (hmx x hxm) (fun a haa => by
     obtain ⟨j, hj, rfl⟩ := List.getElem_of_mem haa
     have := (b3.2.2.1 j _ (List.getElem?_eq_getElem hj)).2.2.2.2
     omega)
   ·exact Ws b1 b2 b3 hn (hmx x hxm)
  obtain ⟨q, G', c1, T2, z1, z2, rfl, rfl, hat, hgc, hnl, hill⟩ := hstep
  obtain ⟨_, _, hcs, d1, d2, hwf⟩ := fU.1 hat
  cases hcs
  have oz1 := d1.one
  have oz2 := d2.one
  rw [hdr, lS] at b4
  by_cases g0 : (stepOf m.kind m.attr x e').code = 0
  ·rw [if_pos g0] at b4
   rw [g0] at c1 hgc
   have hG2 : ∃ T, G ++ T2 = H ++ T := by obtain ⟨T, rfl⟩ := hG; exact ⟨T ++ T2, List.append_assoc _ _ _⟩
   have hnl2 : ¬ eY H z2 := fun h => hnl g0 (by
    obtain ⟨p, rfl⟩ := d2.shape
    obtain ⟨T, rfl⟩ := hG
    exact qp h)
   have nxt : Qx H (G ++ T2) m e (i + 1) z1 z2 (stepOf m.kind m.attr x e').entry := ⟨hG2, d1, d2, xK b3 hm.2.1 (hvk x hxm) g0, b4, fun _ => hnl2⟩
   by_cases gk : m.kind = 1
   ·rw [if_pos gk] at c1
    rw [gk] at r3
    simp [r2, r3, r4, r5, hi, hwG.len, e1, l0, oo1, oo2, c1, oz1, oz2, hwr, aH, ax, aW, ay, aJ, af, ai, List.lookup]
    exact ⟨k, by omega, i + 1, by omega, _, _, _, ⟨rfl, rfl, rfl⟩, by omega, z1, z2, by simp, by simp [r3, gk], by simp [r4], by simp, _, nxt⟩
   ·rw [if_neg gk] at c1
    simp [r2, r3, r4, r5, gk, hi, hwG.len, e1, l0, oo1, oo2, c1, oz1, oz2, hwr, aH, ax, aW, ay, aJ, af, ai, List.lookup]
    exact ⟨k, by omega, i + 1, by omega, _, _, _, ⟨rfl, rfl, rfl⟩, by omega, z1, z2, by simp, by simp [r3], by simp [r4], by simp, _, nxt⟩
  ·rw [if_neg g0] at b4
   obtain ⟨rfl, rfl, rfl⟩ := hill g0
   rw [b4]
   rw [List.append_nil] at c1
   have hgc2 : fB H G (.agg [.slc none 0, .slc none 0, .int .i64 (stepOf m.kind m.attr x e').code]) = H := by obtain ⟨T, rfl⟩ := hG; exact jA (by simp [eY, iD])
   have fin := EOut.ill (H := H) (c := (stepOf m.kind m.attr x e').code) ⟨hwf, g0⟩
   by_cases gk : m.kind = 1
   ·rw [if_pos gk] at c1
    rw [gk] at r3 c1 g0 hgc2 fin
    simp [r2, r3, r4, r5, hi, hwG.len, e1, l0, oo1, oo2, c1, oz1, oz2, g0, hgc2, aH, ax, aW, ay, aJ, af, ai, List.lookup]
    rw [gk]
    exact fin
   ·rw [if_neg gk] at c1
    simp [r2, r3, r4, r5, gk, hi, hwG.len, e1, l0, oo1, oo2, c1, oz1, oz2, g0, hgc2, aH, ax, aW, ay, aJ, af, ai, List.lookup]
    exact fin
end Go.Proofs.Try1
end
section
namespace Go.Proofs.Try1
open Go Go.Lite
attribute [-simp] jd mg
attribute [local simp] jM mY jF jI jD iU
attribute [local simp low] jE


theorem LZ {G : List Ob} {w1 w2 : V} {e : PEntry} {F1 F2 : List Nat} (h1 : AtF G (.slice shRdn) [w1] (.lst (e.dn.map PRdn.u)) F1) (h2 : AtF G (.slice shAttr) [w2] (.lst (e.attrs.map PAttr.u)) F2) : AtF G shEntry [w1, w2] e.u (F1 ++ F2) :=
 eQ.2 ⟨_, rfl, aC.2 ⟨[w1], [w2], _, _, F1, F2, rfl, rfl, rfl, h1, aC.2 ⟨[w2], [], _, _, F2, [], rfl, rfl, by simp, h2, dC.2 ⟨rfl, rfl, rfl⟩⟩⟩⟩
theorem UM {e : PEntry} {n v : Str} : (jR e n v).code = if ∃ x ∈ valsOf e.attrs n, norm x = norm v then 7 else if 4 ≤ (valsOf e.attrs n).length ∨ (valsOf e.attrs n = [] ∧ 8 ≤ e.attrs.length) then 9 else 0 := by
 unfold jR
 repeat' split
 all_goals rfl
theorem TY {e : PEntry} {n v : Str} (h : (jR e n v).code = 0) : (jR e n v).entry.attrs = bC e.attrs n (dw (valsOf e.attrs n ++ [v])) := by
 unfold jR at h ⊢
 split at h
 ·simp [lJ] at h
 rename_i g1
 rw [if_neg g1]
 split at h
 ·simp [lJ] at h
 rename_i g2
 rw [if_neg g2]
 rfl
noncomputable def eu : List PMod → PEntry → PEntryOut
 | [], e => ⟨e, 0⟩
 | m :: ms, e => if (fA m e).code = 0 then eu ms (fA m e).entry else lJ (fA m e).code
noncomputable def xW (l : List PEntry) (key : Str) (e' : PEntry) : List PEntry := l.map fun z => if dec (keyE z = key) = true then e' else z
noncomputable def bJ (t : PTree) (dn : List PRdn) (ms : List PMod) : Int :=
 match bT keyE t.entries (dG dn) with
 | none => 6
 | some x => if ms.length = 0 ∨ 10 < ms.length then 1 else if ¬ (eu ms x).code = 0 then (eu ms x).code else if dec (fF t.schema (eu ms x).entry) = true then 0 else 12
noncomputable def dm (t : PTree) (dn : List PRdn) (ms : List PMod) : PTreeOut :=
 if bJ t dn ms = 0 then ⟨⟨t.schema, match bT keyE t.entries (dG dn) with
  | none => t.entries
  | some x => xW t.entries (dG dn) (eu ms x).entry⟩, [], 0⟩ else xA (bJ t dn ms)
noncomputable def bG (t : PTree) (dn : List PRdn) (ms : List PMod) : PTreeOut :=
 if 400 < dn.length ∨ 400 < ms.length then xA 2 else if dec (TreeOk t ∧ DnOk dn ∧ jC ms) = true then dm t dn ms else xA 1
theorem nZ {m : PMod} {ms : List PMod} {e : PEntry} : eu (m :: ms) e = if (fA m e).code = 0 then eu ms (fA m e).entry else lJ (fA m e).code := by
 conv => lhs; unfold eu
theorem Dc : ∀ (ms : List PMod) (e : PEntry), EntryOk e → (∀ m ∈ ms, kE m) → (eu ms e).code = 0 → EntryOk (eu ms e).entry
 | [], e, he, _, _ => he
 | m :: ms, e, he, hm, h0 => by
  rw [nZ] at h0 ⊢
  split
  ·rename_i g
   rw [if_pos g] at h0
   exact Dc ms _ (Bc he (hm m (by simp)) g) (fun x hx => hm x (by simp [hx])) h0
  ·rename_i g
   rw [if_neg g] at h0
   exact absurd h0 g
theorem tX {kind : Int} {n : Str} : ∀ (vs : List Str) (e : PEntry), 0 ≤ (fC kind n vs e).code ∧ (fC kind n vs e).code ≤ 100
 | [], e => by unfold fC; exact ⟨Int.le_refl 0, (by decide : (0 : Int) ≤ 100)⟩
 | v :: vs, e => by
  rw [lS]
  split
  ·exact tX vs _
  ·unfold stepOf jR jH
   simp only [lJ]
   repeat' split
   all_goals simp
theorem Ib {m : PMod} {e : PEntry} : 0 ≤ (fA m e).code ∧ (fA m e).code ≤ 100 := by
 unfold fA
 split
 ·unfold jm
  split <;> simp [lJ]
 ·exact tX _ _
theorem vM : ∀ (ms : List PMod) (e : PEntry), 0 ≤ (eu ms e).code ∧ (eu ms e).code ≤ 100
 | [], e => by unfold eu; exact ⟨Int.le_refl 0, (by decide : (0 : Int) ≤ 100)⟩
 | m :: ms, e => by
  rw [nZ]
  split
  ·exact vM ms _
  ·exact Ib
theorem ug {t : PTree} {dn : List PRdn} {ms : List PMod} : (Lit.int .i64 (bJ t dn ms)).wf = true := by
 have h : 0 ≤ bJ t dn ms ∧ bJ t dn ms ≤ 100 := by
  unfold bJ
  split
  ·decide
  split
  ·decide
  split
  ·exact vM _ _
  split <;> decide
 exact UU h.1 h.2
theorem JB {l : List PEntry} {key : Str} {k : Nat} {x e' : PEntry} (hp : l.Pairwise fun a b => keyE a < keyE b) (hx : l[k]? = some x) (hk : keyE x = key) : xW l key e' = l.set k e' := by
 obtain ⟨hk1, rfl⟩ := List.getElem?_eq_some_iff.1 hx
 apply List.ext_getElem?
 intro j
 unfold xW
 rw [List.getElem?_map, List.getElem?_set]
 by_cases hjk : k = j
 ·subst hjk
  rw [if_pos rfl, if_pos hk1, List.getElem?_eq_getElem hk1]
  simp [au hk]
 ·rw [if_neg hjk]
  by_cases hj : j < l.length
  ·rw [List.getElem?_eq_getElem hj]
   have hne : ¬ keyE l[j] = key := fun e => by
    have h1 := List.pairwise_iff_getElem.1 hp
    rcases Nat.lt_trichotomy j k with hh | hh | hh
    ·have := h1 j k hj hk1 hh
     rw [e, hk] at this
     exact List.lt_irrefl _ this
    ·exact hjk hh.symm
    ·have := h1 k j hk1 hj hh
     rw [e, hk] at this
     exact List.lt_irrefl _ this
   simp [ak hne]
  ·rw [List.getElem?_eq_none (by omega)]
   rfl
theorem UT {H : List Ob} {v : V} {xs : List PMod} (h : lq H v xs) {i : Nat} {x : PMod} (hx : xs[i]? = some x) : ∃ id o w, id < H.length ∧
  (∀ (e s b : Nat) (z : List V) (ty : Nat → LT) (k : IntKind), (ty e).size = 3 → fQ ⟨.slice e, s, b, z⟩ ty (.val v) (.int k i) = some (.val (.ptr (some (id, o))))) ∧
  (∀ T : LT, T.many 3 → ∀ r c, loadAt T ⟨r, c, H⟩ (.hp id o) = some (.agg [.int .i64 x.kind, .str x.attr, w])) ∧ x.attr.length ≤ maxLen ∧ AStrs H w x.vals := by
 obtain ⟨id, o, own, cells, e1, e2, e3, e4⟩ := ASl.idx h hx (by decide)
 obtain ⟨w, e4, e5, e6, e7⟩ := Ku.1 e4
 exact ⟨id, o, w, (List.getElem?_eq_some_iff.1 e2).1, e1, nT e2 e3 (by decide) e4, e6, e7⟩
def Ny (H G : List Ob) (ms : List PMod) (e : PEntry) (i : Nat) (w1 w2 : V) (e' : PEntry) : Prop :=
 (∃ T, G = H ++ T) ∧ dK G w1 e'.dn ∧ bK G w2 e'.attrs ∧ EntryOk e' ∧ eu ms e = eu (ms.drop i) e'
theorem JO {G H : List Ob} {vs ve z1 z2 : V} {t : PTree} {k : Nat} {x e' : PEntry} {dn : List PRdn} (hG : ∃ T, G = H ++ T) (hs : bg G vs t.schema) (h : bW G ve t.entries) (gt : TreeOk t) (hx : t.entries[k]? = some x) (hk : keyE x = dG dn) (h1 : dK G z1 e'.dn) (h2 : bK G z2 e'.attrs) (he : EntryOk e') :
  ∃ G1 y1 id off T2 w1 w2 cells, callW C 218 [.agg [vs, ve]] G = some (.agg [y1, .slc (some (id, off)) t.entries.length], G1) ∧ (aP y1 = true ∧ cellsOf y1 = some [y1]) ∧
   callW C 188 [.agg [z1, z2]] G1 = some (.agg [w1, w2], G1 ++ T2) ∧ (aP w1 = true ∧ cellsOf w1 = some [w1]) ∧ (aP w2 = true ∧ cellsOf w2 = some [w2]) ∧
   (G1 ++ T2)[id]? = some (.mk true 2 cells) ∧ off + k * 2 + 2 ≤ cells.length ∧ (∀ A B : List Ob, A = G1 → B = G1 ++ T2 → Keep G1.length A B) ∧
   ∃ T', fB H ((G1 ++ T2).set id (.mk true 2 (setRange cells (off + k * 2) [w1, w2]))) (.agg [y1, .slc (some (id, off)) t.entries.length, .slc none 0, .int .i64 0]) = H ++ T' ∧
    TOut H ⟨⟨t.schema, xW t.entries (dG dn) e'⟩, [], 0⟩ (.agg [y1, .slc (some (id, off)) t.entries.length, .slc none 0, .int .i64 0]) (H ++ T') := by
 obtain ⟨T, rfl⟩ := hG
 have hkl := (List.getElem?_eq_some_iff.1 hx).1
 obtain ⟨T1, y1, y2, c1, n1⟩ := UC hs h (TreeOk.small gt)
 obtain ⟨G1, hG1⟩ : ∃ G1, G1 = H ++ T ++ T1 := ⟨_, rfl⟩
 rw [← hG1] at c1 n1
 obtain ⟨F1, F2, f1, f2, m1, m2, hdj, b1, b2⟩ := AL n1
 obtain ⟨_, _, hcs, a1, a2⟩ := pM.1 n1.at
 cases hcs
 obtain ⟨T2, w1, w2, c2, n2⟩ := JG (H := G1) (e := e') (by rw [hG1]; exact h1.ext) (by rw [hG1]; exact h2.ext) (EntryOk.small he)
 have hw := dQ n2.at
 simp only [List.mem_cons, List.not_mem_nil, or_false, forall_eq_or_imp, forall_eq] at hw
 obtain ⟨K, k1, k2, k3⟩ := n2
 have g2 : AtF (G1 ++ T2) (.slice shEntry) [y2] (.lst (t.entries.map PEntry.u)) F2 := f2.ext
 have g1 : AtF (G1 ++ T2) (.slice bz) [y1] (.lst (t.schema.map PClass.u)) F1 := f1.ext
 have l2 := AtF.mem _ f2
 have l1 := AtF.mem _ f1
 obtain ⟨id, off, cells, F', hv, q1, q2, q3, q4, q5, q6⟩ := Bf (f := PEntry.u) g2 m2 hkl k1 k2 (fun q hq hm => by have := l2 q hm; have := (k3 q hq).1; omega)
 have hsz : shEntry.size = 2 := rfl
 rw [hsz] at q1 q2 q4
 subst hv
 have hidF1 : id ∉ F1 := fun hm => hdj id hm q3
 have hHl : H.length ≤ (H ++ T).length := by simp
 have hset : ∃ S, (G1 ++ T2).set id (.mk true 2 (setRange cells (off + k * 2) [w1, w2])) = H ++ S := by
  rw [hG1, List.append_assoc, List.append_assoc]
  exact TI (by have := b2 id q3; omega)
 obtain ⟨S, hS⟩ := hset
 have n3 : New H.length (H ++ S).length (H ++ S) dL [y1, .slc (some (id, off)) t.entries.length] (PTree.u ⟨t.schema, xW t.entries (dG dn) e'⟩) := by
  rw [JB (TreeOk.rise gt) hx hk, ← hS]
  refine CS (t := ⟨t.schema, t.entries.set k e'⟩) (AtF.kill g1 hidF1) q4 m1 q5 (fun q h3 h4 => ?_) (fun q hq => by have := b1 q hq; omega) (fun q hq => ?_)
  ·rcases q6 q h4 with hh | hh
   ·exact hdj q h3 hh
   ·have := l1 q h3; have := (k3 q hh).1; omega
  ·rcases q6 q hq with hh | hh
   ·have := b2 q hh; omega
   ·have := (k3 q hh).1; have : H.length ≤ G1.length := by rw [hG1]; simp
    omega
 obtain ⟨T', q, rfl, hg, hfin⟩ := TOut.new n3
 refine ⟨G1, y1, id, off, T2, w1, w2, cells, c1, a1.one, c2, hw.1, hw.2, q1, by have : (k + 1) * 2 ≤ t.entries.length * 2 := Nat.mul_le_mul_right 2 hkl; omega, fun A B hA hB => ?_, T', by rw [hS]; exact hg, hfin⟩
 subst hA hB
 exact jQ (Nat.le_refl _)
theorem TD {H : List Ob} {vs ve vd vm : V} {t : PTree} {dn : List PRdn} {ms : List PMod} (hs : bg H vs t.schema) (h : bW H ve t.entries) (hd : dK H vd dn) (hm : lq H vm ms) (gt : TreeOk t) (gd : DnOk dn) (gm : jC ms) :
  ∃ q H', callW C 120 [.agg [vs, ve], vd, vm] H = some (q, H') ∧ TOut H (dm t dn ms) q H' := by
 suffices hs : Ret C 120 [.agg [vs, ve], vd, vm] H fun q H' => TOut H (dm t dn ms) q H' by
  obtain ⟨q, H', hc, hr⟩ := hs
  exact ⟨q, H', hc, hr⟩
 rw [Zy]
 have hos := hs.one
 have hoe := h.one
 have hom := hm.one
 have hokd : ∀ x ∈ t.entries, DnOk x.dn := fun x hx => (TreeOk.dns gt x hx).2.1
 have ill : ∀ (G : List Ob) c, callW C 89 [.int .i64 c] G = some (.agg [.slc none 0, .slc none 0, .slc none 0, .int .i64 c], G) := fun G c => Tt
 have hgi : ∀ (G : List Ob) c, (∃ T, G = H ++ T) → fB H G (.agg [.slc none 0, .slc none 0, .slc none 0, .int .i64 c]) = H := fun G c hG => by
  obtain ⟨T, rfl⟩ := hG
  exact jA (by simp [eY, iD])
 have fi : ∀ c, bJ t dn ms = c → c ≠ 0 → TOut H (dm t dn ms) (.agg [.slc none 0, .slc none 0, .slc none 0, .int .i64 c]) H := fun c hc h0 => by
  unfold dm
  rw [if_neg (by rw [hc]; exact h0), hc]
  exact TOut.ill (by rw [← hc]; exact ug)
 have c1 := IY hd gd
 obtain ⟨k0, c2, hk⟩ := VE (vs := vs) (t := dG dn) h hokd hos
 rcases hk.pos with ⟨k, x, hx, rfl, hf⟩ | ⟨rfl, hf⟩
 rotate_left
 ·simp [sS, Tryz.f120, c1, c2, ill, hos, hoe, aH, ax, aW, ay, aJ, af, ai, List.lookup]
  exact fi 6 (by unfold bJ; rw [hf]) (by decide)
 have hmc : bJ t dn ms = if ms.length = 0 ∨ 10 < ms.length then 1 else if ¬ (eu ms x).code = 0 then (eu ms x).code else if dec (fF t.schema (eu ms x).entry) = true then 0 else 12 := by unfold bJ; rw [hf]
 have hxe : keyE x = dG dn := by have := List.find?_some hf; simpa using this
 have hk0 : ¬ (k : Int) < 0 := by omega
 have hkl := (List.getElem?_eq_some_iff.1 hx).1
 by_cases g1 : ms.length = 0 ∨ 10 < ms.length
 ·rw [if_pos g1] at hmc
  have e1 := fi 1 hmc (by decide)
  by_cases g0 : ms.length = 0
  ·have g0' : ms = [] := List.length_eq_zero_iff.1 g0
   subst g0'
   simp [sS, Tryz.f120, c1, c2, hk0, hm.len, ill, hos, hoe, aH, ax, aW, ay, aJ, af, ai, List.lookup]
   exact e1
  ·have g0' : ¬ ms = [] := fun e => g0 (by rw [e]; rfl)
   have g0i : ¬ (ms.length : Int) = 0 := by omega
   have g10 : 10 < ms.length := g1.resolve_left g0
   have g10i : (10 : Int) < ms.length := by omega
   simp [sS, Tryz.f120, c1, c2, hk0, hm.len, g0, g0', g0i, g10, g10i, ill, hos, hoe, aH, ax, aW, ay, aJ, af, ai, List.lookup]
   exact e1
 rw [if_neg g1] at hmc
 have g0 : ¬ ms.length = 0 := fun e => g1 (.inl e)
 have g0' : ¬ ms = [] := fun e => g0 (by rw [e]; rfl)
 have g0i : ¬ (ms.length : Int) = 0 := by omega
 have g10 : ¬ 10 < ms.length := fun e => g1 (.inr e)
 have g10i : ¬ (10 : Int) < ms.length := by omega
 obtain ⟨id, o, v1, v2, e1, l0, l1, lm, a1, a2, _⟩ := dM h hx
 have o1 := a1.one
 have o2 := a2.one
 have hxo := TreeOk.dns gt x (List.mem_of_getElem? hx)
 simp [sS, Tryz.f120, c1, c2, hk0, hkl, hm.len, g0, g0', g0i, g10, g10i, e1, lm, o1, o2, ill, hos, hoe, aH, ax, aW, ay, aJ, af, ai, List.lookup]
 refine aA (fun k' σ => ∃ (i : Nat) (r : Nat → R) (c : Nat) (G : List Ob) (w1 w2 : V) (e' : PEntry), i + k' = ms.length ∧ σ = ⟨r, c, G⟩ ∧ 3 ≤ c ∧ r 2 = .val vm ∧ r 3 = .box 0 [vs, ve] ∧ r 6 = .box 1 [.slc none 0, .slc none 0, .slc none 0, .int .i64 0] ∧ r 7 = .val (.int .i64 k) ∧ r 8 = .box 2 [w1, w2] ∧ r 9 = .val (.int .i64 i) ∧ Ny H G ms x i w1 w2 e') ?_ ms.length _ ⟨0, _, 3, H, v1, v2, x, by simp, rfl, by omega, by simp, by simp, by simp, by simp, by simp, by simp, ⟨[], by simp⟩, a1, a2, hxo, by simp⟩
 rintro k' σ ⟨i, r, c, G, w1, w2, e', hik, rfl, hc, r2, r3, r6, r7, r8, r9, hG, b1, b2, b3, b4⟩
 have oo1 := b1.one
 have oo2 := b2.one
 have hmG : lq G vm ms := by obtain ⟨T, rfl⟩ := hG; exact hm.ext
 have hsG : bg G vs t.schema := by obtain ⟨T, rfl⟩ := hG; exact hs.ext
 have heG : bW G ve t.entries := by obtain ⟨T, rfl⟩ := hG; exact h.ext
 cases k' with
 | zero =>
  obtain rfl : i = ms.length := by omega
  rw [List.drop_length] at b4
  have hmo : eu ms x = ⟨e', 0⟩ := b4
  rw [hmo] at hmc
  simp only [not_true_eq_false, if_false] at hmc
  obtain ⟨r4, d1, d2, d3⟩ := Jp (e := e') hsG b1 b2 b3.1
  by_cases g9 : r4 = 0
  ·subst g9
   have g9' : fF t.schema e' := d2.1 rfl
   rw [au g9', if_pos rfl] at hmc
   have hto : dm t dn ms = ⟨⟨t.schema, xW t.entries (dG dn) e'⟩, [], 0⟩ := by unfold dm; rw [if_pos hmc, hf]; simp only [hmo]
   rw [hto]
   obtain ⟨G1, y1, id', off, T2, z1, z2, cells, f1, f2, f3, f4, f5, f6, f7, f8, T', hg, hfin⟩ := JO (e' := e') hG hsG heG gt hx hxe b1 b2 b3
   have st := xH (o := off + k * 2) (l := [z1, z2]) f6 (by simpa using f7) (by simp) (by simp [f4, f5])
   obtain ⟨N, hN⟩ : ∃ N, N = setRange cells (off + k * 2) [z1, z2] := ⟨_, rfl⟩
   rw [← hN] at st hg
   simp at st
   have hkI : (k : Int) < t.entries.length := by omega
   have hK := f8 _ _ rfl rfl
   simp [r2, r3, r6, r7, r8, r9, hmG.len, oo1, oo2, hos, hoe, d1, f1, f2, f3, f4, f5, st, hkl, hkI, hK, hg, aH, ax, aW, ay, aJ, af, ai, List.lookup]
   exact hfin
  ·have g9' : ¬ fF t.schema e' := fun hh => g9 (d2.2 hh)
   rw [ak g9'] at hmc
   simp only [Bool.false_eq_true, if_false] at hmc
   have d3 := d3.resolve_left g9
   subst d3
   have e12 := fi 12 hmc (by decide)
   have hgc := hgi G 12 hG
   simp [r2, r3, r6, r7, r8, r9, hmG.len, oo1, oo2, hos, hoe, d1, ill, hgc, aH, ax, aW, ay, aJ, af, ai, List.lookup]
   exact e12
 | succ k' =>
  have hi : i < ms.length := by omega
  obtain ⟨m, hmi⟩ : ∃ c, ms[i]? = some c := ⟨ms[i], by simp [hi]⟩
  have hwr : IntKind.i64.wrap ((i : Int) + 1) = ((i : Int) + 1) := wrap_i64 (by omega) (by omega)
  obtain ⟨idm, om, w, hidm, em1, lmm, hn, am⟩ := UT hmG hmi
  have ow := am.one
  have hmk := gm i m hmi
  have hdr : ms.drop i = m :: ms.drop (i + 1) := by
   obtain ⟨_, rfl⟩ := List.getElem?_eq_some_iff.1 hmi
   exact List.drop_eq_getElem_cons hi
  obtain ⟨q, G', c3, T2, z1, z2, rfl, rfl, hat, hgc, hnl, hill⟩ := afw b1 b2 b3 hmk am hn
  obtain ⟨_, _, hcs, d1, d2, hwf⟩ := fU.1 hat
  cases hcs
  have oz1 := d1.one
  have oz2 := d2.one
  have hK : Keep G.length G (G ++ T2) := jQ (Nat.le_refl _)
  rw [hdr, nZ] at b4
  by_cases gc : (fA m e').code = 0
  ·rw [if_pos gc] at b4
   rw [gc] at c3
   have hG2 : ∃ T, G ++ T2 = H ++ T := by obtain ⟨T, rfl⟩ := hG; exact ⟨T ++ T2, List.append_assoc _ _ _⟩
   have nxt : Ny H (G ++ T2) ms x (i + 1) z1 z2 (fA m e').entry := ⟨hG2, d1, d2, Bc b3 hmk gc, b4⟩
   simp [r2, r3, r6, r7, r8, r9, hi, hidm, hmG.len, em1, lmm, ow, oo1, oo2, c3, oz1, oz2, hwr, hK, aH, ax, aW, ay, aJ, af, ai, List.lookup]
   exact ⟨k', by omega, i + 1, by omega, _, _, _, ⟨rfl, rfl, rfl⟩, by omega, by simp [r2], by simp [r3], by simp [r6], by simp [r7], z1, z2, by simp, by simp, _, nxt⟩
  ·rw [if_neg gc] at b4
   obtain ⟨rfl, rfl, rfl⟩ := hill gc
   have hmo : (eu ms x).code = (fA m e').code := by rw [b4]; rfl
   have eC := fi _ (by rw [hmc, if_pos (by rw [hmo]; exact gc), hmo]) gc
   have hgc2 := hgi G (fA m e').code hG
   rw [List.append_nil] at c3 hK
   simp [r2, r3, r6, r7, r8, r9, hi, hidm, hmG.len, em1, lmm, ow, oo1, oo2, c3, oz1, oz2, hwr, hK, gc, ill, hgc2, aH, ax, aW, ay, aJ, af, ai, List.lookup]
   exact eC
theorem Ee {H : List Ob} {vs ve vd vm : V} {t : PTree} {dn : List PRdn} {ms : List PMod} (hs : bg H vs t.schema) (h : bW H ve t.entries) (hd : dK H vd dn) (hm : lq H vm ms) :
  ∃ q H', callW C 50 [.agg [vs, ve], vd, vm] H = some (q, H') ∧ TOut H (bG t dn ms) q H' := by
 suffices hs : Ret C 50 [.agg [vs, ve], vd, vm] H fun q H' => TOut H (bG t dn ms) q H' by
  obtain ⟨q, H', hc, hr⟩ := hs
  exact ⟨q, H', hc, hr⟩
 rw [amE]
 have hos := hs.one
 have hoe := h.one
 have c1 : ∀ c, callW C 89 [.int .i64 c] H = some (.agg [.slc none 0, .slc none 0, .slc none 0, .int .i64 c], H) := fun c => Tt
 have c3 := JE hs h
 have c4 := abY hd
 have c5 := VN hm
 by_cases g1 : 400 < dn.length ∨ 400 < ms.length
 ·have eo : bG t dn ms = xA 2 := if_pos g1
  rw [eo]
  by_cases g2 : 400 < dn.length
  ·have g2' : (400 : Int) < dn.length := by omega
   simp [rE, Tryz.f50, hd.len, hm.len, g2, g2', c1, hos, hoe, aH, ax, aW, ay, aJ, af, ai, List.lookup]
   exact TOut.ill (by decide)
  ·have g2' : ¬ (400 : Int) < dn.length := by omega
   have g3 : 400 < ms.length := g1.resolve_left g2
   have g3' : (400 : Int) < ms.length := by omega
   simp [rE, Tryz.f50, hd.len, hm.len, g2, g2', g3, g3', c1, hos, hoe, aH, ax, aW, ay, aJ, af, ai, List.lookup]
   exact TOut.ill (by decide)
 have g2 : ¬ 400 < dn.length := fun e => g1 (.inl e)
 have g2' : ¬ (400 : Int) < dn.length := by omega
 have g3 : ¬ 400 < ms.length := fun e => g1 (.inr e)
 have g3' : ¬ (400 : Int) < ms.length := by omega
 have e0 : ¬ (TreeOk t ∧ DnOk dn ∧ jC ms) → bG t dn ms = xA 1 := fun hn => by unfold bG; rw [if_neg g1, ak hn]; rfl
 by_cases k1 : TreeOk t
 rotate_left
 ·rw [e0 (fun h => k1 h.1)]
  rw [ak k1] at c3
  simp [rE, Tryz.f50, hd.len, hm.len, g2, g3, g2', g3', c1, c3, hos, hoe, aH, ax, aW, ay, aJ, af, ai, List.lookup]
  exact TOut.ill (by decide)
 rw [au k1] at c3
 by_cases k2 : DnOk dn
 rotate_left
 ·rw [e0 (fun h => k2 h.2.1)]
  rw [ak k2] at c4
  simp [rE, Tryz.f50, hd.len, hm.len, g2, g3, g2', g3', c1, c3, c4, hos, hoe, aH, ax, aW, ay, aJ, af, ai, List.lookup]
  exact TOut.ill (by decide)
 rw [au k2] at c4
 by_cases k3 : jC ms
 rotate_left
 ·rw [e0 (fun h => k3 h.2.2)]
  rw [ak k3] at c5
  simp [rE, Tryz.f50, hd.len, hm.len, g2, g3, g2', g3', c1, c3, c4, c5, hos, hoe, aH, ax, aW, ay, aJ, af, ai, List.lookup]
  exact TOut.ill (by decide)
 rw [au k3] at c5
 obtain ⟨q, H', c7, hT⟩ := TD hs h hd hm k1 k2 k3
 have e : bG t dn ms = dm t dn ms := by unfold bG; rw [if_neg g1, au ⟨k1, k2, k3⟩]; rfl
 rw [e]
 obtain ⟨w1, w2, w3, rfl, o1, o2, o3⟩ := hT.ones
 have hfin := hT.gc
 simp [rE, Tryz.f50, hd.len, hm.len, g2, g3, g2', g3', c3, c4, c5, c7, o1, o2, o3, hos, hoe, aH, ax, aW, ay, aJ, af, ai, List.lookup]
 exact hfin
end Go.Proofs.Try1
end
section
namespace Go.Proofs.Try1
open Go Go.Lite
def EntAt (G G' : List Ob) (ide : Nat) (vd : V) (F : List Nat) (l : List PAttr) : Prop :=
 ∃ va' F', G'[ide]? = some (.mk true 2 [vd, va']) ∧ AtF G' (.slice shAttr) [va'] (.lst (l.map PAttr.u)) F' ∧ F'.Nodup ∧ ide ∉ F' ∧ (∀ q ∈ F', q ∈ F ∨ G.length ≤ q)
def Elsewhere (G G' : List Ob) (ide : Nat) (F : List Nat) : Prop := (∀ q, q < G.length → q ∉ F → q ≠ ide → G'[q]? = G[q]?) ∧ G.length ≤ G'.length
theorem EntAt.gc {G Gn : List Ob} {ide : Nat} {vd va : V} {F : List Nat} {l l' : List PAttr} {c : Int} (he : G[ide]? = some (.mk true 2 [vd, va])) (hA : AtF G (.slice shAttr) [va] (.lst (l.map PAttr.u)) F) (hn : F.Nodup) (hide : ide ∉ F) (h : EntAt G Gn ide vd F l') : EntAt G (fB G Gn (.int .i64 c)) ide vd F l' := by
 unfold fB
 split
 ·rename_i hc
  obtain ⟨⟨T, rfl⟩, _⟩ := hc
  obtain ⟨va', F', r1, r2, r3, r4, r5⟩ := h
  rw [aS _ _ he] at r1
  cases r1
  have := At.one_datum _ (AtF.at _ r2) (At.ext (AtF.at _ hA) (T := T))
  exact ⟨va, F, he, by rw [this]; exact hA, hn, hide, fun q hq => .inl hq⟩
 ·exact h
theorem Elsewhere.gc {G Gn : List Ob} {ide : Nat} {F : List Nat} {c : Int} (h : Elsewhere G Gn ide F) : Elsewhere G (fB G Gn (.int .i64 c)) ide F := by
 unfold fB
 split
 ·exact ⟨fun _ _ _ _ => rfl, Nat.le_refl _⟩
 ·exact h
theorem EntAt.step {G G1 G2 : List Ob} {ide : Nat} {vd : V} {F F' : List Nat} {l' : List PAttr} (hF : ∀ q ∈ F', q ∈ F ∨ G.length ≤ q) (hl : G.length ≤ G1.length) (h : EntAt G1 G2 ide vd F' l') : EntAt G G2 ide vd F l' := by
 obtain ⟨va'', F'', r1, r2, r3, r4, r5⟩ := h
 refine ⟨va'', F'', r1, r2, r3, r4, fun q hq => ?_⟩
 rcases r5 q hq with hh | hh
 ·exact hF q hh
 ·exact .inr (by omega)
theorem Elsewhere.step {G G1 G2 : List Ob} {ide : Nat} {F F' : List Nat} (hF : ∀ q ∈ F', q ∈ F ∨ G.length ≤ q) (h1 : Elsewhere G G1 ide F) (h2 : Elsewhere G1 G2 ide F') : Elsewhere G G2 ide F := by
 obtain ⟨a1, a2⟩ := h1
 obtain ⟨b1, b2⟩ := h2
 refine ⟨fun q h1 h2 h3 => ?_, by omega⟩
 rw [b1 q (by omega) (fun hm => by rcases hF q hm with hh | hh; exact h2 hh; omega) h3]
 exact a1 q h1 h2 h3
theorem WO {G : List Ob} {ide : Nat} {vd va : V} {e : PEntry} {kind : Int} {n v : Str} {F : List Nat} (he : G[ide]? = some (.mk true 2 [vd, va])) (hA : AtF G (.slice shAttr) [va] (.lst (e.attrs.map PAttr.u)) F) (hn : F.Nodup) (hide : ide ∉ F) (hok : EntryOk e) (hnm : n.length ≤ maxLen) (hvm : v.length ≤ maxLen) (hvk : aN v) :
  ∃ G', callW C (if kind = 1 then 212 else 304) [.ptr (some (ide, 0)), .str n, .str v] G = some (.int .i64 (stepOf kind n v e).code, G') ∧ Elsewhere G G' ide F ∧ ((stepOf kind n v e).code ≠ 0 → G' = G) ∧ ((stepOf kind n v e).code = 0 → EntAt G G' ide vd F (stepOf kind n v e).entry.attrs) := by
 have hv : ∀ a ∈ e.attrs, aZ a.vals := fun a ha => by
  obtain ⟨j, hj, rfl⟩ := List.getElem_of_mem ha
  exact (hok.2.2.1 j _ (List.getElem?_eq_getElem hj)).2.2
 unfold stepOf
 by_cases g : kind = 1
 ·rw [if_pos g, if_pos g]
  obtain ⟨code, G', c1, c2, c3, c4⟩ := VI he hA hn hide hok.2.2.2 (EntryOk.rise hok) hnm hvm hvk hv
  rw [← UM (e := e)] at c2
  subst c2
  refine ⟨G', c1, ?_, c3, fun h0 => ?_⟩
  ·by_cases h0 : (jR e n v).code = 0
   ·obtain ⟨_, _, _, _, _, _, _, h6, h7, _⟩ := c4 h0
    exact ⟨h6, h7⟩
   ·rw [c3 h0]; exact ⟨fun _ _ _ _ => rfl, Nat.le_refl _⟩
  ·obtain ⟨va', F', h1, h2, h3, h4, h5, _⟩ := c4 h0
   rw [TY h0]
   exact ⟨va', F', h1, h2, h3, h4, h5⟩
 ·rw [if_neg g, if_neg g]
  obtain ⟨code, G', c1, c2, c3, c4⟩ := WH he hA hn hide hok.2.2.2 (EntryOk.rise hok) hnm hvm hvk hv
  have hc : code = (jH e n v).code := by
   rw [c2]
   unfold jH
   split <;> rfl
  subst hc
  refine ⟨G', c1, ?_, c3, fun h0 => ?_⟩
  ·by_cases h0 : (jH e n v).code = 0
   ·obtain ⟨_, _, _, _, _, _, _, h6, h7, _⟩ := c4 h0
    exact ⟨h6, h7⟩
   ·rw [c3 h0]; exact ⟨fun _ _ _ _ => rfl, Nat.le_refl _⟩
  ·obtain ⟨va', F', h1, h2, h3, h4, h5, _⟩ := c4 h0
   have : (jH e n v).entry.attrs = bC e.attrs n (iR (valsOf e.attrs n) v) := by
    unfold jH at h0 ⊢
    split at h0
    ·rename_i g1; rw [if_pos g1]; rfl
    ·cases h0
   rw [this]
   exact ⟨va', F', h1, h2, h3, h4, h5⟩
theorem UE {G : List Ob} {ide : Nat} {vd va w : V} {e : PEntry} {m : PMod} {F : List Nat} (he : G[ide]? = some (.mk true 2 [vd, va])) (hA : AtF G (.slice shAttr) [va] (.lst (e.attrs.map PAttr.u)) F) (hn : F.Nodup) (hide : ide ∉ F) (hok : EntryOk e) (hm : kE m) (hw : AStrs G w m.vals) (hwF : ∀ q o n, w = .slc (some (q, o)) n → q ∉ F ∧ q ≠ ide) (hnm : m.attr.length ≤ maxLen) :
  ∃ G', callW C 223 [.ptr (some (ide, 0)), .agg [.int .i64 m.kind, .str m.attr, w]] G = some (.int .i64 (fA m e).code, G') ∧ Elsewhere G G' ide F ∧ ((fA m e).code = 0 → EntAt G G' ide vd F (fA m e).entry.attrs) := by
 suffices hs : Ret C 223 [.ptr (some (ide, 0)), .agg [.int .i64 m.kind, .str m.attr, w]] G fun q G' => q = .int .i64 (fA m e).code ∧ Elsewhere G G' ide F ∧ ((fA m e).code = 0 → EntAt G G' ide vd F (fA m e).entry.attrs) by
  obtain ⟨q, G', hc, rfl, hr⟩ := hs
  exact ⟨G', hc, hr⟩
 rw [aek]
 have how := hw.one
 have hidel : ide < G.length := (List.getElem?_eq_some_iff.1 he).1
 have hFl : ∀ q ∈ F, q < G.length := AtF.mem _ hA
 have hmx := hw.max
 have hv4 : m.vals.length ≤ 4 := hm.2.2.1.2
 by_cases g3 : m.kind = 3
 ·have ho : fA m e = jm e m.attr m.vals := if_pos g3
  rw [ho]
  obtain ⟨T, y, c1, ny⟩ := I8 hw (by omega)
  have hoy := New.one1 ny
  obtain ⟨K, hK⟩ : ∃ K, K = G ++ T := ⟨_, rfl⟩
  rw [← hK] at c1 ny
  obtain ⟨Fv, f1, f2, f3⟩ := ny
  rw [Jw (mi.1 hm.2.2.1).2.1] at f1
  have heK : K[ide]? = some (.mk true 2 [vd, va]) := by rw [hK]; exact aS _ _ he
  have hAK : AtF K (.slice shAttr) [va] (.lst (e.attrs.map PAttr.u)) F := by rw [hK]; exact hA.ext
  have hKl : G.length ≤ K.length := by rw [hK]; simp
  obtain ⟨code, G', c2, d1, d2, d3⟩ := O4 (n := m.attr) heK hAK hn hide (by have := hok.2.2.2; omega) (EntryOk.rise hok) hnm f1 f2 (fun q hq => ⟨fun h => by have := hFl q h; have := (f3 q hq).1; omega, by have := (f3 q hq).1; omega⟩)
  have h8 := hok.2.2.2
  have hvz : dw m.vals ≠ [] ↔ m.vals ≠ [] := by
   have := jW m.vals
   constructor
   ·intro h hh; rw [hh] at h; exact h (List.length_eq_zero_iff.1 (by rw [jW]; rfl))
   ·intro h hh; rw [hh] at this; exact h (List.length_eq_zero_iff.1 this.symm)
  have hc : code = (jm e m.attr m.vals).code := by
   rw [d1]
   unfold jm
   by_cases gg : m.vals ≠ [] ∧ 8 ≤ e.attrs.length ∧ bT PAttr.name e.attrs m.attr = none
   ·rw [if_pos ⟨hvz.2 gg.1, by omega, gg.2.2⟩, if_pos gg]; rfl
   ·rw [if_neg (fun hh => gg ⟨hvz.1 hh.1, by omega, hh.2.2⟩), if_neg gg]
  subst hc
  have hgc : ∀ X, fB G X (.int .i64 (jm e m.attr m.vals).code) = fB G X (.int .i64 (jm e m.attr m.vals).code) := fun X => rfl
  have fin : Elsewhere G G' ide F ∧ ((jm e m.attr m.vals).code = 0 → EntAt G G' ide vd F (jm e m.attr m.vals).entry.attrs) := by
   by_cases h0 : (jm e m.attr m.vals).code = 0
   ·obtain ⟨va', F', h1, h2, h3, h4, h5, h6, h7, _⟩ := d3 h0
    refine ⟨⟨fun q q1 q2 q3 => by rw [h6 q (by omega) q2 q3, hK, List.getElem?_append_left q1], by omega⟩, fun _ => ⟨va', F', h1, ?_, h3, h4, fun q hq => ?_⟩⟩
    ·have : (jm e m.attr m.vals).entry.attrs = bC e.attrs m.attr (dw m.vals) := by
      unfold jm at h0 ⊢
      split at h0
      ·cases h0
      ·rename_i gg; rw [if_neg gg]; rfl
     rw [this]; exact h2
    ·rcases h5 q hq with hh | hh | hh
     ·exact .inl hh
     ·exact .inr (f3 q hh).1
     ·exact .inr (by omega)
   ·rw [d2 h0, hK]
    exact ⟨⟨fun q q1 _ _ => List.getElem?_append_left q1, by simp⟩, fun h => absurd h h0⟩
  simp [-dP, y8, Tryz.f223, how, g3, c1, c2, hoy]
  exact ⟨fin.1.gc, fun h0 => (fin.2 h0).gc he hA hn hide⟩
 have ho : fA m e = fC m.kind m.attr m.vals e := if_neg g3
 rw [ho]
 have hvk := (mi.1 hm.2.2.1).1
 simp [-dP, y8, Tryz.f223, how, g3, hw.len]
 refine aA (fun k σ => ∃ (i : Nat) (r : Nat → R) (G' : List Ob) (e' : PEntry), i + k = m.vals.length ∧ σ = ⟨r, 1, G'⟩ ∧ r 0 = .val (.ptr (some (ide, 0))) ∧ r 3 = .box 0 [.int .i64 m.kind, .str m.attr, w] ∧ r 25 = .val w ∧ r 26 = .val (.int .i64 m.vals.length) ∧ r 27 = .val (.int .i64 i) ∧ Elsewhere G G' ide F ∧ EntAt G G' ide vd F e'.attrs ∧ EntryOk e' ∧ fC m.kind m.attr m.vals e = fC m.kind m.attr (m.vals.drop i) e') ?_ m.vals.length _ ⟨0, _, G, e, by simp, rfl, by simp, by simp, by simp, by simp, by simp, ⟨fun _ _ _ _ => rfl, Nat.le_refl _⟩, ⟨va, F, he, hA, hn, hide, fun q hq => .inl hq⟩, hok, by simp⟩
 rintro k σ ⟨i, r, G', e', hik, rfl, r0, r3, r25, r26, r27, hels, hent, b3, b4⟩
 cases k with
 | zero =>
  obtain rfl : i = m.vals.length := by omega
  rw [List.drop_length] at b4
  have hmo : fC m.kind m.attr m.vals e = ⟨e', 0⟩ := b4
  rw [hmo]
  simp [-dP, r0, r3, r25, r26, r27]
  exact ⟨hels.gc, hent.gc he hA hn hide⟩
 | succ k =>
  have hi : i < m.vals.length := by omega
  obtain ⟨x, hx⟩ : ∃ c, m.vals[i]? = some c := ⟨m.vals[i], by simp [hi]⟩
  have hxm := List.mem_of_getElem? hx
  have hwr : IntKind.i64.wrap ((i : Int) + 1) = ((i : Int) + 1) := wrap_i64 (by omega) (by omega)
  have hwG : AStrs G' w m.vals := hw.frame fun q o n hq => by
   have h1 := hwF q o n hq
   exact hels.1 q (AStrs.lt hw q o n hq) h1.1 h1.2
  obtain ⟨id, o, e1, l0, _⟩ := dB hwG hx
  have hdr : m.vals.drop i = x :: m.vals.drop (i + 1) := by
   obtain ⟨_, rfl⟩ := List.getElem?_eq_some_iff.1 hx
   exact List.drop_eq_getElem_cons hi
  obtain ⟨va', F', r1, r2, r3', r4, r5⟩ := hent
  obtain ⟨G2, c1, c2, c3, c4⟩ := WO (kind := m.kind) (n := m.attr) (v := x) r1 r2 r3' r4 b3 hnm (hmx x hxm) (hvk x hxm)
  rw [hdr, lS] at b4
  have hels2 := hels.step r5 c2
  by_cases g0 : (stepOf m.kind m.attr x e').code = 0
  ·rw [if_pos g0] at b4
   rw [g0] at c1
   have hent2 := (c4 g0).step r5 hels.2
   have hok2 := xK b3 hm.2.1 (hvk x hxm) g0
   by_cases gk : m.kind = 1
   ·rw [if_pos gk] at c1
    simp [-dP, r0, r3, r25, r26, r27, gk, hi, e1, l0, c1, hwr]
    exact ⟨k, by omega, i + 1, by omega, _, _, ⟨rfl, rfl⟩, by simp [r0], by simp [r3, gk], by simp [r25], by simp [r26], by simp, hels2, _, hent2, hok2, by rw [← gk]; exact b4⟩
   ·rw [if_neg gk] at c1
    simp [-dP, r0, r3, r25, r26, r27, gk, hi, e1, l0, c1, hwr]
    exact ⟨k, by omega, i + 1, by omega, _, _, ⟨rfl, rfl⟩, by simp [r0], by simp [r3], by simp [r25], by simp [r26], by simp, hels2, _, hent2, hok2, b4⟩
  ·rw [if_neg g0] at b4
   rw [b4]
   have fin : Elsewhere G (fB G G2 (.int .i64 (stepOf m.kind m.attr x e').code)) ide F := hels2.gc
   have hce : ∀ c, (lJ c).code = c := fun c => rfl
   by_cases gk : m.kind = 1
   ·rw [if_pos gk] at c1
    rw [gk] at c1 g0 fin r3
    simp [-dP, r0, r3, r25, r26, r27, gk, hi, e1, l0, c1, g0, hce]
    exact fin
   ·rw [if_neg gk] at c1
    simp [-dP, r0, r3, r25, r26, r27, gk, hi, e1, l0, c1, g0, hce]
    exact fin
end Go.Proofs.Try1
end
section
namespace Go.Proofs.Try1
open Go Go.Lite
attribute [-simp] jd mg
attribute [local simp] jM mY jF jI jD iU
attribute [local simp low] jE
theorem Bg {kind : Int} {n : Str} : ∀ (vs : List Str) (e : PEntry), (fC kind n vs e).code = 0 → (fC kind n vs e).entry.dn = e.dn
 | [], e, _ => rfl
 | v :: vs, e, h0 => by
  rw [lS] at h0 ⊢
  split
  ·rename_i g
   rw [if_pos g] at h0
   rw [Bg vs _ h0]
   unfold stepOf jR jH at g ⊢
   repeat' split
   all_goals first | rfl | (simp_all [lJ])
  ·rename_i g
   rw [if_neg g] at h0
   exact absurd h0 g
theorem QU {m : PMod} {e : PEntry} (h0 : (fA m e).code = 0) : (fA m e).entry.dn = e.dn := by
 unfold fA at h0 ⊢
 split
 ·rename_i g
  rw [if_pos g] at h0
  unfold jm at h0 ⊢
  split
  ·rename_i g2; rw [if_pos g2] at h0; cases h0
  ·rfl
 ·rename_i g
  rw [if_neg g] at h0
  exact Bg _ _ h0
theorem U1 {H : List Ob} {v : V} {l : List PMod} (h : lq H v l) : callW C 222 [v] H = some (.int .i64 l.length, H) := by
 apply Ret.eq
 rw [aiv]
 simp [F8, Tryz.f222, h.len]
theorem Uy {H H' : List Ob} {v : V} {xs : List PMod} (hup : ∀ (q : Nat) o, H[q]? = some o → H'[q]? = some o) (h : lq H v xs) {i : Nat} {x : PMod} (hx : xs[i]? = some x) : ∃ id o w, id < H'.length ∧
  (∀ (e s b : Nat) (z : List V) (ty : Nat → LT) (k : IntKind), (ty e).size = 3 → fQ ⟨.slice e, s, b, z⟩ ty (.val v) (.int k i) = some (.val (.ptr (some (id, o))))) ∧
  (∀ T : LT, T.many 3 → ∀ r c, loadAt T ⟨r, c, H'⟩ (.hp id o) = some (.agg [.int .i64 x.kind, .str x.attr, w])) ∧ x.attr.length ≤ maxLen ∧ AStrs H w x.vals := by
 obtain ⟨id, o, own, cells, e1, e2, e3, e4⟩ := ASl.idx h hx (by decide)
 obtain ⟨w, e4, e5, e6, e7⟩ := Ku.1 e4
 have e2' := hup _ _ e2
 exact ⟨id, o, w, (List.getElem?_eq_some_iff.1 e2').1, e1, nT e2' e3 (by decide) e4, e6, e7⟩
def MdQ (t : PTree) (dn : List PRdn) (ms : List PMod) (G : List Ob) (idt : Nat) (vs ve : V) (F : List Nat) (q : V) (G' : List Ob) : Prop :=
 q = .int .i64 (bJ t dn ms) ∧ (bJ t dn ms ≠ 0 → G' = G) ∧
  (bJ t dn ms = 0 → ∃ F', G'[idt]? = some (.mk true 2 [vs, ve]) ∧ AtF G' (.slice shEntry) [ve] (.lst ((dm t dn ms).tree.entries.map PEntry.u)) F' ∧ F'.Nodup ∧ (∀ q ∈ F', q ∈ F ∨ G.length ≤ q) ∧ (∀ q, q < G.length → q ∉ F → q ≠ idt → G'[q]? = G[q]?) ∧ G.length ≤ G'.length)
theorem MdQ.gc {t : PTree} {dn : List PRdn} {ms : List PMod} {G : List Ob} {idt : Nat} {vs ve : V} {F : List Nat} {G' : List Ob} {c : Int} (ht : G[idt]? = some (.mk true 2 [vs, ve])) (hA : AtF G (.slice shEntry) [ve] (.lst (t.entries.map PEntry.u)) F) (hn : F.Nodup) (h : MdQ t dn ms G idt vs ve F (.int .i64 c) G') : MdQ t dn ms G idt vs ve F (.int .i64 c) (fB G G' (.int .i64 c)) := by
 obtain ⟨h1, h2, h3⟩ := h
 refine ⟨h1, fun h0 => by rw [h2 h0]; exact kK, fun h0 => ?_⟩
 unfold fB
 split
 ·rename_i hc
  obtain ⟨⟨T, rfl⟩, _⟩ := hc
  obtain ⟨F', r1, r2, r3, r4, r5, r6⟩ := h3 h0
  have := At.one_datum _ (AtF.at _ r2) (At.ext (AtF.at _ hA) (T := T))
  exact ⟨F, ht, by rw [this]; exact hA, hn, fun q hq => .inl hq, fun _ _ _ _ => rfl, Nat.le_refl _⟩
 ·exact h3 h0
theorem Tu {G : List Ob} {idt : Nat} {vs ve vd vm : V} {t : PTree} {dn : List PRdn} {ms : List PMod} {F : List Nat} (ht : G[idt]? = some (.mk true 2 [vs, ve])) (hs : bg G vs t.schema) (hA : AtF G (.slice shEntry) [ve] (.lst (t.entries.map PEntry.u)) F) (hn : F.Nodup) (hide : idt ∉ F)
  (hd : dK G vd dn) (hm : lq G vm ms) (gt : TreeOk t) (gd : DnOk dn) (gm : jC ms) :
  ∃ G', callW C 126 [.ptr (some (idt, 0)), vd, vm] G = some (.int .i64 (bJ t dn ms), G') ∧ MdQ t dn ms G idt vs ve F (.int .i64 (bJ t dn ms)) G' := by
 suffices hs : Ret C 126 [.ptr (some (idt, 0)), vd, vm] G fun q G' => MdQ t dn ms G idt vs ve F q G' by
  obtain ⟨q, G', hc, hr⟩ := hs
  have := hr.1
  subst this
  exact ⟨G', hc, hr⟩
 rw [abt]
 have htl : idt < G.length := (List.getElem?_eq_some_iff.1 ht).1
 have he : bW G ve t.entries := AtF.at _ hA
 have hFl : ∀ q ∈ F, q < G.length := AtF.mem _ hA
 have hel : t.entries.length ≤ 20 := gt.2.1.1
 have hok : ∀ x ∈ t.entries, DnOk x.dn := fun x hx => (TreeOk.dns gt x hx).2.1
 have hpw := TreeOk.rise gt
 have l1 := aY (o := 1) (v := ve) ht rfl
 have l0 := aY (o := 0) (v := vs) ht rfl
 obtain ⟨i, ok, c1, hile, hlo, hhi, hok'⟩ := BX ht he (by omega) hok hpw hd gd
 obtain ⟨s1, s2⟩ := Gi hpw hlo hhi hok'
 have fi : ∀ c, bJ t dn ms = c → c ≠ 0 → MdQ t dn ms G idt vs ve F (.int .i64 c) G := fun c hc h0 => by
  unfold MdQ
  rw [hc]
  exact ⟨rfl, fun _ => rfl, fun h => absurd h h0⟩
 cases ok with
 | false =>
  have hf := s1 rfl
  have e6 := fi 6 (by unfold bJ; rw [hf]) (by decide)
  simp [-dP, vK, Tryz.f126, c1, kK]
  exact e6
 | true =>
 obtain ⟨x, hx, hxe, hf⟩ := s2 rfl
 have hmc : bJ t dn ms = if ms.length = 0 ∨ 10 < ms.length then 1 else if ¬ (eu ms x).code = 0 then (eu ms x).code else if dec (fF t.schema (eu ms x).entry) = true then 0 else 12 := by unfold bJ; rw [hf]
 have c2 := U1 hm
 have c3 := Df (n := (ms.length : Int)) (a := 1) (b := 10) (H := G)
 by_cases g1 : ms.length = 0 ∨ 10 < ms.length
 ·rw [if_pos g1] at hmc
  have e1 := fi 1 hmc (by decide)
  rw [ak (by omega)] at c3
  simp [-dP, vK, Tryz.f126, c1, c2, c3, kK]
  exact e1
 rw [if_neg g1] at hmc
 rw [au (by omega)] at c3
 have hil : i < t.entries.length := (List.getElem?_eq_some_iff.1 hx).1
 have hxo := TreeOk.dns gt x (List.mem_of_getElem? hx)
 obtain ⟨id, o, v1, v2, e1, m0, m1, lm, a1, a2, _⟩ := dM he hx
 have o1 := a1.one
 have o2 := a2.one
 obtain ⟨T1, y1, y2, c4, n1⟩ := I7 a1 a2 (EntryOk.small hxo)
 obtain ⟨B, hB⟩ : ∃ B, B = G ++ T1 := ⟨_, rfl⟩
 rw [← hB] at c4 n1
 have hBl : G.length ≤ B.length := by rw [hB]; simp
 obtain ⟨_, _, hcy, b1, b2⟩ := iw.1 n1.at
 cases hcy
 have p1 := b1.one
 have p2 := b2.one
 obtain ⟨Fd, Fa, fa1, fa2, fn, fb⟩ : ∃ F1 F2, AtF B (.slice shRdn) [y1] (.lst (x.dn.map PRdn.u)) F1 ∧ AtF B (.slice shAttr) [y2] (.lst (x.attrs.map PAttr.u)) F2 ∧ (F1 ++ F2).Nodup ∧ (∀ q ∈ F1 ++ F2, G.length ≤ q ∧ q < B.length) := by
  obtain ⟨Fx, f1, f2, f3⟩ := n1
  obtain ⟨us, hus, f4⟩ := eQ.1 f1
  cases hus
  obtain ⟨c1', c2', u1, us1, F1, F2, hcs, hu, rfl, f5, f6⟩ := aC.1 f4
  cases hu
  obtain ⟨c3', c4', u2, us2, F3, F4, rfl, hu, rfl, f7, f8⟩ := aC.1 f6
  cases hu
  obtain ⟨rfl, _, rfl⟩ := dC.1 f8
  obtain ⟨x1, _, rfl, _⟩ := aF.1 f5
  obtain ⟨x2, _, rfl, _⟩ := aF.1 f7
  simp only [List.append_nil, List.cons_append, List.nil_append, List.cons.injEq, and_true] at hcs
  obtain ⟨rfl, rfl⟩ := hcs
  rw [List.append_nil] at f2 f3
  exact ⟨F1, F3, f5, f7, f2, f3⟩
 obtain ⟨fnd, fna, fnx⟩ := List.nodup_append.1 fn
 have hdis : ∀ q ∈ Fd, q ∉ Fa := fun q h1 h2 => fnx q h1 q h2 rfl
 have hFd : ∀ q ∈ Fd, G.length ≤ q ∧ q < B.length := fun q hq => fb q (List.mem_append_left _ hq)
 have hFa : ∀ q ∈ Fa, G.length ≤ q ∧ q < B.length := fun q hq => fb q (List.mem_append_right _ hq)
 obtain ⟨K, hK⟩ : ∃ K, K = B ++ [.mk true 2 [y1, y2]] := ⟨_, rfl⟩
 have hKl : K.length = B.length + 1 := by rw [hK]; simp
 have st1 := xH (H := B ++ [.mk true 2 [.slc none 0, .slc none 0]]) (o := 0) (l := [y1, y2]) get_last (by simp) (by simp) (by simp [p1, p2])
 simp [setRange] at st1
 have hKe : K[B.length]? = some (.mk true 2 [y1, y2]) := by rw [hK]; exact get_last
 have fd1 : AtF K (.slice shRdn) [y1] (.lst (x.dn.map PRdn.u)) Fd := by rw [hK]; exact fa1.ext
 have fd2 : AtF K (.slice shAttr) [y2] (.lst (x.attrs.map PAttr.u)) Fa := by rw [hK]; exact fa2.ext
 have hBF : B.length ∉ Fa := fun h => by have := (hFa _ h).2; omega
 have hKG : ∀ q, q < G.length → K[q]? = G[q]? := fun q hq => by rw [hK, hB, List.append_assoc, List.getElem?_append_left hq]
 have hgK : ∀ (X : List Ob) (c : Int), (∀ q, q < G.length → X[q]? = G[q]?) → G.length ≤ X.length → fB G X (.int .i64 c) = G := fun X c h1 h2 => by
  obtain ⟨S, rfl⟩ := rJ h1 h2
  exact dP
 have hiI : (i : Int) < t.entries.length := by omega
 simp [-dP, vK, Tryz.f126, c1, c2, c3, htl, l1, hil, e1, lm, o1, o2, c4, p1, p2, st1, ← hK, hm.len, he.one, aH, ax, aW, ay, aJ, aV, St.new, af, ai, List.lookup]
 refine aA (fun k σ => ∃ (j : Nat) (r : Nat → R) (c : Nat) (Gc : List Ob) (e' : PEntry), j + k = ms.length ∧ σ = ⟨r, c, Gc⟩ ∧ r 0 = .val (.ptr (some (idt, 0))) ∧ r 7 = .val (.int .i64 i) ∧ r 9 = .val (.ptr (some (B.length, 0))) ∧ r 35 = .val vm ∧ r 36 = .val (.int .i64 ms.length) ∧ r 37 = .val (.int .i64 j) ∧ Elsewhere K Gc B.length Fa ∧ EntAt K Gc B.length y1 Fa e'.attrs ∧ EntryOk e' ∧ e'.dn = x.dn ∧ eu ms x = eu (ms.drop j) e') ?_ ms.length _ ⟨0, _, 0, K, x, by simp, rfl, by simp, by simp, by simp, by simp, by simp, by simp, ⟨fun _ _ _ _ => rfl, Nat.le_refl _⟩, ⟨y2, Fa, hKe, fd2, fna, hBF, fun q hq => .inl hq⟩, hxo, rfl, by simp⟩
 rintro k σ ⟨j, r, c, Gc, e', hjk, rfl, r0, r7, r9, r35, r36, r37, hels, hent, b3, bdn, b4⟩
 have hGc : ∀ q, q < G.length → Gc[q]? = G[q]? := fun q hq => by
  rw [hels.1 q (by omega) (fun h => by have := (hFa q h).1; omega) (by omega)]
  exact hKG q hq
 have hGcl : G.length ≤ Gc.length := by have := hels.2; omega
 have hup : ∀ (q : Nat) o, G[q]? = some o → Gc[q]? = some o := fun q o h => by rw [hGc q (List.getElem?_eq_some_iff.1 h).1]; exact h
 have hmG : lq Gc vm ms := hm.up hup
 cases k with
 | zero =>
  obtain rfl : j = ms.length := by omega
  rw [List.drop_length] at b4
  have hmo : eu ms x = ⟨e', 0⟩ := b4
  rw [hmo] at hmc
  simp only [not_true_eq_false, if_false] at hmc
  obtain ⟨va', F', r1, r2, r3, r4, r5⟩ := hent
  have hF' : ∀ q ∈ F', G.length ≤ q := fun q hq => by
   rcases r5 q hq with hh | hh
   ·exact (hFa q hh).1
   ·omega
  have hdF : ∀ q ∈ Fd, q ∉ F' := fun q h1 h2 => by
   rcases r5 q h2 with hh | hh
   ·exact hdis q h1 hh
   ·have := (hFd q h1).2; omega
  have fdG : AtF Gc (.slice shRdn) [y1] (.lst (e'.dn.map PRdn.u)) Fd := by
   rw [bdn]
   exact fd1.frame _ fun q hq => hels.1 q (by have := (hFd q hq).2; omega) (hdis q hq) (by have := (hFd q hq).2; omega)
  have htG : Gc[idt]? = some (.mk true 2 [vs, ve]) := hup _ _ ht
  have hsG : bg Gc vs t.schema := hs.up hup
  have L0 := aY (o := 0) (v := vs) htG rfl
  have L1 := aY (o := 1) (v := ve) htG rfl
  have htlc : idt < Gc.length := by omega
  have c5 := QD (e := e') r1 hsG (AtF.at _ fdG) (AtF.at _ r2) gt.1 b3
  by_cases g9 : fF t.schema e'
  ·rw [au g9] at c5
   rw [au g9, if_pos rfl] at hmc
   have hto : (dm t dn ms).tree.entries = t.entries.set i e' := by
    unfold dm
    rw [if_pos hmc, hf]
    simp only [hmo]
    exact JB hpw hx hxe
   have hAc : AtF Gc (.slice shEntry) [ve] (.lst (t.entries.map PEntry.u)) F := AtF.frame _ (fun q hq => hGc q (hFl q hq)) hA
   obtain ⟨ida, off, cells, F2, hv, q1, q2, q3, q4, q5, q6⟩ := Bf (f := PEntry.u) hAc hn hil (LZ fdG r2) (List.nodup_append.2 ⟨fnd, r3, fun a h1 b h2 e => hdF a h1 (e ▸ h2)⟩) (fun q hq hm' => by
    have := hFl q hm'
    rcases List.mem_append.1 hq with hh | hh
    ·have := (hFd q hh).1; omega
    ·have := hF' q hh; omega)
   have hsz : shEntry.size = 2 := rfl
   rw [hsz] at q1 q2 q4
   have oA := (AtF.at _ r2 : At Gc (.slice shAttr) [va'] _)
   have oz : aP va' = true ∧ cellsOf va' = some [va'] := ASl.one (f := PAttr.u) (l := e'.attrs) oA
   have lN := nT (o := 0) (n := 2) r1 (by simp) (by decide) rfl
   simp at lN
   have st := xH (o := off + i * 2) (l := [y1, va']) q1 (by have : (i + 1) * 2 ≤ t.entries.length * 2 := Nat.mul_le_mul_right 2 hil; simp; omega) (by simp) (by simp [p1, oz])
   simp only [List.length_cons, List.length_nil, Nat.reduceAdd] at st
   have hne : idt ≠ ida := fun e => hide (by rw [e]; exact q3)
   have fin0 : MdQ t dn ms G idt vs ve F (.int .i64 0) (Gc.set ida (.mk true 2 (setRange cells (off + i * 2) [y1, va']))) := by
    unfold MdQ
    rw [hmc, hto]
    refine ⟨rfl, fun h => absurd rfl h, fun _ => ⟨F2, by rw [List.getElem?_set_ne (fun e => hne e.symm)]; exact htG, q4, q5, fun q hq => ?_, fun q h1 h2 h3 => ?_, by simp; omega⟩⟩
    ·rcases q6 q hq with hh | hh
     ·exact .inl hh
     ·rcases List.mem_append.1 hh with hh | hh
      ·exact .inr (hFd q hh).1
      ·exact .inr (hF' q hh)
    ·rw [List.getElem?_set_ne (fun e => h2 (by rw [← e]; exact q3))]
     exact hGc q h1
   have fin := MdQ.gc ht hA hn fin0
   obtain ⟨N, hN⟩ : ∃ N, N = setRange cells (off + i * 2) [y1, va'] := ⟨_, rfl⟩
   rw [← hN] at st fin
   have hoe := he.one
   subst hv
   simp [-dP, r0, r7, r9, r35, r36, r37, htlc, L0, L1, c5, lN, p1, oz, hoe, hil, hiI, st, hs.one, aH, ax, aW, ay, aJ, aV, St.new, af, ai, List.lookup]
   exact fin
  ·rw [ak g9] at c5 hmc
   simp only [Bool.false_eq_true, if_false] at hmc
   have e12 := fi 12 hmc (by decide)
   have hgc := hgK Gc 12 hGc hGcl
   simp [-dP, r0, r7, r9, r35, r36, r37, htlc, L0, L1, c5, hs.one, hgc, aH, ax, aW, ay, aJ, aV, St.new, af, ai, List.lookup]
   exact e12
 | succ k =>
  have hj : j < ms.length := by omega
  obtain ⟨m, hmi⟩ : ∃ c, ms[j]? = some c := ⟨ms[j], by simp [hj]⟩
  have hwr : IntKind.i64.wrap ((j : Int) + 1) = ((j : Int) + 1) := wrap_i64 (by omega) (by omega)
  obtain ⟨idm, om, w, hidm, em1, lmm, hnm, am0⟩ := Uy hup hm hmi
  have am : AStrs Gc w m.vals := am0.up hup
  have ow := am.one
  have hmk := gm j m hmi
  have hdr : ms.drop j = m :: ms.drop (j + 1) := by
   obtain ⟨_, rfl⟩ := List.getElem?_eq_some_iff.1 hmi
   exact List.drop_eq_getElem_cons hj
  obtain ⟨va', F', r1, r2, r3, r4, r5⟩ := hent
  have hwl := AStrs.lt am0
  obtain ⟨G2, c5, d1, d2⟩ := UE r1 r2 r3 r4 b3 hmk am (fun q o n hq => ⟨fun h => by
   have := hwl q o n hq
   rcases r5 q h with hh | hh
   ·have := (hFa q hh).1; omega
   ·omega, by have := hwl q o n hq; omega⟩) hnm
  rw [hdr, nZ] at b4
  have hels2 := hels.step r5 d1
  by_cases gc : (fA m e').code = 0
  ·rw [if_pos gc] at b4
   rw [gc] at c5
   have hent2 := (d2 gc).step r5 hels.2
   have hok2 := Bc b3 hmk gc
   have hdn2 : (fA m e').entry.dn = x.dn := by rw [QU gc, bdn]
   simp [-dP, r0, r7, r9, r35, r36, r37, hj, hidm, hmG.len, em1, lmm, ow, c5, hwr, aH, ax, aW, ay, aJ, aV, St.new, af, ai, List.lookup]
   exact ⟨k, by omega, j + 1, by omega, _, _, _, ⟨rfl, rfl, rfl⟩, by simp [r0], by simp [r7], by simp [r9], by simp [r35], by simp [r36], by simp, hels2, _, hent2, hok2, hdn2, b4⟩
  ·rw [if_neg gc] at b4
   have hmo : (eu ms x).code = (fA m e').code := by rw [b4]; rfl
   have eC := fi _ (by rw [hmc, if_pos (by rw [hmo]; exact gc), hmo]) gc
   have hgc := hgK G2 (fA m e').code (fun q hq => by rw [hels2.1 q (by omega) (fun h => by have := (hFa q h).1; omega) (by omega)]; exact hKG q hq) (by have := hels2.2; omega)
   simp [-dP, r0, r7, r9, r35, r36, r37, hj, hidm, hmG.len, em1, lmm, ow, c5, hwr, gc, hgc, aH, ax, aW, ay, aJ, aV, St.new, af, ai, List.lookup]
   exact eC
end Go.Proofs.Try1
end
section
namespace Go.Proofs.Try1
open Go Go.Lite

theorem DnOk.one {r : PRdn} : DnOk [r] ↔ (aQ r.attr ∧ aN r.value) :=
 ⟨fun h => h.1 0 r rfl, fun h => ⟨fun j x hx => by
  cases j with
  | zero => cases hx; exact h
  | succ j => simp at hx, by simp⟩⟩
theorem U2 {H : List Ob} {v : V} {l : List PMod} (h : lq H v l) : callW C 122 [v] H = some (.bool (decide (400 < l.length)), H) := by
 apply Ret.eq
 rw [agY]
 by_cases g : 400 < l.length
 ·have g' : (400 : Int) < l.length := by omega
  simp [yT, Tryz.f122, h.len, g, g']
 ·have g' : ¬ (400 : Int) < l.length := by omega
  simp [yT, Tryz.f122, h.len, g, g']
theorem modifyOf_code {t : PTree} {dn : List PRdn} {ms : List PMod} : (dm t dn ms).code = bJ t dn ms := by
 unfold dm
 split
 ·rename_i h; rw [h]
 ·rfl
theorem GI {t : PTree} {dn : List PRdn} {ms : List PMod} (h : (dm t dn ms).code ≠ 0) : dm t dn ms = xA (dm t dn ms).code := by
 rw [modifyOf_code] at h ⊢
 unfold dm
 rw [if_neg h]
theorem Ud {G : List Ob} {idt idd idm : Nat} {vd vm : V} (hd : G[idd]? = some (.mk true 1 [vd])) (hm : G[idm]? = some (.mk true 1 [vm])) (ho : aP vd = true ∧ cellsOf vd = some [vd]) (ho2 : aP vm = true ∧ cellsOf vm = some [vm]) {code : Int} {G' X : List Ob}
  (hc : callW C 126 [.ptr (some (idt, 0)), vd, vm] G = some (.int .i64 code, G')) (hgc : fB G G' (.int .i64 code) = X) :
  callW C 125 [.ptr (some (idt, 0)), .ptr (some (idd, 0)), .ptr (some (idm, 0))] G = some (.int .i64 code, X) := by
 suffices hs : Ret C 125 [.ptr (some (idt, 0)), .ptr (some (idd, 0)), .ptr (some (idm, 0))] G fun r H' => r = .int .i64 code ∧ H' = X by
  obtain ⟨r, H', h, rfl, rfl⟩ := hs
  exact h
 rw [aa1]
 have l1 := aY (o := 0) (v := vd) hd rfl
 have l3 := aY (o := 0) (v := vm) hm rfl
 simp [-dP, FD, Tryz.f125, l1, l3, ho, ho2, hc, hgc]
theorem Tv {H : List Ob} {idt idm : Nat} {vs ve vm : V} {t : PTree} {ms : List PMod} (ht : H[idt]? = some (.mk true 2 [vs, ve])) (hi : H[idm]? = some (.mk true 1 [vm])) (hs : bg H vs t.schema) (h : bW H ve t.entries) (hm : lq H vm ms) (hl : ∀ m ∈ ms, m.vals.length ≤ 1048576) :
  callW C 123 [.ptr (some (idt, 0)), .ptr (some (idm, 0))] H = some (.bool (dec (TreeOk t ∧ jC ms)), H) := by
 apply Ret.dec
 rw [aar]
 have l1 := nT (o := 0) (n := 2) ht (by simp) (by decide) rfl
 have l2 := aY (o := 0) (v := vm) hi rfl
 simp at l1
 have c1 := Jn hs h
 have c2 := O0 hm hl
 have hos := hs.one
 have hoe := h.one
 have hom := hm.one
 by_cases g1 : TreeOk t
 ·rw [au g1] at c1
  by_cases g2 : jC ms
  ·rw [au g2] at c2
   simp [wU, Tryz.f123, l1, l2, c1, c2, hos, hoe, hom, au (P := TreeOk t ∧ jC ms) ⟨g1, g2⟩]
   exact ⟨g1, g2⟩
  ·rw [ak g2] at c2
   simp [wU, Tryz.f123, l1, l2, c1, c2, hos, hoe, hom]
   exact fun _ hh => g2 hh
 ·rw [ak g1] at c1
  simp [wU, Tryz.f123, l1, l2, c1, hos, hoe, hom]
  exact fun hh => absurd hh g1
theorem EE {H : List Ob} {vs ve vd vm : V} {t : PTree} {dn : List PRdn} {ms : List PMod} (hs : bg H vs t.schema) (h : bW H ve t.entries) (hd : dK H vd dn) (hm : lq H vm ms) (hl : ∀ m ∈ ms, m.vals.length ≤ 1048576) :
  ∃ q H', callW C 52 [.agg [vs, ve], vd, vm] H = some (q, H') ∧ TOut H (bG t dn ms) q H' := by
 suffices hs : Ret C 52 [.agg [vs, ve], vd, vm] H fun q H' => TOut H (bG t dn ms) q H' by
  obtain ⟨q, H', hc, hr⟩ := hs
  exact ⟨q, H', hc, hr⟩
 rw [apc]
 have hos := hs.one
 have hoe := h.one
 have hod := hd.one
 have hom := hm.one
 have hil : ∀ (X : List Ob) c, fB H (H ++ X) (.agg [.slc none 0, .slc none 0, .slc none 0, .int .i64 c]) = H := fun X c => jA (by simp [eY, iD])
 obtain ⟨Y0, hY0⟩ : ∃ Y, Y = H ++ [.mk true 2 [vs, ve]] := ⟨_, rfl⟩
 obtain ⟨Y1, hY1⟩ : ∃ Y, Y = Y0 ++ [.mk true 1 [vd]] := ⟨_, rfl⟩
 obtain ⟨Y2, hY2⟩ : ∃ Y, Y = Y1 ++ [.mk true 1 [vm]] := ⟨_, rfl⟩
 obtain ⟨K, hK⟩ : ∃ K, K = Y2 ++ [.mk true 1 [vd]] := ⟨_, rfl⟩
 have l0 : Y0.length = H.length + 1 := by rw [hY0]; simp
 have l1 : Y1.length = H.length + 2 := by rw [hY1]; simp [l0]
 have l2 : Y2.length = H.length + 3 := by rw [hY2]; simp [l1]
 have hYt : Y0[H.length]? = some (.mk true 2 [vs, ve]) := by rw [hY0]; exact get_last
 have hYd : Y1[Y0.length]? = some (.mk true 1 [vd]) := by rw [hY1]; exact get_last
 have hYm : Y2[Y1.length]? = some (.mk true 1 [vm]) := by rw [hY2]; exact get_last
 have hKz : K[Y2.length]? = some (.mk true 1 [vd]) := by rw [hK]; exact get_last
 have u2 : ∀ {q : Nat} {o}, Y2[q]? = some o → K[q]? = some o := fun {q o} hq => by rw [hK]; exact aS _ _ hq
 have u1 : ∀ {q : Nat} {o}, Y1[q]? = some o → Y2[q]? = some o := fun {q o} hq => by rw [hY2]; exact aS _ _ hq
 have u0 : ∀ {q : Nat} {o}, Y0[q]? = some o → Y1[q]? = some o := fun {q o} hq => by rw [hY1]; exact aS _ _ hq
 have hKt := u2 (u1 (u0 hYt))
 have hKd := u2 (u1 hYd)
 have hKm := u2 hYm
 have hS2 : Y2 = H ++ ([.mk true 2 [vs, ve]] ++ [.mk true 1 [vd]] ++ [.mk true 1 [vm]]) := by rw [hY2, hY1, hY0]; simp
 obtain ⟨S, hS⟩ : ∃ S, K = H ++ S := ⟨_, by rw [hK, hS2, List.append_assoc]⟩
 have hsK : bg K vs t.schema := by rw [hS]; exact hs.ext
 have hK2 : bW K ve t.entries := by rw [hS]; exact h.ext
 have hdK : dK K vd dn := by rw [hS]; exact hd.ext
 have hmK : lq K vm ms := by rw [hS]; exact hm.ext
 have hmY : lq Y2 vm ms := by rw [hS2]; exact hm.ext
 have c0 := U2 hmY
 have lm2 := aY (o := 0) (v := vm) hYm rfl
 have ld2 := aY (o := 0) (v := vd) (u1 hYd) rfl
 have ldN := nT (o := 0) (n := 2) hKt (by simp) (by decide) rfl
 simp at ldN
 have hgK : ∀ c, fB H K (.agg [.slc none 0, .slc none 0, .slc none 0, .int .i64 c]) = H := fun c => by rw [hS]; exact hil _ _
 have hgY : ∀ c, fB H Y2 (.agg [.slc none 0, .slc none 0, .slc none 0, .int .i64 c]) = H := fun c => by rw [hS2]; exact hil _ _
 have cR := Tv hKt hKm hsK hK2 hmK hl
 have c1 := J3 (g := 123) (b := [.ptr (some (H.length, 0)), .ptr (some (Y1.length, 0))]) hKz hdK cR
 by_cases gm0 : 400 < ms.length
 ·have e : bG t dn ms = xA 2 := if_pos (.inr gm0)
  rw [e]
  simp [gm0] at c0
  simp [xR, Tryz.f52, hos, hoe, hod, hom, aV, aH, ax, St.new, aW, ay, aJ, ← hY0, ← hY1, ← hY2, ← hK, ← l0, ← l1, ← l2, lm2, c0, gm0, hgY]
  exact TOut.ill (by decide)
 simp [gm0] at c0
 by_cases g1 : 400 < dn.length
 ·have e : bG t dn ms = xA 2 := if_pos (.inl g1)
  rw [if_pos g1] at c1
  rw [e]
  simp [xR, Tryz.f52, hos, hoe, hod, hom, aV, aH, ax, St.new, aW, ay, aJ, ← hY0, ← hY1, ← hY2, ← hK, ← l0, ← l1, ← l2, lm2, ld2, c0, c1, gm0, hgK]
  exact TOut.ill (by decide)
 rw [if_neg g1] at c1
 have gg : ¬ (400 < dn.length ∨ 400 < ms.length) := fun hh => hh.elim g1 gm0
 by_cases g2 : TreeOk t ∧ DnOk dn ∧ jC ms
 rotate_left
 ·have e : bG t dn ms = xA 1 := by unfold bG; rw [if_neg gg, ak g2]; rfl
  have g2' : ¬ (dec (DnOk dn) = true ∧ dec (TreeOk t ∧ jC ms) = true) := fun h => g2 ⟨(dS.1 h.2).1, dS.1 h.1, (dS.1 h.2).2⟩
  rw [if_neg g2'] at c1
  rw [e]
  simp [xR, Tryz.f52, hos, hoe, hod, hom, aV, aH, ax, St.new, aW, ay, aJ, ← hY0, ← hY1, ← hY2, ← hK, ← l0, ← l1, ← l2, lm2, ld2, c0, c1, gm0, hgK]
  exact TOut.ill (by decide)
 obtain ⟨gt, gd, gm⟩ := g2
 rw [if_pos ⟨au gd, au ⟨gt, gm⟩⟩] at c1
 have e : bG t dn ms = dm t dn ms := by unfold bG; rw [if_neg gg, au ⟨gt, gd, gm⟩]; rfl
 rw [e]
 obtain ⟨q, H', c6, hq⟩ := BL (H := K) (g := 125) (b := [.ptr (some (Y0.length, 0)), .ptr (some (Y1.length, 0))]) (o := dm t dn ms) hsK hK2 (TreeOk.small gt) GI (by rw [modifyOf_code]; exact ug) (fun M d a ⟨R, hR⟩ hnew => by
  obtain ⟨F1, F2, f1, f2, n1, n2, hdj, b1, b2⟩ := AL hnew
  obtain ⟨G, hG⟩ : ∃ G, G = M ++ [.mk true 2 [d, a]] := ⟨_, rfl⟩
  have hMl : K.length ≤ M.length := by rw [hR]; simp
  have hGl : G.length = M.length + 1 := by rw [hG]; simp
  have hGt : G[M.length]? = some (.mk true 2 [d, a]) := by rw [hG]; exact get_last
  have g2 : AtF G (.slice shEntry) [a] (.lst (t.entries.map PEntry.u)) F2 := by rw [hG]; exact f2.ext
  have g1 : AtF G (.slice bz) [d] (.lst (t.schema.map PClass.u)) F1 := by rw [hG]; exact f1.ext
  have m2 := AtF.mem _ f2
  have m1 := AtF.mem _ f1
  have hGK : G = K ++ (R ++ [.mk true 2 [d, a]]) := by rw [hG, hR, List.append_assoc]
  have uG : ∀ {q : Nat} {o}, K[q]? = some o → G[q]? = some o := fun {q o} hq => by rw [hGK]; exact aS _ _ hq
  obtain ⟨G1, k1, k0⟩ := Tu hGt (AtF.at _ g1) g2 n2 (fun hm => by have := m2 _ hm; omega) (by rw [hGK]; exact hdK.ext) (by rw [hGK]; exact hmK.ext) gt gd gm
  obtain ⟨G', hG'⟩ : ∃ X, X = fB G G1 (.int .i64 (bJ t dn ms)) := ⟨_, rfl⟩
  have hq := MdQ.gc hGt g2 n2 k0
  rw [← hG'] at hq
  obtain ⟨_, k2, k3⟩ := hq
  rw [← hG]
  refine ⟨bJ t dn ms, G', Ud (uG hKd) (uG hKm) hod hom k1 hG'.symm, ?_⟩
  by_cases g0 : bJ t dn ms = 0
  ·obtain ⟨F', p1, p3, p4, p5, p6, p7⟩ := k3 g0
   refine ⟨modifyOf_code.symm, fun q hq => ?_, p7, fun _ => ?_⟩
   ·exact p6 q (by omega) (fun hm => by have := b2 q hm; omega) (by omega)
   ·have ed : dm t dn ms = ⟨⟨t.schema, (dm t dn ms).tree.entries⟩, [], 0⟩ := by unfold dm; rw [if_pos g0]
    refine ⟨by rw [ed], d, a, p1, ?_⟩
    rw [ed]
    refine CS (t := ⟨t.schema, (dm t dn ms).tree.entries⟩) (F1 := F1) (F2 := F') (AtF.frame _ (fun q hq => p6 q (by have := m1 q hq; omega) (hdj q hq) (by have := m1 q hq; omega)) g1) p3 n1 p4 (fun q h1 h2 => ?_) (fun q hq => b1 q hq) (fun q hq => ?_)
    ·have := m1 q h1
     rcases p5 q h2 with hh | hh
     ·exact hdj q h1 hh
     ·omega
    ·rcases p5 q hq with hh | hh
     ·exact b2 q hh
     ·omega
  ·have := k2 g0
   rw [this]
   exact ⟨modifyOf_code.symm, fun _ _ => rfl, Nat.le_refl _, fun hh => absurd hh g0⟩)
 obtain ⟨w1, w2, w3, rfl, o1, o2, o3⟩ := hq.ones
 have hfin := TOut.base (by rw [← hS]; exact hq : TOut (H ++ S) _ _ _)
 simp [xR, Tryz.f52, hos, hoe, hod, hom, o1, o2, o3, aV, aH, ax, St.new, aW, ay, aJ, ← hY0, ← hY1, ← hY2, ← hK, ← l0, ← l1, ← l2, lm2, ld2, ldN, c0, c1, c6, gm0]
 exact hfin
theorem SK (x : PRdn) : dE x.u ≤ 2 := by simp [PRdn.u, dE, aT]
theorem Og {a : PAttr} (h : a.vals.length ≤ 4) : dE a.u ≤ 5 := by
 have := jU (f := jl) (l := a.vals) (k := 1) fun x _ => by simp [jl, dE]
 simp only [PAttr.u, dE, aT]
 omega
theorem Kw {e : PEntry} (h : EntryOk e) : dE e.u ≤ 52 := by
 obtain ⟨_, hd, ha⟩ := h
 have h1 := jU (l := e.dn) fun x _ => SK x
 have h2 : aT (e.attrs.map PAttr.u) ≤ e.attrs.length * 5 := jU fun a h => by
  obtain ⟨j, hj, rfl⟩ := List.getElem_of_mem h
  exact Og (ha.1 j _ (List.getElem?_eq_getElem hj)).2.2.2.2
 have := hd.2
 have := ha.2
 simp only [PEntry.u, dE, aT]
 omega
theorem JJ {c : PClass} (h : ClassOk c) : dE c.u ≤ 31 := by
 have h1 := jU (f := jl) (l := c.must) (k := 1) fun x _ => by simp [jl, dE]
 have h2 := jU (f := jl) (l := c.may) (k := 1) fun x _ => by simp [jl, dE]
 have h3 := jU (f := jl) (l := c.single) (k := 1) fun x _ => by simp [jl, dE]
 have := h.l1
 have := h.l2
 have := h.l3
 simp only [PClass.u, dE, aT]
 omega
theorem zC (c : Int) : dF (xA c).u ≤ 1000000 := by simp [xA, PTreeOut.u, PTree.u, dF, rG, aT]
theorem Ho {s : List PClass} {es : List PEntry} (hs : fE s) (he : ∀ e ∈ es, EntryOk e) (hl : es.length ≤ 100) : dF (PTreeOut.u ⟨⟨s, es⟩, [], 0⟩) ≤ 1000000 := by
 have h1 : aT (s.map PClass.u) ≤ s.length * 31 := jU fun c hc => by
  obtain ⟨j, hj, rfl⟩ := List.getElem_of_mem hc
  exact JJ (hs.1 j _ (List.getElem?_eq_getElem hj)).1
 have h2 : aT (es.map PEntry.u) ≤ es.length * 52 := jU fun e h => Kw (he e h)
 have := hs.2
 simp only [PTreeOut.u, PTree.u, dF, rG, List.map_nil, aT]
 omega
theorem zS {t : PTree} {dn : List PRdn} {ms : List PMod} : dF (bG t dn ms).u ≤ 1000000 := by
 unfold bG
 split
 ·exact zC 2
 split
 case isFalse => exact zC 1
 rename_i hok
 obtain ⟨gt, gd, gm⟩ := dS.1 hok
 unfold dm
 split
 case isFalse => exact zC _
 rename_i h0
 cases hf : bT keyE t.entries (dG dn) with
 | none => unfold bJ at h0; rw [hf] at h0; cases h0
 | some x =>
  have hx : x ∈ t.entries := List.mem_of_find?_eq_some hf
  unfold bJ at h0
  rw [hf] at h0
  simp only at h0
  split at h0
  ·cases h0
  split at h0
  ·rename_i hh; exact absurd h0 hh
  rename_i hc
  have hc := Classical.not_not.1 hc
  have hm := Dc ms x (TreeOk.dns gt x hx) (fun m hm => by
   obtain ⟨j, hj, rfl⟩ := List.getElem_of_mem hm
   exact gm j _ (List.getElem?_eq_getElem hj)) hc
  refine Ho gt.1 (fun y hy => ?_) ?_
  ·unfold xW at hy
   obtain ⟨z, hz, rfl⟩ := List.mem_map.1 hy
   split
   ·exact hm
   ·exact TreeOk.dns gt z hz
  ·have := gt.2.1.1
   unfold xW
   simp only [List.length_map]
   omega
theorem JQ {ms : List PMod} (h : wt (.lst (ms.map PMod.u)) ≤ 1048576) : ∀ m ∈ ms, m.vals.length ≤ 1048576 := fun m hm => by
 obtain ⟨j, hj, rfl⟩ := List.getElem_of_mem hm
 have h1 := Gy (l := ms.map PMod.u) (i := j) (u := (ms[j]).u) (by rw [List.getElem?_map, List.getElem?_eq_getElem hj]; rfl)
 have h2 : wt (ms[j]).u = (ms[j]).attr.length + ((ms[j]).vals.length + kU ((ms[j]).vals.map jl)) := by
  simp [PMod.u, wt, kU]
 simp only [wt] at h
 omega
theorem lawTreeModify {H : List Ob} {vs : List V} {xs : List D} (h : IsArgs H [dL, .slice shRdn, .slice iJ] vs xs) : ∃ H', callW C 8 vs H = some (.bool true, H') := by
 rcases vs with _ | ⟨v1, _ | ⟨v2, _ | ⟨v3, _ | ⟨v4, vs⟩⟩⟩⟩ <;> rcases xs with _ | ⟨d1, _ | ⟨d2, _ | ⟨d3, _ | ⟨d4, xs⟩⟩⟩⟩ <;> first | (exfalso; simp [IsArgs] at h; done) | skip
 obtain ⟨⟨cs1, e1, l1, i1⟩, ⟨cs2, e2, l2, i2⟩, ⟨cs3, e3, l3, i3⟩, _⟩ := h
 subst e1; subst e2; subst e3
 have h1 := Is.at _ i1
 obtain ⟨t, he⟩ := uu h1
 rw [he] at h1
 have h2 := Is.at _ i2
 obtain ⟨v, l, rfl, hl, _⟩ := ASl.typed (f := PRdn.u) (fun _ _ => Ce) h2
 rw [hl] at h2
 have h3 := Is.at _ i3
 obtain ⟨v', ms, rfl, hm, _⟩ := ASl.typed (f := PMod.u) (fun _ _ => OI) h3
 rw [hm] at h3
 have key := qM (uR := (bG t l ms).u) h1 h2 h3
  (fun _ _ hw G x0 x1 x2 a0 a1 a2 => by
   obtain ⟨w1, w2, rfl, b1, b2⟩ := pM.1 a0
   obtain ⟨y, rfl⟩ := mV (At.len _ a1 : _ = 1)
   obtain ⟨y', rfl⟩ := mV (At.len _ a2 : _ = 1)
   obtain ⟨q, G', hc, T, y1, y2, y3, rfl, rfl, hn⟩ := Ee (dn := l) (ms := ms) b1 b2 a1 a2
   exact ⟨_, [y1, y2, y3, .int .i64 (bG t l ms).code], hc, .app, hn.at⟩)
  (fun _ _ hw G x0 x1 x2 a0 a1 a2 => by
   obtain ⟨w1, w2, rfl, b1, b2⟩ := pM.1 a0
   obtain ⟨y, rfl⟩ := mV (At.len _ a1 : _ = 1)
   obtain ⟨y', rfl⟩ := mV (At.len _ a2 : _ = 1)
   obtain ⟨q, G', hc, T, y1, y2, y3, rfl, rfl, hn⟩ := EE (dn := l) (ms := ms) b1 b2 a1 a2 (JQ hw)
   exact ⟨_, [y1, y2, y3, .int .i64 (bG t l ms).code], hc, .app, hn⟩)
  (by have := zS (t := t) (dn := l) (ms := ms); omega)
 obtain ⟨r, H', hc, rfl⟩ := key
 exact ⟨H', hc⟩
end Go.Proofs.Try1
end
section
namespace Go.Lite
open Go
variable [Draws]
theorem VL.one {μ : Mu} {v : V} {us : Array Value} (h : VL μ [v] us.toList) : ∃ u, us = #[u] ∧ VR μ v u := by
 have hl := h.length
 match us, hl, h with
 | ⟨[u]⟩, _, h => exact ⟨u, rfl, h.get 0 v u rfl rfl⟩
theorem VL.two {μ : Mu} {v v' : V} {us : Array Value} (h : VL μ [v, v'] us.toList) : ∃ u u', us = #[u, u'] ∧ VR μ v u ∧ VR μ v' u' := by
 have hl := h.length
 match us, hl, h with
 | ⟨[u, u']⟩, _, h => exact ⟨u, u', rfl, h.get 0 v u rfl rfl, h.get 1 v' u' rfl rfl⟩
theorem J5 {P : Program} {g : FuncId} {fn : Func} (hf : P.funcs[g]? = some fn) (hname : (fn.name == "runtime.NumGoroutine") = false) (hb : fn.body.isNone = true) (hn : Extern.findNext fn = none) (he : Extern.find fn = some Extern.BytealgCompare.compare) : kS P g qF := by
 intro args H r H' h μ w us hs hv
 unfold qF at h
 split at h
 ·rename_i a b
  cases h
  obtain ⟨u, u', rfl, h1, h2⟩ := hv.two
  obtain ⟨x, rfl, rfl⟩ := h1.str_inv
  obtain ⟨y, rfl, rfl⟩ := h2.str_inv
  refine .inl ⟨.int .i64 (Lib.compareBytes x.data.toList y.data.toList), w, ?_, μ, .refl hs, .int _ _⟩
  rw [run_callFunc_extern hf hname hb hn he, Lib.run_compareString]
  rfl
 ·cases h
theorem Jz {P : Program} {g : FuncId} : kS P g Jk := by
 intro args H r H' h
 cases h
theorem uO : ∀ {cs : List V} {l : List (List UInt8)}, strsOf cs = some l → cs = l.map V.str
 | [], l, h => by cases h; rfl
 | c :: cs, l, h => by
  unfold strsOf at h
  split at h
  ·rename_i he; cases he
  ·rename_i s vs he
   cases he
   split at h
   ·rename_i l' hl
    cases h
    rw [List.map_cons, ← uO hl]
   ·cases h
  ·cases h
theorem zA {cells l : List V} {o n : Nat} (h : (cells.drop o).take n = l) {j : Nat} (hj : j < n) : cells[o + j]? = l[j]? := by
 subst h
 rw [List.getElem?_take_of_lt hj, List.getElem?_drop]
theorem HGoes.garbage {H : List Ob} {μ : Mu} {w : World} (h : HSim H μ w) (n : Nat) (os : Array Obj) : HGoes H μ w H μ (Sort.grow (Sort.ahead w n) os) := by
 have hsame : ∀ b, b < w.heap.size → (Sort.grow (Sort.ahead w n) os).heap[b]? = w.heap[b]? := fun b hb => by
  show (w.heap ++ os)[b]? = _
  rw [Array.getElem?_append_left hb]
 have hsz : w.heap.size ≤ (Sort.grow (Sort.ahead w n) os).heap.size := by
  show _ ≤ (w.heap ++ os).size
  rw [Array.size_append]; omega
 exact ⟨h.world (fun id o m h1 h2 h3 => .of_heap (hsame _ (lU h id o m h1 h2 h3))) hsz, μ.le_refl, ⟨hsz, fun b hb _ => hsame b hb, fun b hb => .inl hb, rfl, rfl, rfl, fun _ => Nat.le_add_right _ _⟩, Lives.refl _ _ _⟩
theorem uY {w : World} {blk off : Nat} {d d' : Array (List UInt8)} (h0 : Sort.Holds Go.Proofs.encStr w blk off d) (hs : d'.size = d.size) : Wrote w (Sort.putRow Go.Proofs.encStr w blk off d') blk off (d'.toList.map Go.Proofs.encStr) where
 size := by simp
 os := rfl
 tape := rfl
 drawn := rfl
 output := rfl
 other b' hb := by
  show (w.heap.modify blk _)[b']? = _
  rw [Array.getElem?_modify, if_neg (fun e => hb e.symm)]
 cell j := by
  rw [List.length_map, Array.length_toList]
  split
  ·rename_i hj
   have := Sort.cell?_putRow Go.Proofs.encStr w blk off d d' h0 hs (j - off) (by omega)
   rw [show off + (j - off) = j by omega] at this
   rw [this, List.getElem?_map, Array.getElem?_toList, Array.getElem?_eq_getElem (by omega), getElem!_pos d' (j - off) (by omega)]
   rfl
  ·rename_i hj
   exact Sort.cell?_putRow_other Go.Proofs.encStr w blk off d' ⟨blk, j, none⟩ (by simp only; omega)
 frozen j := by simp
theorem JD {P : Program} {g : FuncId} (hcall : ∀ us w, (callFunc g us).run P w = .ok (.enter g us) w)
  (hsort : ∀ (blk off cap : Nat) (zs : List (List UInt8)) (w : World), Sort.Holds Go.Proofs.encStr w blk off zs.toArray → blk < w.heap.size → zs.length < 4611686018427387904 → Calls P g #[.slice (some ⟨blk, off, none⟩) zs.length cap] w fun e w' =>
   e = .returned (.tuple #[]) ∧ ∃ n os, w' = Sort.grow (Sort.putRow Go.Proofs.encStr (Sort.ahead w n) blk off (zs.mergeSort fun x y => decide (x ≤ y)).toArray) os)
  (hnone : ∀ (p : Option Addr) (cap : Nat) (w : World), Calls P g #[.slice p 0 cap] w fun e w' => e = .returned (.tuple #[]) ∧ w' = w) : kS P g kZ := by
 intro args H r H' h μ w us hs hv
 have htup : ∀ μ : Mu, VR μ (.tup []) (.tuple #[]) := fun μ => VR.tup [] #[] rfl (fun i v u h _ => by simp at h)
 unfold kZ at h
 split at h
 case h_2 => cases h
 rename_i p n
 obtain ⟨u, rfl, hu⟩ := hv.one
 refine .inr ⟨hcall _ _, ?_⟩
 split at h
 ·rename_i hn
  subst hn
  cases h
  have : ∃ q c, u = .slice q 0 c := by
   cases p with
   | none => obtain ⟨rfl, _⟩ := hu.slcN_inv; exact ⟨_, _, rfl⟩
   | some p =>
    obtain ⟨id, off⟩ := p
    obtain ⟨m, _, ⟨c, _, _, _, rfl⟩ | ⟨_, _, a, rfl⟩⟩ := hu.slc_inv <;> exact ⟨_, _, rfl⟩
  obtain ⟨q, c, rfl⟩ := this
  refine (hnone q c w).mono ?_
  rintro e w' ⟨rfl, rfl⟩
  exact ⟨_, rfl, μ, .refl hs, htup μ⟩
 ·rename_i hn
  split at h
  case h_2 => cases h
  rename_i id off
  split at h
  case h_2 => cases h
  rename_i es cells ho
  split at h
  case isFalse => cases h
  rename_i hc
  obtain ⟨rfl, hlen, hmax⟩ := hc
  split at h
  case h_2 => cases h
  rename_i ss hss
  cases h
  have hcs := uO hss
  have hssl : ss.length = n := by
   have := congrArg List.length hcs
   simp at this
   omega
  obtain ⟨m, hm, ⟨c, hc1, hc2, hc3, rfl⟩ | ⟨h0, _⟩⟩ := hu.slc_inv
  rotate_left
  ·exact absurd h0 hn
  obtain ⟨g1, g2, g3, g4, g5, g6⟩ := hs.obj id _ m ho hm
  obtain ⟨g6, g7⟩ := g6 rfl
  have hget : ∀ j, j < ss.length → cells[off + j]? = some (.str ss[j]!) := fun j hj => by
   rw [zA hcs (show j < n by omega), List.getElem?_map, List.getElem?_eq_getElem hj]
   simp [hj]
  have hH : Sort.Holds Go.Proofs.encStr w m.blk (m.base + off) ss.toArray := fun j hj => by
   simp only [List.size_toArray] at hj
   obtain ⟨u, hu1, hu2⟩ := g4 (off + j) _ (hget j hj)
   obtain ⟨b, rfl, hb⟩ := hu2.str_inv
   have hbe : Value.string b = Go.Proofs.encStr ss[j]! := by
    show _ = Value.string ⟨ss[j]!.toArray⟩
    rw [hb]
   refine ⟨?_, ?_⟩
   ·rw [Nat.add_assoc, hu1, hbe]
    congr 2
    simp [hj]
   ·exact (g7 (m.base + off + j) (by omega) (by omega)).2
  have hsort' := hsort m.blk (m.base + off) c ss w hH g5 (by omega)
  rw [hssl] at hsort'
  refine hsort'.mono ?_
  rintro e w' ⟨rfl, k, os, rfl⟩
  refine ⟨_, rfl, μ, ?_, htup μ⟩
  have hlen2 : (ss.mergeSort fun x y => decide (x ≤ y)).length = ss.length := List.length_mergeSort ss
  have hwr := uY (d' := (ss.mergeSort fun x y => decide (x ≤ y)).toArray) hH (by simp [hlen2])
  have hvl : VL μ ((ss.mergeSort fun x y => decide (x ≤ y)).map V.str) (((ss.mergeSort fun x y => decide (x ≤ y)).toArray).toList.map Go.Proofs.encStr) := by
   refine VL.of_get (by simp) fun i v u h1 h2 => ?_
   simp only [List.getElem?_map] at h1 h2
   cases hx : (ss.mergeSort fun x y => decide (x ≤ y))[i]? with
   | none => rw [hx] at h1; cases h1
   | some s =>
    rw [hx] at h1 h2
    cases h1
    cases h2
    exact VR.str ⟨s.toArray⟩
  have hgo := HGoes.write hs ho hm hwr hvl (by rw [List.length_map, hlen2]; omega)
  rw [Sort.putRow_ahead]
  exact hgo.trans (HGoes.garbage hgo.sim k os)
end Go.Lite
end
section
namespace Go.Proofs.Try1
open Go Go.Lite
theorem yc {L : List Nat} {n : Nat} {P : Program} {f : FuncId} {args : Array Value} {w : World} {R : Ending → World → Prop} (h : ∀ D, CallsIn (Fence.list L (some D)) n P f args w R) : Calls P f args w R := fun cs =>
 let ⟨e, w', fr, r, s, x⟩ := (h (cs.length + 1 + n)).2 cs (fun d hd => by cases hd; omega)
 ⟨e, w', fr, r, s.comes, x⟩
theorem PU [Draws] : kS Tryz.prog 382 qF :=
 J5 Tryz.func382 (by kernel_rfl) (by kernel_rfl) rfl rfl
theorem enters {g : Nat} {fn : Func} (h1 : Tryz.prog.funcs[g]? = some fn) (h2 : (fn.name == "runtime.NumGoroutine") = false) (h3 : fn.body.isNone = false) (us : Array Value) (w : World) : (callFunc g us).run Tryz.prog w = .ok (.enter g us) w := by
 simp [callFunc, h1, (by simpa using h2 : ¬ fn.name = "runtime.NumGoroutine")]
 intro hb
 rw [hb] at h3
 cases h3
end Go.Proofs.Try1
end
section
namespace Go.Proofs.Try0
open Go Go.Lite
def locTab : List (Nat × List Nat) := [(170, [3, 5])]
def ordTab : List (Nat × List (Nat × Hint)) := [(170, [(4, ⟨[0, 1, 2, 3, 4, 5, 6, 7, 8, 9, 10], [], [], [(0, 3), (2, 5), (6, 5), (10, 3)], [], []⟩)])]
def fids : List Nat := [77, 184, 207, 211, 238, 250, 289, 290, 313, 324, 338, 349, 359]
noncomputable def primTab : Nat → Option (List V → List Ob → Option (V × List Ob)) := fun f => if f = 382 then some qF else none
noncomputable def tabs : Tabs := { locs := fun f => (locTab.lookup f).getD [], ord := fun f id => ((ordTab.lookup f).getD []).lookup id, prim := primTab, fids := fids }
theorem mixed : Tryz.prog.follows .mixedOrders = true := rfl
theorem ok : Qj Tryz.prog tabs = true := by decide +kernel
noncomputable def C : Ctx := ctxOf Tryz.prog tabs
@[simp] theorem ty3 : C.ty 3 = ⟨.int .i64, 1, 8, [.int .i64 0]⟩ := by kernel_rfl
@[simp] theorem ty4 : C.ty 4 = ⟨.bool, 1, 1, [.bool false]⟩ := by kernel_rfl
@[simp] theorem ty5 : C.ty 5 = ⟨.int .u8, 1, 1, [.int .u8 0]⟩ := by kernel_rfl
@[simp] theorem ty9 : C.ty 9 = ⟨.str, 1, 16, [.str []]⟩ := by kernel_rfl
@[simp] theorem Wl : C.ty 35 = ⟨.slice 102, 1, 24, [.slc none 0]⟩ := by kernel_rfl
@[simp] theorem IR : C.ty 102 = ⟨.struct [(0, 9), (1, 9)], 2, 32, [.str [], .str []]⟩ := by kernel_rfl
@[simp] theorem Zr : C.ty 242 = ⟨.slice 5, 1, 24, [.slc none 0]⟩ := by kernel_rfl
noncomputable def nz : Code := match Tryz.f77.body with | some c => c | none => .skip
theorem VW : C.fids 77 = true := by kernel_rfl
theorem VV : Tryz.f77.body = some nz := rfl
theorem VM : C.prim 77 = none := rfl
theorem V8 : C.funcs 77 = some Tryz.f77 := Tryz.func77
theorem V4 {a : List V} {H : List Ob} {R : V → List Ob → Prop} : Ret C 77 a H R ↔ WP C 77 nz ⟨ae a, 0, H⟩ (aB C Tryz.f77 H R) := ah VM VW V8 VV
@[simp] theorem WC : C.locs 77 = [] := by kernel_rfl
noncomputable def ja : Code := match Tryz.f184.body with | some c => c | none => .skip
theorem SA : C.fids 184 = true := by kernel_rfl
theorem TG : Tryz.f184.body = some ja := rfl
theorem RG : C.prim 184 = none := rfl
theorem QQ : C.funcs 184 = some Tryz.f184 := Tryz.func184
theorem QN {a : List V} {H : List Ob} {R : V → List Ob → Prop} : Ret C 184 a H R ↔ WP C 184 ja ⟨ae a, 0, H⟩ (aB C Tryz.f184 H R) := ah RG SA QQ TG
@[simp] theorem UA : C.locs 184 = [] := by kernel_rfl
noncomputable def jc : Code := match Tryz.f207.body with | some c => c | none => .skip
theorem SS : C.fids 207 = true := by kernel_rfl
theorem Pz : Tryz.f207.body = some jc := rfl
theorem Qw : C.prim 207 = none := rfl
theorem SY : C.funcs 207 = some Tryz.f207 := Tryz.func207
theorem RI {a : List V} {H : List Ob} {R : V → List Ob → Prop} : Ret C 207 a H R ↔ WP C 207 jc ⟨ae a, 0, H⟩ (aB C Tryz.f207 H R) := ah Qw SS SY Pz
@[simp] theorem U9 : C.locs 207 = [] := by kernel_rfl
noncomputable def kJ : Code := match Tryz.f211.body with | some c => c | none => .skip
theorem PY : C.fids 211 = true := by kernel_rfl
theorem Qp : Tryz.f211.body = some kJ := rfl
theorem QS : C.prim 211 = none := rfl
theorem Qd : C.funcs 211 = some Tryz.f211 := Tryz.func211
theorem QZ {a : List V} {H : List Ob} {R : V → List Ob → Prop} : Ret C 211 a H R ↔ WP C 211 kJ ⟨ae a, 0, H⟩ (aB C Tryz.f211 H R) := ah QS PY Qd Qp
@[simp] theorem Vd : C.locs 211 = [] := by kernel_rfl
noncomputable def pY : Code := match Tryz.f238.body with | some c => c | none => .skip
theorem SH : C.fids 238 = true := by kernel_rfl
theorem RS : Tryz.f238.body = some pY := rfl
theorem QP : C.prim 238 = none := rfl
theorem Rx : C.funcs 238 = some Tryz.f238 := Tryz.func238
theorem PX {a : List V} {H : List Ob} {R : V → List Ob → Prop} : Ret C 238 a H R ↔ WP C 238 pY ⟨ae a, 0, H⟩ (aB C Tryz.f238 H R) := ah QP SH Rx RS
@[simp] theorem TV : C.locs 238 = [] := by kernel_rfl
noncomputable def kw : Code := match Tryz.f250.body with | some c => c | none => .skip
theorem PK : C.fids 250 = true := by kernel_rfl
theorem QK : Tryz.f250.body = some kw := rfl
theorem Tq : C.prim 250 = none := rfl
theorem Qb : C.funcs 250 = some Tryz.f250 := Tryz.func250
theorem PP {a : List V} {H : List Ob} {R : V → List Ob → Prop} : Ret C 250 a H R ↔ WP C 250 kw ⟨ae a, 0, H⟩ (aB C Tryz.f250 H R) := ah Tq PK Qb QK
@[simp] theorem Va : C.locs 250 = [] := by kernel_rfl
noncomputable def pG : Code := match Tryz.f289.body with | some c => c | none => .skip
theorem RN : C.fids 289 = true := by kernel_rfl
theorem PZ : Tryz.f289.body = some pG := rfl
theorem SI : C.prim 289 = none := rfl
theorem Sj : C.funcs 289 = some Tryz.f289 := Tryz.func289
theorem Rh {a : List V} {H : List Ob} {R : V → List Ob → Prop} : Ret C 289 a H R ↔ WP C 289 pG ⟨ae a, 0, H⟩ (aB C Tryz.f289 H R) := ah SI RN Sj PZ
@[simp] theorem UZ : C.locs 289 = [] := by kernel_rfl
noncomputable def qg : Code := match Tryz.f290.body with | some c => c | none => .skip
theorem PI : C.fids 290 = true := by kernel_rfl
theorem QF : Tryz.f290.body = some qg := rfl
theorem PE : C.prim 290 = none := rfl
theorem Sv : C.funcs 290 = some Tryz.f290 := Tryz.func290
theorem QG {a : List V} {H : List Ob} {R : V → List Ob → Prop} : Ret C 290 a H R ↔ WP C 290 qg ⟨ae a, 0, H⟩ (aB C Tryz.f290 H R) := ah PE PI Sv QF
@[simp] theorem Uo : C.locs 290 = [] := by kernel_rfl
noncomputable def qC : Code := match Tryz.f313.body with | some c => c | none => .skip
theorem SC : C.fids 313 = true := by kernel_rfl
theorem RP : Tryz.f313.body = some qC := rfl
theorem QV : C.prim 313 = none := rfl
theorem Qk : C.funcs 313 = some Tryz.f313 := Tryz.func313
theorem Ql {a : List V} {H : List Ob} {R : V → List Ob → Prop} : Ret C 313 a H R ↔ WP C 313 qC ⟨ae a, 0, H⟩ (aB C Tryz.f313 H R) := ah QV SC Qk RP
@[simp] theorem UO : C.locs 313 = [] := by kernel_rfl
noncomputable def pJ : Code := match Tryz.f324.body with | some c => c | none => .skip
theorem Qs : C.fids 324 = true := by kernel_rfl
theorem Ry : Tryz.f324.body = some pJ := rfl
theorem SL : C.prim 324 = none := rfl
theorem Sm : C.funcs 324 = some Tryz.f324 := Tryz.func324
theorem QA {a : List V} {H : List Ob} {R : V → List Ob → Prop} : Ret C 324 a H R ↔ WP C 324 pJ ⟨ae a, 0, H⟩ (aB C Tryz.f324 H R) := ah SL Qs Sm Ry
@[simp] theorem UK : C.locs 324 = [] := by kernel_rfl
noncomputable def lY : Code := match Tryz.f338.body with | some c => c | none => .skip
theorem Ru : C.fids 338 = true := by kernel_rfl
theorem PG : Tryz.f338.body = some lY := rfl
theorem Rn : C.prim 338 = none := rfl
theorem Q4 : C.funcs 338 = some Tryz.f338 := Tryz.func338
theorem Tc {a : List V} {H : List Ob} {R : V → List Ob → Prop} : Ret C 338 a H R ↔ WP C 338 lY ⟨ae a, 0, H⟩ (aB C Tryz.f338 H R) := ah Rn Ru Q4 PG
@[simp] theorem UQ : C.locs 338 = [] := by kernel_rfl
noncomputable def qJ : Code := match Tryz.f349.body with | some c => c | none => .skip
theorem PW : C.fids 349 = true := by kernel_rfl
theorem RZ : Tryz.f349.body = some qJ := rfl
theorem RU : C.prim 349 = none := rfl
theorem QX : C.funcs 349 = some Tryz.f349 := Tryz.func349
theorem QL {a : List V} {H : List Ob} {R : V → List Ob → Prop} : Ret C 349 a H R ↔ WP C 349 qJ ⟨ae a, 0, H⟩ (aB C Tryz.f349 H R) := ah RU PW QX RZ
@[simp] theorem TP : C.locs 349 = [] := by kernel_rfl
noncomputable def kH : Code := match Tryz.f359.body with | some c => c | none => .skip
theorem Rf : C.fids 359 = true := by kernel_rfl
theorem PD : Tryz.f359.body = some kH := rfl
theorem Qr : C.prim 359 = none := rfl
theorem QH : C.funcs 359 = some Tryz.f359 := Tryz.func359
theorem SE {a : List V} {H : List Ob} {R : V → List Ob → Prop} : Ret C 359 a H R ↔ WP C 359 kH ⟨ae a, 0, H⟩ (aB C Tryz.f359 H R) := ah Qr Rf QH PD
@[simp] theorem Ue : C.locs 359 = [] := by kernel_rfl
noncomputable def MQ : Code := match Tryz.f170.body with | some c => c | none => .skip
@[simp] theorem aiP : C.locs 170 = [3, 5] := by kernel_rfl
@[simp] theorem adL : C.ord 170 4 = some ⟨[0, 1, 2, 3, 4, 5, 6, 7, 8, 9, 10], [], [], [(0, 3), (2, 5), (6, 5), (10, 3)], [], []⟩ := by kernel_rfl
end Go.Proofs.Try0
end
