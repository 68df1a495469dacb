/- Part 17 of the proof of a law: the interpreter, its soundness, and what functions of the program compute over it. Conditions: none but those that each theorem names. -/
import Derived.Test.YtipjjjlomghdfaaGreatDoorU16
import Derived.Test.YtipjjjlomghdfaaGreatDoorU15
import Derived.Test.YtipjjjlomghdfaaGreatDoorU05
import Derived.Laws.Externs
import Derived.CallsIn
import Derived.Sort.EncStr
import Derived.Sort.Grow
import Derived.Test.YtipjjjlomghdfaaGreatDoorU07
import Derived.WalkKit
import Derived.Test.YtipjjjlomghdfaaGreatDoorU06
import Derived.Test.YtipjjjlomghdfaaGreatDoorProg
import Derived.KernelRfl
import Derived.RangeFuncNested
import Derived.RangeFuncBound
import Derived.RangeFuncCalls
import Derived.RangeFuncLeaves
import Derived.Shelf.Abstract
import Derived.Shelf.RegionOpen
import Derived.OwnWalkIn
import Derived.TacticsInMore
import Derived.LoopNIn
import Derived.LoopIn
import Derived.Shelf.SlGeneric
import Derived.Shelf.SlLaysF
import Derived.Shelf.Slices.In.SortAlone
import Derived.Ground.SlsfProg
import Derived.Ground.NamesProg
import Derived.Shelf.Slices.In.SortNone

set_option linter.all false
set_option maxRecDepth 20000
set_option maxHeartbeats 40000000
section
namespace Go.Proofs.Try1
open Go Go.Lite
theorem jR {H : List Ob} {vl : V} {n : Int} {l : List PChange} (h : AChanges H vl l) (hb : dX l) :
  ∃ T w, callW C 166 [.agg [.int .i64 n, vl]] H = some (.agg [.int .i64 n, w], H ++ T) ∧ LstF H (H ++ T) shChange PChange.u w l ∧ ¬ lowV H w := by
 suffices hs : Ret C 166 [.agg [.int .i64 n, vl]] H fun q H' => ∃ T w, q = .agg [.int .i64 n, w] ∧ H' = H ++ T ∧ LstF H (H ++ T) shChange PChange.u w l ∧ ¬ lowV H w by
  obtain ⟨q, H', hc, T, w, rfl, rfl, hr⟩ := hs
  exact ⟨T, w, hc, hr⟩
 rw [IW]
 have ol := h.one
 obtain ⟨T1, w, c1, n1, nl⟩ := zS h hb
 have ow := n1.one
 have hg : gcH H (H ++ T1) (.agg [.int .i64 n, w]) = H ++ T1 := gcH_not fun h => nl (by simpa [lowV, lowVs] using h)
 simp [ru, Tryz.f166, ol, ow, c1, fillL, zerosL, buildV, structPlace, hg, regionL_none, regionL_some, List.lookup]
 exact ⟨n1, nl⟩
theorem vG {H : List Ob} {vs ve va vl : V} {s : PServer} (hs : AClasses H vs s.tree.schema) (he : AEntries H ve s.tree.entries) (ha : ARules H va s.acl) (hl : AChanges H vl s.list) (hn : (Lit.int .i64 s.next).wf = true) (hw : s.who.length ≤ maxLen) (hb : ja s) :
  ∃ T ws we wa wl, callW C 81 [.agg [vs, ve, va, .int .i64 s.next, vl, .str s.who]] H = some (.agg [ws, we, wa, .int .i64 s.next, wl, .str s.who], H ++ T) ∧ New H.length (H ++ T).length (H ++ T) shServer [ws, we, wa, .int .i64 s.next, wl, .str s.who] s.u := by
 suffices hs : Ret C 81 [.agg [vs, ve, va, .int .i64 s.next, vl, .str s.who]] H fun q H' => ∃ T ws we wa wl, q = .agg [ws, we, wa, .int .i64 s.next, wl, .str s.who] ∧ H' = H ++ T ∧ New H.length (H ++ T).length (H ++ T) shServer [ws, we, wa, .int .i64 s.next, wl, .str s.who] s.u by
  obtain ⟨q, H', hc, T, ws, we, wa, wl, rfl, rfl, hr⟩ := hs
  exact ⟨T, ws, we, wa, wl, hc, hr⟩
 rw [O3]
 have o1 := hs.one
 have o2 := he.one
 have o3 := ha.one
 have o4 := hl.one
 obtain ⟨T1, ws, we, c1, n1, _⟩ := uT hs he hb.1
 obtain ⟨A, hA⟩ : ∃ A, A = H ++ T1 := ⟨_, rfl⟩
 rw [← hA] at n1 c1
 obtain ⟨T2, wa, c2, n2, _⟩ := uU (H := A) (by rw [hA]; exact ha.ext) hb.2.1
 obtain ⟨B, hB⟩ : ∃ B, B = A ++ T2 := ⟨_, rfl⟩
 rw [← hB] at n2 c2
 obtain ⟨T3, wl, c3, n3, _⟩ := jR (H := B) (n := s.next) (by rw [hB, hA]; exact hl.ext.ext) hb.2.2
 have n3 := n3.new hl.bound
 obtain ⟨_, _, hcs, hd1, hd2⟩ := tree_at.1 n1.at
 cases hcs
 have p1 := hd1.one
 have p2 := hd2.one
 have p3 := New.one1 n2
 have p4 := New.one1 n3
 have hne : New H.length (B ++ T3).length (B ++ T3) shServer [ws, we, wa, .int .i64 s.next, wl, .str s.who] s.u := by
  refine jo (m1 := A.length) (m2 := B.length) ?_ n2.ext hn n3 hw (by rw [hA]; simp) (by rw [hB]; simp) (by simp)
  rw [hB, List.append_assoc]; exact n1.ext
 have hGH : B ++ T3 = H ++ (T1 ++ T2 ++ T3) := by rw [hB, hA]; simp
 rw [hGH] at hne
 obtain ⟨T', hg, hn'⟩ := hne.gcA
 rw [← hGH] at hg
 simp [yG, Tryz.f81, o1, o2, o3, o4, p1, p2, p3, p4, c1, c2, c3, fillL, zerosL, buildV, structPlace, hg, regionL_none, regionL_some, List.lookup]
 exact ⟨T', ws, we, wa, wl, ⟨rfl, rfl, rfl, rfl⟩, rfl, by simpa using hn'⟩
def fH (b : Int) (c : List V) : Bool := match c with
 | .int _ n :: _ => decide (n < b)
 | _ => false
theorem wE {H : List Ob} {vl : V} {n b : Int} {l : List PChange} (h : AChanges H vl l) (hb : dX l) (hl40 : l.length ≤ 40) :
  ∃ T w, callW C 82 [.agg [.int .i64 n, vl], .int .i64 b] H = some (.agg [.int .i64 n, w], H ++ T) ∧ New H.length (H ++ T).length (H ++ T) (.slice shChange) [w] (.lst ((ak l b).map PChange.u)) := by
 suffices hs : Ret C 82 [.agg [.int .i64 n, vl], .int .i64 b] H fun q H' => ∃ T w, q = .agg [.int .i64 n, w] ∧ H' = H ++ T ∧ New H.length (H ++ T).length (H ++ T) (.slice shChange) [w] (.lst ((ak l b).map PChange.u)) by
  obtain ⟨q, H', hc, T, w, rfl, rfl, hr⟩ := hs
  exact ⟨T, w, hc, hr⟩
 rw [QP]
 have ol := h.one
 obtain ⟨A, hA⟩ : ∃ A, A = H ++ [.mk true 1 [.int .i64 b]] := ⟨_, rfl⟩
 obtain ⟨T1, w, c1, n1, nl⟩ := jR (H := A) (n := n) (by rw [hA]; exact h.ext) hb
 obtain ⟨_, ⟨rfl, _⟩ | ⟨id, cs, Fs, k1, k2, rfl, k3, k4, k5, k6, k7⟩⟩ := n1
 ·exact absurd (by simp [lowV]) nl
 rw [show shChange.size = 5 from rfl] at k2 k3 k5
 obtain ⟨G, hG⟩ : ∃ G, G = A ++ T1 := ⟨_, rfl⟩
 rw [← hG] at c1 k2 k5 k7
 have hid := (List.getElem?_eq_some_iff.1 k2).1
 have hHA : H.length < A.length := by rw [hA]; simp
 have hAG : A.length ≤ G.length := by rw [hG]; simp
 have hbox : G[H.length]? = some (.mk true 1 [.int .i64 b]) := by rw [hG, List.getElem?_append_left hHA, hA]; simp
 have hones : cs.all isOne = true := by
  have hat : AChanges G (.slc (some (id, 0)) l.length) l := (LstF.at (B := A) ⟨⟨T1, hG⟩, .inr ⟨id, cs, Fs, k1, k2, rfl, k3, k4, k5, k6, k7⟩⟩ h.bound)
  obtain ⟨p, cs', hp, hc, _, ho, _⟩ := hat.cells (by decide)
  cases hp
  have h1 := hc []
  rw [List.append_nil, show l.length * shChange.size = l.length * 5 from rfl] at h1
  simp only [slcCells, k2] at h1
  by_cases h0 : l.length * 5 = 0
  ·have : cs = [] := List.length_eq_zero_iff.1 (by omega)
   subst this
   rfl
  ·rw [if_neg h0] at h1
   unfold rdCells at h1
   rw [if_pos (by omega), List.drop_zero, List.take_of_length_le (by omega)] at h1
   cases h1
   exact ho
 obtain ⟨rows, r1, r2, r3⟩ := chunks_of (s := 5) (by decide) l.length cs (by rw [k3]) hones
 have hrow : ∀ (i : Nat) x c F, l[i]? = some x → rows[i]? = some c → Fs[i]? = some F → AtF G shChange c x.u F ∧ (!fH b c) = decide (b ≤ x.number) := fun i x c F hx hc hF => by
  have hh := k5 i x F hx hF
  rw [← r3, r1.at hc] at hh
  refine ⟨hh, ?_⟩
  obtain ⟨_, _, rfl, _⟩ := change_at.1 (AtF.at _ hh)
  unfold fH
  by_cases hlt : x.number < b
  ·have : ¬ b ≤ x.number := by omega
   simp [hlt]
  ·have : b ≤ x.number := by omega
   simp [this]
 have hcl : ∀ G' : List Ob, G'.length = G.length → (∀ q, q ≠ id → G'[q]? = G[q]?) → ∀ c ∈ rows, callW C 168 ([] ++ ([.agg c] ++ [.ptr (some (H.length, 0))])) G' = some (.bool (fH b c), G') := fun G' hl' hfr c hc => by
  obtain ⟨i, hi⟩ := List.mem_iff_getElem?.1 hc
  have hil : i < l.length := by rw [← r2]; exact (List.getElem?_eq_some_iff.1 hi).1
  obtain ⟨hh, _⟩ := hrow i l[i] c Fs[i] (List.getElem?_eq_getElem hil) hi (List.getElem?_eq_getElem (by omega))
  obtain ⟨y1, y2, rfl, _, _, _, a1, a2⟩ := change_at.1 (AtF.at _ hh)
  have o1 := a1.one
  have o2 := a2.one
  have hb' : G'[H.length]? = some (.mk true 1 [.int .i64 b]) := by rw [hfr _ (by omega)]; exact hbox
  have ld := load1 hb' (o := 0) (v := .int .i64 b) rfl
  have hlt : H.length < G'.length := by omega
  apply Ret.eq
  rw [List.nil_append, List.cons_append, List.nil_append, Fz]
  by_cases hx : l[i].number < b <;> simp [pV, Tryz.f168, o1, o2, ld, hlt, hx, fH, fillL, zerosL]
 obtain ⟨G', rs, c2, hl', hfr, ho', hr', hrl, htk⟩ := Pz (f := 167) (gi := 250) (tS := 39) (tE := 164) (s := 5) ⟨⟨_, DZ⟩, ⟨_, _, _, l9, rfl, rfl⟩, by decide⟩ (by simp)
  (op_ren (c := fF) (by kernel_rfl) IY) rfl (op_ren (c := eP) (by kernel_rfl) Iw) rfl
  (a := []) (b := [.ptr (some (H.length, 0))]) (fH b) (by rw [r3]; exact k2) r1 (by omega) hcl
 rw [r2] at c2
 obtain ⟨Fs', f1, f2, f3, f4⟩ := nI (R := fun c (x : PChange) F => AtF G shChange c x.u F) (fun x : PChange => decide (b ≤ x.number)) (fun c => !fH b c) l rows Fs r2 k4 hrow
 have hm : (rows.filter fun c => !fH b c).length = (ak l b).length := f2
 rw [hm] at c2 htk
 have hle : (ak l b).length ≤ l.length := List.length_filter_le _ _
 have hne : New A.length G'.length G' (.slice shChange) [.slc (some (id, 0)) (ak l b).length] (.lst ((ak l b).map PChange.u)) := by
  refine ⟨id :: Fs'.flatten, AtF_slice.2 ⟨_, _, rfl, rfl, by have := h.bound; simp; omega, .inr ⟨id, 0, rs.flatten, Fs', by simp, ho', ?_, by rw [f1, List.length_map]; rfl, rfl, fun i u F hu hF => ?_⟩⟩, ?_, fun q hq => ?_⟩
  ·rw [hr'.len, hrl, r2, List.length_map, Nat.zero_add]
   exact Nat.mul_le_mul_right _ hle
  ·rw [List.getElem?_map] at hu
   obtain ⟨x, hx, rfl⟩ := Option.map_eq_some_iff.1 hu
   have hi : i < (ak l b).length := (List.getElem?_eq_some_iff.1 hx).1
   have hci : i < (rows.filter fun c => !fH b c).length := by omega
   obtain ⟨c, hc⟩ : ∃ c, (rows.filter fun c => !fH b c)[i]? = some c := ⟨_, List.getElem?_eq_getElem hci⟩
   have hh := f4 i x _ F hx hc hF
   rw [← htk, List.getElem?_take_of_lt hi] at hc
   rw [Nat.zero_add, show shChange.size = 5 from rfl, hr'.at hc]
   refine AtF.frame _ (fun q hq => hfr q ?_) hh
   exact (k7 q (f3.subset (List.mem_flatten.2 ⟨F, List.mem_of_getElem? hF, hq⟩))).2.1
  ·exact List.nodup_cons.2 ⟨fun hm => (k7 id (f3.subset hm)).2.1 rfl, f3.nodup k6⟩
  ·rcases List.mem_cons.1 hq with rfl | hq
   ·omega
   ·have := k7 q (f3.subset hq); omega
 have hpre : ∃ T, G' = H ++ T := Aw (fun q hq => by rw [hfr q (by omega), hG, hA, List.append_assoc, List.getElem?_append_left hq]) (by omega)
 obtain ⟨S, hS⟩ := hpre
 have ow : isOne (.slc (some (id, 0)) (ak l b).length) = true ∧ cellsOf (.slc (some (id, 0)) (ak l b).length) = some [.slc (some (id, 0)) (ak l b).length] := ⟨rfl, rfl⟩
 have hne := hne.wide (b' := H.length) (by omega) (Nat.le_refl _)
 rw [hS] at hne
 obtain ⟨T', hg, hn⟩ := hne.gc (v := .agg [.int .i64 n, .slc (some (id, 0)) (ak l b).length]) (by simp [lowV, lowVs])
 rw [← hS] at hg
 rw [hA] at c1
 simp [yD, Tryz.f82, ol, c1, c2, fillL, zerosL, buildV, structPlace, strideOf, hg, regionL_none, regionL_some, List.lookup]
 simpa using hn
theorem lh {H : List Ob} {vs ve va vl : V} {s : PServer} {b : Int} (hs : AClasses H vs s.tree.schema) (he : AEntries H ve s.tree.entries) (ha : ARules H va s.acl) (hl : AChanges H vl s.list) (hn : (Lit.int .i64 s.next).wf = true) (hw : s.who.length ≤ maxLen) (hb : ServerOk s → ja s) (hd : ∀ x ∈ s.list, x.dn.length ≤ 2000000) :
  ∃ q H', callW C 27 [.agg [vs, ve, va, .int .i64 s.next, vl, .str s.who], .int .i64 b] H = some (q, H') ∧ VOut H (aC s b) q H' := by
 suffices hs : Ret C 27 [.agg [vs, ve, va, .int .i64 s.next, vl, .str s.who], .int .i64 b] H fun q H' => VOut H (aC s b) q H' by
  obtain ⟨q, H', hc, hr⟩ := hs
  exact ⟨q, H', hc, hr⟩
 rw [PQ]
 have o1 := hs.one
 have o2 := he.one
 have o3 := ha.one
 have o4 := hl.one
 have c0 := jH hs he ha hl hd
 unfold aC
 by_cases g : ServerOk s
 rotate_left
 ·rw [dec_neg g] at c0
  rw [if_neg g]
  have hg : gcH H H (.agg [.slc none 0, .slc none 0, .slc none 0, .int .i64 0, .slc none 0, .str [], .int .i64 0, .int .i64 0, .slc none 0, .int .i64 1]) = H := by
   have := gcH_low (H := H) (T := []) (r := .agg [.slc none 0, .slc none 0, .slc none 0, .int .i64 0, .slc none 0, .str [], .int .i64 0, .int .i64 0, .slc none 0, .int .i64 1]) (by simp [lowV, lowVs])
   rwa [List.append_nil] at this
  have hV := VOut.ill (H := H)
  simp [oW, Tryz.f27, o1, o2, o3, o4, c0, fillL, zerosL, buildV, structPlace, hg]
  exact hV
 rw [dec_pos g] at c0
 rw [if_pos g]
 have hb := hb g
 obtain ⟨T1, ws, we, wa, wl, c1, n1⟩ := vG hs he ha hl hn hw hb
 obtain ⟨A, hA⟩ : ∃ A, A = H ++ T1 := ⟨_, rfl⟩
 rw [← hA] at n1 c1
 obtain ⟨T2, w, c2, n2⟩ := wE (H := A) (n := s.next) (b := b) (by rw [hA]; exact hl.ext) hb.2.2 g.2.2.1.2.1
 obtain ⟨_, _, _, _, hcs, p1, p2, p3, _, p4, _⟩ := server_at.1 n1.at
 cases hcs
 have p1 := p1.one
 have p2 := p2.one
 have p3 := p3.one
 have p4 := p4.one
 have p5 := New.one1 n2
 have hne : New H.length (A ++ T2).length (A ++ T2) shServer [ws, we, wa, .int .i64 s.next, w, .str s.who] (PServer.u { s with list := ak s.list b }) :=
  gI n1.ext n2 (by rw [hA]; simp) (by simp)
 have hGH : A ++ T2 = H ++ (T1 ++ T2) := by rw [hA]; simp
 rw [hGH] at hne
 obtain ⟨T', hg, hV⟩ := VOut.of (s := { s with list := ak s.list b }) hne
 rw [← hGH] at hg
 simp only at hg hV
 simp [oW, Tryz.f27, o1, o2, o3, o4, p1, p2, p3, p4, p5, c0, c1, c2, fillL, zerosL, buildV, structPlace, hg, partV]
 exact hV
theorem ServerOk.smallV {s : PServer} (h : ServerOk s) : ja s := by
 refine ⟨TreeOk.small h.1, ⟨by have := h.2.1.2; omega, fun x hx => ?_⟩, by have := h.2.2.1.2.1; omega, fun x hx => ?_⟩
 ·have := h.2.1.1 x hx
  exact ⟨(DnOk.small this.2.1).1, by have := this.2.2.1; omega⟩
 ·obtain ⟨i, hi⟩ := List.mem_iff_getElem?.1 hx
  have k := (h.2.2.1.2.2.2 i x hi).1.2.2
  by_cases h2 : x.kind = 2
  ·have := k.2.1 h2
   exact ⟨by rw [this.1]; simp, by rw [this.2]; simp, fun a ha => by rw [this.2] at ha; simp at ha⟩
  ·exact EntryOk.small (k.2.2 h2)
theorem zu {l : List U} {u : U} (h : u ∈ l) : wt u ≤ wts l := by
 obtain ⟨i, hi, rfl⟩ := List.getElem_of_mem h
 have := wts_get (l := l) (i := i) (u := l[i]) (List.getElem?_eq_getElem hi)
 omega
theorem dW {s : PServer} (hw : wt s.u ≤ 1048576) : ∀ x ∈ s.list, x.dn.length ≤ 2000000 := by
 intro x hx
 have h1 := zu (List.mem_map_of_mem (f := PChange.u) hx)
 have h2 : x.dn.length ≤ wt x.u := by unfold PChange.u; simp only [wt, wts]; omega
 have h3 : wts (s.list.map PChange.u) ≤ wt s.u := by unfold PServer.u; simp only [wt, wts]; omega
 omega
theorem jv {p : PChange → Bool} : ∀ (l : List PChange), cntPs ((l.filter p).map PChange.u) ≤ cntPs (l.map PChange.u)
 | [] => Nat.le_refl _
 | x :: l => by
  have := jv (p := p) l
  by_cases h : p x = true
  ·rw [List.filter_cons_of_pos h]
   simp only [List.map_cons, cntPs_cons]
   omega
  ·rw [List.filter_cons_of_neg h]
   simp only [List.map_cons, cntPs_cons]
   omega
theorem mZ {H : List Ob} {cs : List V} {s : PServer} {b : Int} (h : At H shServer cs s.u) (hw : wt s.u ≤ 1048576) : 1 + cntV (aC s b) ≤ 50000000 := by
 have h1 := cntV_bound h 40 (by decide)
 have h2 := jv (p := fun x => decide (b ≤ x.number)) s.list
 unfold aC
 split
 ·have e1 : cntV (yJ { s with list := ak s.list b }) ≤ cntV s.u := by
   unfold yJ PServer.u ak
   simp only [cntV_st, cntVs_cons, cntVs_nil, cntV_int, cntV_str, cntV]
   simp only [cntPs]
   omega
  omega
 ·have e2 : cntV Dq ≤ 100 := by decide
  omega
theorem lawServerTrim {H : List Ob} {vs : List V} {xs : List D} (h : IsArgs H [shServer, .int .i64] vs xs) : ∃ H', callW C 5 vs H = some (.bool true, H') := by
 rcases vs with _ | ⟨v1, _ | ⟨v2, _ | ⟨v3, vs⟩⟩⟩ <;> rcases xs with _ | ⟨d1, _ | ⟨d2, _ | ⟨d3, xs⟩⟩⟩ <;> first | (exfalso; simp [IsArgs] at h; done) | skip
 obtain ⟨⟨cs1, e1, l1, i1⟩, ⟨cs2, e2, l2, i2⟩, _⟩ := h
 subst e1; subst e2
 have h1 := Is.at _ i1
 obtain ⟨s, hs⟩ := server_typed h1
 rw [hs] at h1
 obtain ⟨n, rfl, _, _⟩ := At_int.1 (Is.at _ i2)
 have key := dC (s1 := n) (uR := aC s n) h1
  (fun hw G x0 a0 => by
   obtain ⟨ws, we, wa, wl, rfl, b1, b2, b3, bn, b4, bw⟩ := server_at.1 a0
   obtain ⟨q, G', hc, T, y, rfl, rfl, hn⟩ := lC (b := n) b1 b2 b3 b4 bn bw ServerOk.smallV (dW hw)
   exact ⟨_, y, hc, .app, hn.at⟩)
  (fun hw G x0 a0 => by
   obtain ⟨ws, we, wa, wl, rfl, b1, b2, b3, bn, b4, bw⟩ := server_at.1 a0
   obtain ⟨q, G', hc, T, y, rfl, rfl, hn⟩ := lh (b := n) b1 b2 b3 b4 bn bw ServerOk.smallV (dW hw)
   exact ⟨_, y, hc, .app, hn⟩)
  (fun hw => mZ h1 hw)
 obtain ⟨r, H', hc, rfl⟩ := key
 exact ⟨H', hc⟩
end Go.Proofs.Try1
end
section
namespace Go.Lite
open Go
variable [Draws]
theorem VL.one {μ : Mu} {v : V} {us : Array Value} (h : VL μ [v] us.toList) : ∃ u, us = #[u] ∧ VR μ v u := by
 have hl := h.length
 match us, hl, h with
 | ⟨[u]⟩, _, h => exact ⟨u, rfl, h.get 0 v u rfl rfl⟩
theorem VL.two {μ : Mu} {v v' : V} {us : Array Value} (h : VL μ [v, v'] us.toList) : ∃ u u', us = #[u, u'] ∧ VR μ v u ∧ VR μ v' u' := by
 have hl := h.length
 match us, hl, h with
 | ⟨[u, u']⟩, _, h => exact ⟨u, u', rfl, h.get 0 v u rfl rfl, h.get 1 v' u' rfl rfl⟩
theorem cmpPrim_ok {P : Program} {g : FuncId} {fn : Func} (hf : P.funcs[g]? = some fn) (hname : (fn.name == "runtime.NumGoroutine") = false) (hb : fn.body.isNone = true) (hn : Extern.findNext fn = none) (he : Extern.find fn = some Extern.BytealgCompare.compare) : PrimOk P g cmpPrim := by
 intro args H r H' h μ w us hs hv
 unfold cmpPrim at h
 split at h
 ·rename_i a b
  cases h
  obtain ⟨u, u', rfl, h1, h2⟩ := hv.two
  obtain ⟨x, rfl, rfl⟩ := h1.str_inv
  obtain ⟨y, rfl, rfl⟩ := h2.str_inv
  refine .inl ⟨.int .i64 (Lib.compareBytes x.data.toList y.data.toList), w, ?_, μ, .refl hs, .int _ _⟩
  rw [run_callFunc_extern hf hname hb hn he, Lib.run_compareString]
  rfl
 ·cases h
theorem strsOf_get : ∀ {cs : List V} {l : List (List UInt8)}, strsOf cs = some l → cs = l.map V.str
 | [], l, h => by cases h; rfl
 | c :: cs, l, h => by
  unfold strsOf at h
  split at h
  ·rename_i he; cases he
  ·rename_i s vs he
   cases he
   split at h
   ·rename_i l' hl
    cases h
    rw [List.map_cons, ← strsOf_get hl]
   ·cases h
  ·cases h
theorem cells_get' {cells l : List V} {o n : Nat} (h : (cells.drop o).take n = l) {j : Nat} (hj : j < n) : cells[o + j]? = l[j]? := by
 subst h
 rw [List.getElem?_take_of_lt hj, List.getElem?_drop]
theorem HGoes.garbage {H : List Ob} {μ : Mu} {w : World} (h : HSim H μ w) (n : Nat) (os : Array Obj) : HGoes H μ w H μ (Sort.grow (Sort.ahead w n) os) := by
 have hsame : ∀ b, b < w.heap.size → (Sort.grow (Sort.ahead w n) os).heap[b]? = w.heap[b]? := fun b hb => by
  show (w.heap ++ os)[b]? = _
  rw [Array.getElem?_append_left hb]
 have hsz : w.heap.size ≤ (Sort.grow (Sort.ahead w n) os).heap.size := by
  show _ ≤ (w.heap ++ os).size
  rw [Array.size_append]; omega
 exact ⟨h.world (fun id o m h1 h2 h3 => .of_heap (hsame _ (live_lt h id o m h1 h2 h3))) hsz, μ.le_refl, ⟨hsz, fun b hb _ => hsame b hb, fun b hb => .inl hb, rfl, rfl, rfl, fun _ => Nat.le_add_right _ _⟩, Lives.refl _ _ _⟩
theorem putRow_wrote {w : World} {blk off : Nat} {d d' : Array (List UInt8)} (h0 : Sort.Holds Go.Proofs.encStr w blk off d) (hs : d'.size = d.size) : Wrote w (Sort.putRow Go.Proofs.encStr w blk off d') blk off (d'.toList.map Go.Proofs.encStr) where
 size := by simp
 os := rfl
 tape := rfl
 drawn := rfl
 output := rfl
 other b' hb := by
  show (w.heap.modify blk _)[b']? = _
  rw [Array.getElem?_modify, if_neg (fun e => hb e.symm)]
 cell j := by
  rw [List.length_map, Array.length_toList]
  split
  ·rename_i hj
   have := Sort.cell?_putRow Go.Proofs.encStr w blk off d d' h0 hs (j - off) (by omega)
   rw [show off + (j - off) = j by omega] at this
   rw [this, List.getElem?_map, Array.getElem?_toList, Array.getElem?_eq_getElem (by omega), getElem!_pos d' (j - off) (by omega)]
   rfl
  ·rename_i hj
   exact Sort.cell?_putRow_other Go.Proofs.encStr w blk off d' ⟨blk, j, none⟩ (by simp only; omega)
 frozen j := by simp
theorem sortPrim_ok {P : Program} {g : FuncId} (hcall : ∀ us w, (callFunc g us).run P w = .ok (.enter g us) w)
  (hsort : ∀ (blk off cap : Nat) (zs : List (List UInt8)) (w : World), Sort.Holds Go.Proofs.encStr w blk off zs.toArray → blk < w.heap.size → zs.length < 4611686018427387904 → Calls P g #[.slice (some ⟨blk, off, none⟩) zs.length cap] w fun e w' =>
   e = .returned (.tuple #[]) ∧ ∃ n os, w' = Sort.grow (Sort.putRow Go.Proofs.encStr (Sort.ahead w n) blk off (zs.mergeSort fun x y => decide (x ≤ y)).toArray) os)
  (hnone : ∀ (p : Option Addr) (cap : Nat) (w : World), Calls P g #[.slice p 0 cap] w fun e w' => e = .returned (.tuple #[]) ∧ w' = w) : PrimOk P g sortPrim := by
 intro args H r H' h μ w us hs hv
 have htup : ∀ μ : Mu, VR μ (.tup []) (.tuple #[]) := fun μ => VR.tup [] #[] rfl (fun i v u h _ => by simp at h)
 unfold sortPrim at h
 split at h
 case h_2 => cases h
 rename_i p n
 obtain ⟨u, rfl, hu⟩ := hv.one
 refine .inr ⟨hcall _ _, ?_⟩
 split at h
 ·rename_i hn
  subst hn
  cases h
  have : ∃ q c, u = .slice q 0 c := by
   cases p with
   | none => obtain ⟨rfl, _⟩ := hu.slcN_inv; exact ⟨_, _, rfl⟩
   | some p =>
    obtain ⟨id, off⟩ := p
    obtain ⟨m, _, ⟨c, _, _, _, rfl⟩ | ⟨_, _, a, rfl⟩⟩ := hu.slc_inv <;> exact ⟨_, _, rfl⟩
  obtain ⟨q, c, rfl⟩ := this
  refine (hnone q c w).mono ?_
  rintro e w' ⟨rfl, rfl⟩
  exact ⟨_, rfl, μ, .refl hs, htup μ⟩
 ·rename_i hn
  split at h
  case h_2 => cases h
  rename_i id off
  split at h
  case h_2 => cases h
  rename_i es cells ho
  split at h
  case isFalse => cases h
  rename_i hc
  obtain ⟨rfl, hlen, hmax⟩ := hc
  split at h
  case h_2 => cases h
  rename_i ss hss
  cases h
  have hcs := strsOf_get hss
  have hssl : ss.length = n := by
   have := congrArg List.length hcs
   simp at this
   omega
  obtain ⟨m, hm, ⟨c, hc1, hc2, hc3, rfl⟩ | ⟨h0, _⟩⟩ := hu.slc_inv
  rotate_left
  ·exact absurd h0 hn
  obtain ⟨g1, g2, g3, g4, g5, g6⟩ := hs.obj id _ m ho hm
  obtain ⟨g6, g7⟩ := g6 rfl
  have hget : ∀ j, j < ss.length → cells[off + j]? = some (.str ss[j]!) := fun j hj => by
   rw [cells_get' hcs (show j < n by omega), List.getElem?_map, List.getElem?_eq_getElem hj]
   simp [hj]
  have hH : Sort.Holds Go.Proofs.encStr w m.blk (m.base + off) ss.toArray := fun j hj => by
   simp only [List.size_toArray] at hj
   obtain ⟨u, hu1, hu2⟩ := g4 (off + j) _ (hget j hj)
   obtain ⟨b, rfl, hb⟩ := hu2.str_inv
   have hbe : Value.string b = Go.Proofs.encStr ss[j]! := by
    show _ = Value.string ⟨ss[j]!.toArray⟩
    rw [hb]
   refine ⟨?_, ?_⟩
   ·rw [Nat.add_assoc, hu1, hbe]
    congr 2
    simp [hj]
   ·exact (g7 (m.base + off + j) (by omega) (by omega)).2
  have hsort' := hsort m.blk (m.base + off) c ss w hH g5 (by omega)
  rw [hssl] at hsort'
  refine hsort'.mono ?_
  rintro e w' ⟨rfl, k, os, rfl⟩
  refine ⟨_, rfl, μ, ?_, htup μ⟩
  have hlen2 : (ss.mergeSort fun x y => decide (x ≤ y)).length = ss.length := List.length_mergeSort ss
  have hwr := putRow_wrote (d' := (ss.mergeSort fun x y => decide (x ≤ y)).toArray) hH (by simp [hlen2])
  have hvl : VL μ ((ss.mergeSort fun x y => decide (x ≤ y)).map V.str) (((ss.mergeSort fun x y => decide (x ≤ y)).toArray).toList.map Go.Proofs.encStr) := by
   refine VL.of_get (by simp) fun i v u h1 h2 => ?_
   simp only [List.getElem?_map] at h1 h2
   cases hx : (ss.mergeSort fun x y => decide (x ≤ y))[i]? with
   | none => rw [hx] at h1; cases h1
   | some s =>
    rw [hx] at h1 h2
    cases h1
    cases h2
    exact VR.str ⟨s.toArray⟩
  have hgo := HGoes.write hs ho hm hwr hvl (by rw [List.length_map, hlen2]; omega)
  rw [Sort.putRow_ahead]
  exact hgo.trans (HGoes.garbage hgo.sim k os)
end Go.Lite
end
section
namespace Go.Proofs.Try1
open Go Go.Lite
theorem gG {L : List Nat} {n : Nat} {P : Program} {f : FuncId} {args : Array Value} {w : World} {R : Ending → World → Prop} (h : ∀ D, CallsIn (Fence.list L (some D)) n P f args w R) : Calls P f args w R := fun cs =>
 let ⟨e, w', fr, r, s, x⟩ := (h (cs.length + 1 + n)).2 cs (fun d hd => by cases hd; omega)
 ⟨e, w', fr, r, s.comes, x⟩
theorem yU [Draws] : PrimOk Tryz.prog 362 cmpPrim :=
 cmpPrim_ok Tryz.func362 (by kernel_rfl) (by kernel_rfl) rfl rfl
theorem enters {g : Nat} {fn : Func} (h1 : Tryz.prog.funcs[g]? = some fn) (h2 : (fn.name == "runtime.NumGoroutine") = false) (h3 : fn.body.isNone = false) (us : Array Value) (w : World) : (callFunc g us).run Tryz.prog w = .ok (.enter g us) w := by
 simp [callFunc, h1, (by simpa using h2 : ¬ fn.name = "runtime.NumGoroutine")]
 intro hb
 rw [hb] at h3
 cases h3
end Go.Proofs.Try1
end
section
namespace Go.Proofs.Try0
open Go Go.Lite
def locTab : List (Nat × List Nat) := [(112, [3, 5])]
def ordTab : List (Nat × List (Nat × Hint)) := [(112, [(4, ⟨[0, 1, 2, 3, 4, 5, 6, 7, 8, 9, 10], [], [], [(0, 3), (2, 5), (6, 5), (10, 3)], [], []⟩)])]
def fids : List Nat := [44, 186, 199, 217, 263, 271, 272, 293, 310, 315, 334, 336, 353]
noncomputable def primTab : Nat → Option (List V → List Ob → Option (V × List Ob)) := fun f => if f = 362 then some cmpPrim else none
noncomputable def tabs : Tabs := { locs := fun f => (locTab.lookup f).getD [], ord := fun f id => ((ordTab.lookup f).getD []).lookup id, prim := primTab, fids := fids }
theorem mixed : Tryz.prog.follows .mixedOrders = true := rfl
theorem ok : progB Tryz.prog tabs = true := by decide +kernel
noncomputable def C : Ctx := ctxOf Tryz.prog tabs
@[simp] theorem ty3 : C.ty 3 = ⟨.int .i64, 1, 8, [.int .i64 0]⟩ := by kernel_rfl
@[simp] theorem ty4 : C.ty 4 = ⟨.bool, 1, 1, [.bool false]⟩ := by kernel_rfl
@[simp] theorem ty5 : C.ty 5 = ⟨.int .u8, 1, 1, [.int .u8 0]⟩ := by kernel_rfl
@[simp] theorem ty9 : C.ty 9 = ⟨.str, 1, 16, [.str []]⟩ := by kernel_rfl
@[simp] theorem DJ : C.ty 56 = ⟨.slice 202, 1, 24, [.slc none 0]⟩ := by kernel_rfl
@[simp] theorem mg : C.ty 202 = ⟨.struct [(0, 9), (1, 9)], 2, 32, [.str [], .str []]⟩ := by kernel_rfl
@[simp] theorem Gz : C.ty 222 = ⟨.slice 5, 1, 24, [.slc none 0]⟩ := by kernel_rfl
noncomputable def bH : Code := match Tryz.f44.body with | some c => c | none => .skip
theorem Fv : C.fids 44 = true := by kernel_rfl
theorem FZ : Tryz.f44.body = some bH := rfl
theorem H8 : C.prim 44 = none := rfl
theorem GL : C.funcs 44 = some Tryz.f44 := Tryz.func44
theorem Di {a : List V} {H : List Ob} {R : V → List Ob → Prop} : Ret C 44 a H R ↔ WP C 44 bH ⟨initRegs a, 0, H⟩ (finQ C Tryz.f44 H R) := Ret_fn H8 Fv GL FZ
@[simp] theorem DR : C.locs 44 = [] := by kernel_rfl
noncomputable def aS : Code := match Tryz.f186.body with | some c => c | none => .skip
theorem Bj : C.fids 186 = true := by kernel_rfl
theorem Bh : Tryz.f186.body = some aS := rfl
theorem BV : C.prim 186 = none := rfl
theorem Df : C.funcs 186 = some Tryz.f186 := Tryz.func186
theorem yI {a : List V} {H : List Ob} {R : V → List Ob → Prop} : Ret C 186 a H R ↔ WP C 186 aS ⟨initRegs a, 0, H⟩ (finQ C Tryz.f186 H R) := Ret_fn BV Bj Df Bh
@[simp] theorem Ap : C.locs 186 = [] := by kernel_rfl
noncomputable def aP : Code := match Tryz.f199.body with | some c => c | none => .skip
theorem BH : C.fids 199 = true := by kernel_rfl
theorem Bg : Tryz.f199.body = some aP := rfl
theorem BB : C.prim 199 = none := rfl
theorem CP : C.funcs 199 = some Tryz.f199 := Tryz.func199
theorem wS {a : List V} {H : List Ob} {R : V → List Ob → Prop} : Ret C 199 a H R ↔ WP C 199 aP ⟨initRegs a, 0, H⟩ (finQ C Tryz.f199 H R) := Ret_fn BB BH CP Bg
@[simp] theorem AP : C.locs 199 = [] := by kernel_rfl
noncomputable def aF : Code := match Tryz.f217.body with | some c => c | none => .skip
theorem Dh : C.fids 217 = true := by kernel_rfl
theorem CO : Tryz.f217.body = some aF := rfl
theorem Ce : C.prim 217 = none := rfl
theorem CS : C.funcs 217 = some Tryz.f217 := Tryz.func217
theorem zl {a : List V} {H : List Ob} {R : V → List Ob → Prop} : Ret C 217 a H R ↔ WP C 217 aF ⟨initRegs a, 0, H⟩ (finQ C Tryz.f217 H R) := Ret_fn Ce Dh CS CO
@[simp] theorem Aj : C.locs 217 = [] := by kernel_rfl
noncomputable def bY : Code := match Tryz.f263.body with | some c => c | none => .skip
theorem Bv : C.fids 263 = true := by kernel_rfl
theorem BP : Tryz.f263.body = some bY := rfl
theorem BN : C.prim 263 = none := rfl
theorem CU : C.funcs 263 = some Tryz.f263 := Tryz.func263
theorem xq {a : List V} {H : List Ob} {R : V → List Ob → Prop} : Ret C 263 a H R ↔ WP C 263 bY ⟨initRegs a, 0, H⟩ (finQ C Tryz.f263 H R) := Ret_fn BN Bv CU BP
@[simp] theorem Ak : C.locs 263 = [] := by kernel_rfl
noncomputable def bZ : Code := match Tryz.f271.body with | some c => c | none => .skip
theorem Dc : C.fids 271 = true := by kernel_rfl
theorem CW : Tryz.f271.body = some bZ := rfl
theorem Bq : C.prim 271 = none := rfl
theorem BZ : C.funcs 271 = some Tryz.f271 := Tryz.func271
theorem yL {a : List V} {H : List Ob} {R : V → List Ob → Prop} : Ret C 271 a H R ↔ WP C 271 bZ ⟨initRegs a, 0, H⟩ (finQ C Tryz.f271 H R) := Ret_fn Bq Dc BZ CW
@[simp] theorem Ba : C.locs 271 = [] := by kernel_rfl
noncomputable def dw : Code := match Tryz.f272.body with | some c => c | none => .skip
theorem Cc : C.fids 272 = true := by kernel_rfl
theorem Bf : Tryz.f272.body = some dw := rfl
theorem CQ : C.prim 272 = none := rfl
theorem BK : C.funcs 272 = some Tryz.f272 := Tryz.func272
theorem xC {a : List V} {H : List Ob} {R : V → List Ob → Prop} : Ret C 272 a H R ↔ WP C 272 dw ⟨initRegs a, 0, H⟩ (finQ C Tryz.f272 H R) := Ret_fn CQ Cc BK Bf
@[simp] theorem Ac : C.locs 272 = [] := by kernel_rfl
noncomputable def aB : Code := match Tryz.f293.body with | some c => c | none => .skip
theorem BR : C.fids 293 = true := by kernel_rfl
theorem CV : Tryz.f293.body = some aB := rfl
theorem CZ : C.prim 293 = none := rfl
theorem BU : C.funcs 293 = some Tryz.f293 := Tryz.func293
theorem x9 {a : List V} {H : List Ob} {R : V → List Ob → Prop} : Ret C 293 a H R ↔ WP C 293 aB ⟨initRegs a, 0, H⟩ (finQ C Tryz.f293 H R) := Ret_fn CZ BR BU CV
@[simp] theorem AC : C.locs 293 = [] := by kernel_rfl
noncomputable def cZ : Code := match Tryz.f310.body with | some c => c | none => .skip
theorem Bi : C.fids 310 = true := by kernel_rfl
theorem BG : Tryz.f310.body = some cZ := rfl
theorem Bo : C.prim 310 = none := rfl
theorem BC : C.funcs 310 = some Tryz.f310 := Tryz.func310
theorem wV {a : List V} {H : List Ob} {R : V → List Ob → Prop} : Ret C 310 a H R ↔ WP C 310 cZ ⟨initRegs a, 0, H⟩ (finQ C Tryz.f310 H R) := Ret_fn Bo Bi BC BG
@[simp] theorem zO : C.locs 310 = [] := by kernel_rfl
noncomputable def bg : Code := match Tryz.f315.body with | some c => c | none => .skip
theorem CG : C.fids 315 = true := by kernel_rfl
theorem C9 : Tryz.f315.body = some bg := rfl
theorem BI : C.prim 315 = none := rfl
theorem CY : C.funcs 315 = some Tryz.f315 := Tryz.func315
theorem xU {a : List V} {H : List Ob} {R : V → List Ob → Prop} : Ret C 315 a H R ↔ WP C 315 bg ⟨initRegs a, 0, H⟩ (finQ C Tryz.f315 H R) := Ret_fn BI CG CY C9
@[simp] theorem Ad : C.locs 315 = [] := by kernel_rfl
noncomputable def cu : Code := match Tryz.f334.body with | some c => c | none => .skip
theorem Ci : C.fids 334 = true := by kernel_rfl
theorem Cb : Tryz.f334.body = some cu := rfl
theorem BL : C.prim 334 = none := rfl
theorem Cf : C.funcs 334 = some Tryz.f334 := Tryz.func334
theorem xM {a : List V} {H : List Ob} {R : V → List Ob → Prop} : Ret C 334 a H R ↔ WP C 334 cu ⟨initRegs a, 0, H⟩ (finQ C Tryz.f334 H R) := Ret_fn BL Ci Cf Cb
@[simp] theorem Bd : C.locs 334 = [] := by kernel_rfl
noncomputable def aN : Code := match Tryz.f336.body with | some c => c | none => .skip
theorem CX : C.fids 336 = true := by kernel_rfl
theorem BM : Tryz.f336.body = some aN := rfl
theorem Cj : C.prim 336 = none := rfl
theorem CJ : C.funcs 336 = some Tryz.f336 := Tryz.func336
theorem wK {a : List V} {H : List Ob} {R : V → List Ob → Prop} : Ret C 336 a H R ↔ WP C 336 aN ⟨initRegs a, 0, H⟩ (finQ C Tryz.f336 H R) := Ret_fn Cj CX CJ BM
@[simp] theorem zN : C.locs 336 = [] := by kernel_rfl
noncomputable def di : Code := match Tryz.f353.body with | some c => c | none => .skip
theorem Cm : C.fids 353 = true := by kernel_rfl
theorem BX : Tryz.f353.body = some di := rfl
theorem BF : C.prim 353 = none := rfl
theorem BD : C.funcs 353 = some Tryz.f353 := Tryz.func353
theorem wJ {a : List V} {H : List Ob} {R : V → List Ob → Prop} : Ret C 353 a H R ↔ WP C 353 di ⟨initRegs a, 0, H⟩ (finQ C Tryz.f353 H R) := Ret_fn BF Cm BD BX
@[simp] theorem Be : C.locs 353 = [] := by kernel_rfl
noncomputable def sS : Code := match Tryz.f112.body with | some c => c | none => .skip
@[simp] theorem Ll : C.locs 112 = [3, 5] := by kernel_rfl
@[simp] theorem Fb : C.ord 112 4 = some ⟨[0, 1, 2, 3, 4, 5, 6, 7, 8, 9, 10], [], [], [(0, 3), (2, 5), (6, 5), (10, 3)], [], []⟩ := by kernel_rfl
theorem lW {t : Str} {H : List Ob} (ht : t.length ≤ 1000) : callW C 263 [.str t] H = some (.bool (dec (Plain t)), H) := by
 apply Ret.dec
 rw [xq]
 simp [bY, Tryz.f263]
 refine WP_loop (fun k σ => ∃ (i : Nat) (r : Nat → R), i + k = t.length ∧ σ = ⟨r, 0, H⟩ ∧ r 0 = .val (.str t) ∧ r 3 = .val (.int .i64 i) ∧ ∀ j, j < i → ∀ c, t[j]? = some c → PlainB c) ?_ t.length _ ⟨0, _, by simp, rfl, by simp, by simp, by simp⟩
 rintro k σ ⟨i, r, hik, rfl, r0, r3, hall⟩
 cases k with
 | zero =>
  have hi : i = t.length := by omega
  subst hi
  simp [r0, r3]
  intro j c hc
  exact hall j (List.getElem?_eq_some_iff.1 hc).1 c hc
 | succ k =>
  have hi : i < t.length := by omega
  obtain ⟨c, hc⟩ : ∃ c, t[i]? = some c := ⟨t[i], by simp [hi]⟩
  have hc' : t[i] = c := (List.getElem?_eq_some_iff.1 hc).2
  have hw : IntKind.i64.wrap ((i : Int) + 1) = ((i : Int) + 1) := wrap_i64 (by omega) (by omega)
  by_cases h1 : (c.toNat : Int) < 32
  ·simp [r0, r3, hi, hc', h1]
   intro hp
   have := (hp i c hc).1
   omega
  ·by_cases h2 : (c.toNat : Int) > 126
   ·simp [r0, r3, hi, hc', h1, h2]
    intro hp
    have := (hp i c hc).2
    omega
   ·simp [r0, r3, hi, hc', h1, h2, hw]
    exact ⟨k, by omega, i + 1, by omega, by omega, all_step (P := fun _ c => PlainB c) hall hc ⟨by omega, by omega⟩⟩
theorem lu {t : Str} {H : List Ob} (ht : t.length ≤ 1000) : callW C 271 [.str t] H = some (.bool (dec (Plain t)), H) := by
 apply Ret.dec
 rw [yL]
 simp [bZ, Tryz.f271]
 refine WP_loop (fun k σ => ∃ (i : Nat) (r : Nat → R), i + k = t.length ∧ σ = ⟨r, 0, H⟩ ∧ r 0 = .val (.str t) ∧ r 5 = .val (.int .i64 t.length) ∧ r 6 = .val (.int .i64 i) ∧ ∀ j, j < i → ∀ c, t[j]? = some c → PlainB c) ?_ t.length _ ⟨0, _, by simp, rfl, by simp, by simp, by simp, by simp⟩
 rintro k σ ⟨i, r, hik, rfl, r0, r5, r6, hall⟩
 cases k with
 | zero =>
  have hi : i = t.length := by omega
  subst hi
  simp [r0, r5, r6]
  intro j c hc
  exact hall j (List.getElem?_eq_some_iff.1 hc).1 c hc
 | succ k =>
  have hi : i < t.length := by omega
  obtain ⟨c, hc⟩ : ∃ c, t[i]? = some c := ⟨t[i], by simp [hi]⟩
  have hc' : t[i] = c := (List.getElem?_eq_some_iff.1 hc).2
  have hw : IntKind.i64.wrap ((i : Int) + 1) = ((i : Int) + 1) := wrap_i64 (by omega) (by omega)
  by_cases h1 : (c.toNat : Int) < 32
  ·simp [r0, r5, r6, hi, hc', h1]
   intro hp
   have := (hp i c hc).1
   omega
  ·by_cases h2 : (c.toNat : Int) > 126
   ·simp [r0, r5, r6, hi, hc', h1, h2]
    intro hp
    have := (hp i c hc).2
    omega
   ·simp [r0, r5, r6, hi, hc', h1, h2, hw]
    exact ⟨k, by omega, i + 1, by omega, by omega, all_step (P := fun _ c => PlainB c) hall hc ⟨by omega, by omega⟩⟩
theorem dZ {t : Str} {H : List Ob} : callW C 44 [.str t] H = some (.bool (dec (NameOk t)), H) := by
 apply Ret.dec
 rw [Di]
 by_cases g1 : (t.length : Int) < 1
 ·have g2 : ¬ NameOk t := fun h => by have := h.1; omega
  simp [bH, Tryz.f44, g1, g2]
 by_cases g2 : (t.length : Int) > 20
 ·have g3 : ¬ NameOk t := fun h => by have := h.2.1; omega
  simp [bH, Tryz.f44, g1, g2, g3]
 simp [bH, Tryz.f44, g1, g2]
 refine WP_loop (fun k σ => ∃ (i : Nat) (r : Nat → R), i + k = t.length ∧ σ = ⟨r, 0, H⟩ ∧ r 0 = .val (.str t) ∧ r 3 = .val (.int .i64 i) ∧ ∀ j, j < i → ∀ c, t[j]? = some c → LowB c ∨ (0 < j ∧ (DigB c ∨ c.toNat = 95))) ?_ t.length _ ⟨0, _, by simp, rfl, by simp, by simp, by simp⟩
 rintro k σ ⟨i, r, hik, rfl, r0, r3, hall⟩
 cases k with
 | zero =>
  have hi : i = t.length := by omega
  subst hi
  have hok : NameOk t := ⟨by omega, by omega, fun j c hc => hall j (List.getElem?_eq_some_iff.1 hc).1 c hc⟩
  simp [r0, r3, hok]
 | succ k =>
  have hi : i < t.length := by omega
  obtain ⟨c, hc⟩ : ∃ c, t[i]? = some c := ⟨t[i], by simp [hi]⟩
  have hc' : t[i] = c := (List.getElem?_eq_some_iff.1 hc).2
  have hw : IntKind.i64.wrap ((i : Int) + 1) = ((i : Int) + 1) := wrap_i64 (by omega) (by omega)
  have hgo : LowB c ∨ (0 < i ∧ (DigB c ∨ c.toNat = 95)) → ∃ k', k' < k + 1 ∧ ∃ i', i' + k' = t.length ∧ (i : Int) + 1 = i' ∧ ∀ j, j < i' → ∀ c, t[j]? = some c → LowB c ∨ (0 < j ∧ (DigB c ∨ c.toNat = 95)) := fun h =>
   ⟨k, by omega, i + 1, by omega, by omega, all_step (P := fun j c => LowB c ∨ (0 < j ∧ (DigB c ∨ c.toNat = 95))) hall hc h⟩
  by_cases h1 : LowB c
  ·have h1a : (c.toNat : Int) ≥ 97 := by have := h1.1; omega
   have h1b : (c.toNat : Int) ≤ 122 := by have := h1.2; omega
   simp [r0, r3, hi, hc', h1a, h1b, hw]
   exact hgo (.inl h1)
  have hl : (¬ (c.toNat : Int) ≥ 97) ∨ ((c.toNat : Int) ≥ 97 ∧ ¬ (c.toNat : Int) ≤ 122) := by unfold LowB at h1; omega
  have hno : ¬ (0 < i ∧ (DigB c ∨ c.toNat = 95)) → ¬ NameOk t := fun h hk => (hk.2.2 i c hc).elim h1 h
  by_cases h2 : i = 0
  ·have hno := hno (by omega)
   subst h2
   rcases hl with hl | ⟨hl, hl2⟩
   ·simp [r0, r3, hi, hc', hl, hno]
   ·simp [r0, r3, hi, hc', hl, hl2, hno]
  have h2' : ¬ (i : Int) = 0 := by omega
  by_cases h3 : DigB c
  ·have h3a : (c.toNat : Int) ≥ 48 := by have := h3.1; omega
   have h3b : (c.toNat : Int) ≤ 57 := by have := h3.2; omega
   have h3c : ¬ (c.toNat : Int) ≥ 97 := by omega
   simp [r0, r3, hi, hc', h2, h3a, h3b, h3c, hw]
   exact hgo (.inr ⟨by omega, .inl h3⟩)
  have hd : (¬ (c.toNat : Int) ≥ 48) ∨ ((c.toNat : Int) ≥ 48 ∧ ¬ (c.toNat : Int) ≤ 57) := by unfold DigB at h3; omega
  by_cases h4 : c.toNat = 95
  ·have := hgo (.inr ⟨by omega, .inr h4⟩)
   simp [r0, r3, hi, hc', h2, h4, hw]
   exact this
  ·have h4' : ¬ (c.toNat : Int) = 95 := by omega
   have hno := hno (fun h => h.2.elim h3 h4)
   rcases hl with hl | ⟨hl, hl2⟩ <;> rcases hd with hd | ⟨hd, hd2⟩
   ·simp [r0, r3, hi, hc', h2, h4', hl, hd, hno]
   ·simp [r0, r3, hi, hc', h2, h4', hl, hd, hd2, hno]
   ·simp [r0, r3, hi, hc', h2, h4', hl, hl2, hd, hno]
   ·simp [r0, r3, hi, hc', h2, h4', hl, hl2, hd, hd2, hno]
theorem eH {c : UInt8} (h1 : 65 ≤ c.toNat) (h2 : c.toNat ≤ 90) : IntKind.u8.wrap ((c.toNat : Int) + 32) = ((lowC c).toNat : Int) := by
 have : lowC c = c + 32 := by unfold lowC; rw [if_pos ⟨h1, h2⟩]
 rw [this]
 unfold IntKind.wrap
 simp [IntKind.bits, IntKind.signed, UInt8.toNat_add]
theorem bT {c : UInt8} (h1 : 65 ≤ c.toNat) (h2 : c.toNat ≤ 90) : (lowC c).toNat = c.toNat + 32 := by
 have : lowC c = c + 32 := by unfold lowC; rw [if_pos ⟨h1, h2⟩]
 rw [this, UInt8.toNat_add]
 have : c.toNat + 32 < 256 := by omega
 simp
 omega
theorem fB {c : UInt8} (h : ¬ (65 ≤ c.toNat ∧ c.toNat ≤ 90)) : lowC c = c := by unfold lowC; rw [if_neg h]
theorem bI {c : UInt8} : c = 32 ↔ c.toNat = 32 := ⟨fun h => by rw [h]; rfl, fun h => UInt8.toNat_inj.1 h⟩
theorem bD {t : Str} {i : Nat} {c : UInt8} (h : t[i]? = some c) (f : Str → UInt8 → Str) (b : Str) : (t.take (i + 1)).foldl f b = f ((t.take i).foldl f b) c := by
 rw [take_get h, List.foldl_append]
 rfl
theorem ae {b : Str} {d : UInt8} (h : b.getLast? = some d) : endSp b = true ↔ d = 32 := by
 unfold endSp
 rw [h]
 simp
theorem aV {b : Str} (h : b ≠ []) : ∃ d, b.getLast? = some d := ⟨b.getLast h, List.getLast?_eq_some_getLast h⟩
theorem bW {t : Str} {H : List Ob} : callW C 186 [.str t] H = some (.str (norm t), H) := by
 apply Ret.eq
 rw [yI]
 by_cases g1 : (t.length : Int) > 100
 ·have : norm t = [] := by unfold norm; rw [if_neg (by omega)]
  simp [aS, Tryz.f186, g1, this]
 have hp := lW (t := t) (H := H) (by omega)
 by_cases g2 : Plain t
 rotate_left
 ·rw [dec_neg g2] at hp
  have : norm t = [] := by unfold norm; rw [dec_neg g2]; simp
  simp [aS, Tryz.f186, g1, hp, this]
 rw [dec_pos g2] at hp
 have hn : norm t = nfin (t.foldl nstep []) := by unfold norm; rw [if_pos ⟨by omega, dec_pos g2⟩]
 have hbz : ∀ i, ((t.take i).foldl nstep []).length ≤ 100 := fun i => by
  have := foldl_len (t.take i) []
  simp at this
  omega
 simp [aS, Tryz.f186, g1, hp, elemT, fillL, zerosL, St.new]
 refine WP_loop (fun k σ => ∃ (i : Nat) (r : Nat → R) (G : List Ob) (v : V), i + k = t.length ∧ σ = ⟨r, 0, G⟩ ∧ r 0 = .val (.str t) ∧ r 3 = .val v ∧ r 4 = .val (.int .i64 i) ∧ Bs H G v ((t.take i).foldl nstep [])) ?_ t.length _ ⟨0, _, _, _, by simp, rfl, by simp, by simp, by simp, Bs.init⟩
 rintro k σ ⟨i, r, G, v, hik, rfl, r0, r3, r4, hB⟩
 have hbl := hbz i
 generalize hb : (t.take i).foldl nstep [] = b at hB hbl
 have hw1 : IntKind.i64.wrap ((b.length : Int) - 1) = (b.length : Int) - 1 := wrap_i64 (by omega) (by omega)
 cases k with
 | zero =>
  have hi : i = t.length := by omega
  subst hi
  rw [List.take_length] at hb
  rw [hb] at hn
  obtain ⟨TT, rfl⟩ := hB.ext
  by_cases hb0 : b = []
  ·subst hb0
   obtain ⟨id, rfl, hst, hsl⟩ := hB.cut (n := 0) (Nat.le_refl _)
   simp [r0, r3, r4, hsl, isByte, bys_mapM, hn, nfin, endSp]
  ·obtain ⟨d, hd⟩ := aV hb0
   have hb1 : 0 < b.length := List.length_pos_iff.2 hb0
   have hb2 : 0 < (b.length : Int) := by omega
   have hb3 : (1 : Int) ≤ (b.length : Int) := by omega
   have hb5 : (b.length : Int) - 1 < (b.length : Int) := by omega
   have hb4 : ((b.length : Int) - 1).toNat = b.length - 1 := by omega
   obtain ⟨id, rfl, hld⟩ := hB.last hd
   by_cases hd32 : d = 32
   ·obtain ⟨_, hv, hst, hsl⟩ := hB.cut (n := b.length - 1) (by omega)
    cases hv
    have he : nfin b = b.take (b.length - 1) := by unfold nfin; rw [if_pos ((ae hd).2 hd32), List.dropLast_eq_take]
    have hd' : (d.toNat : Int) = 32 := by rw [hd32]; rfl
    simp [r0, r3, r4, hb0, hb1, hb2, hb3, hb4, hb5, hw1, hld, hd', hst, hsl, isByte, bys_mapM, hn, he]
   ·obtain ⟨_, hv, hst, hsl⟩ := hB.cut (n := b.length) (Nat.le_refl _)
    cases hv
    have he : nfin b = b := by unfold nfin; rw [if_neg (fun h => hd32 ((ae hd).1 h))]
    have hd' : ¬ (d.toNat : Int) = 32 := by have := mt bI.2 hd32; omega
    rw [List.take_length] at hsl
    simp [r0, r3, r4, hb0, hb1, hb2, hb3, hb4, hb5, hw1, hld, hd', hst, hsl, isByte, bys_mapM, hn, he]
 | succ k =>
  have hi : i < t.length := by omega
  obtain ⟨c, hc⟩ : ∃ c, t[i]? = some c := ⟨t[i], by simp [hi]⟩
  have hc' : t[i] = c := (List.getElem?_eq_some_iff.1 hc).2
  have hw : IntKind.i64.wrap ((i : Int) + 1) = ((i : Int) + 1) := wrap_i64 (by omega) (by omega)
  have hfs := bD hc nstep []
  rw [hb] at hfs
  have hgo : ∀ G' v', Bs H G' v' (nstep b c) → ∃ k', k' < k + 1 ∧ ∃ i', i' + k' = t.length ∧ (i : Int) + 1 = i' ∧ Bs H G' v' ((t.take i').foldl nstep []) := fun G' v' h =>
   ⟨k, by omega, i + 1, by omega, by omega, by rw [hfs]; exact h⟩
  by_cases hup : 65 ≤ c.toNat ∧ c.toNat ≤ 90
  ·have hu1 : (c.toNat : Int) ≥ 65 := by omega
   have hu2 : (c.toNat : Int) ≤ 90 := by omega
   have hlw := eH hup.1 hup.2
   have hl32 : ¬ ((lowC c).toNat : Int) = 32 := by rw [bT hup.1 hup.2]; omega
   have hns : nstep b c = b ++ [lowC c] := by unfold nstep; rw [if_neg (fun h => hl32 (by rw [bI.1 h.1]; rfl))]
   obtain ⟨v', G', ha, hB'⟩ := hB.push (by omega) (c := lowC c) (d := .int .u8) (z := [.int .u8 0]) rfl
   rw [← hns] at hB'
   simp [r0, r3, r4, hi, hc', hu1, hu2, hlw, hl32, elemT, fillL, zerosL, St.new, badArg, ha, hw]
   obtain ⟨k', q1, i', q2, q3, q4⟩ := hgo G' v' hB'
   exact ⟨k', q1, i', q2, _, _, ⟨rfl, rfl⟩, by simp [r0], _, by simp [r3], by simp [q3], q4⟩
  have hlc := fB hup
  have hu : (¬ (c.toNat : Int) ≥ 65) ∨ ((c.toNat : Int) ≥ 65 ∧ ¬ (c.toNat : Int) ≤ 90) := by omega
  by_cases h32 : c = 32
  ·have h32' : (c.toNat : Int) = 32 := by rw [h32]; rfl
   have hu1 : ¬ (c.toNat : Int) ≥ 65 := by omega
   by_cases hb0 : b = []
   ·have hns : nstep b c = b := by unfold nstep; rw [if_pos ⟨by rw [hlc, h32], .inl hb0⟩]
    rw [hns] at hgo
    have hbl0 : b.length = 0 := by rw [hb0]; rfl
    have := hgo G v hB
    simp [r0, r3, r4, hi, hc', h32', hB.len, hbl0, hw]
    obtain ⟨k', q1, i', q2, q3, q4⟩ := this
    exact ⟨k', q1, i', q2, _, _, ⟨rfl, rfl⟩, by simp [r0], _, by simp [r3], by simp [q3], q4⟩
   ·obtain ⟨d, hd⟩ := aV hb0
    have hb1 : 0 < b.length := List.length_pos_iff.2 hb0
    have hb3 : (1 : Int) ≤ (b.length : Int) := by omega
    have hb5 : (b.length : Int) - 1 < (b.length : Int) := by omega
    have hb4 : ((b.length : Int) - 1).toNat = b.length - 1 := by omega
    obtain ⟨id, hv, hld⟩ := hB.last hd
    have hB0 := hB
    subst hv
    by_cases hd32 : d = 32
    ·have hns : nstep b c = b := by unfold nstep; rw [if_pos ⟨by rw [hlc, h32], .inr ((ae hd).2 hd32)⟩]
     rw [hns] at hgo
     have hd' : (d.toNat : Int) = 32 := by rw [hd32]; rfl
     have := hgo G _ hB
     simp [r0, r3, r4, hi, hc', h32', hb0, hb1, hb3, hb4, hb5, hw1, hld, hd', hw]
     obtain ⟨k', q1, i', q2, q3, q4⟩ := this
     exact ⟨k', q1, i', q2, _, _, ⟨rfl, rfl⟩, by simp [r0], _, by simp [r3], by simp [q3], q4⟩
    ·have hns : nstep b c = b ++ [c] := by unfold nstep; rw [if_neg (fun h => h.2.elim hb0 (fun h => hd32 ((ae hd).1 h))), hlc]
     have hd' : ¬ (d.toNat : Int) = 32 := by have := mt bI.2 hd32; omega
     obtain ⟨v', G', ha, hB'⟩ := hB.push (by omega) (c := c) (d := .int .u8) (z := [.int .u8 0]) rfl
     rw [← hns] at hB'
     rw [h32'] at ha
     simp [r0, r3, r4, hi, hc', h32', hb0, hb1, hb3, hb4, hb5, hw1, hld, hd', elemT, fillL, zerosL, St.new, badArg, ha, hw]
     obtain ⟨k', q1, i', q2, q3, q4⟩ := hgo G' v' hB'
     exact ⟨k', q1, i', q2, _, _, ⟨rfl, rfl⟩, by simp [r0], _, by simp [r3], by simp [q3], q4⟩
  ·have h32' : ¬ (c.toNat : Int) = 32 := by have := mt bI.2 h32; omega
   have hns : nstep b c = b ++ [c] := by unfold nstep; rw [if_neg (fun h => h32 (hlc ▸ h.1)), hlc]
   obtain ⟨v', G', ha, hB'⟩ := hB.push (by omega) (c := c) (d := .int .u8) (z := [.int .u8 0]) rfl
   rw [← hns] at hB'
   have := hgo G' v' hB'
   rcases hu with hu | ⟨hu, hu2⟩
   ·simp [r0, r3, r4, hi, hc', hu, h32', elemT, fillL, zerosL, St.new, badArg, ha, hw]
    obtain ⟨k', q1, i', q2, q3, q4⟩ := this
    exact ⟨k', q1, i', q2, _, _, ⟨rfl, rfl⟩, by simp [r0], _, by simp [r3], by simp [q3], q4⟩
   ·simp [r0, r3, r4, hi, hc', hu, hu2, h32', elemT, fillL, zerosL, St.new, badArg, ha, hw]
    obtain ⟨k', q1, i', q2, q3, q4⟩ := this
    exact ⟨k', q1, i', q2, _, _, ⟨rfl, rfl⟩, by simp [r0], _, by simp [r3], by simp [q3], q4⟩
def ag (s w : Str) : Prop := w.length ≤ s.length ∧ s.drop (s.length - w.length) = w
theorem hasSuffix {s w : Str} {H : List Ob} (hs : s.length ≤ 1000000) (hw : w.length ≤ 1000000) : callW C 336 [.str s, .str w] H = some (.bool (dec (ag s w)), H) := by
 apply Ret.dec
 rw [wK]
 by_cases h1 : (s.length : Int) ≥ w.length
 ·have hw1 : IntKind.i64.wrap ((s.length : Int) - w.length) = (s.length : Int) - w.length := wrap_i64 (by omega) (by omega)
  have h2 : (w.length : Int) ≤ (s.length : Int) := h1
  have h3 : ((s.length : Int) - w.length).toNat = s.length - w.length := by omega
  have h4 : (0 : Int) ≤ (s.length : Int) - w.length := by omega
  have h5 : w.length ≤ s.length := by omega
  by_cases h6 : s.drop (s.length - w.length) = w
  ·have hn : ag s w := ⟨h5, h6⟩
   simp [aN, Tryz.f336, h1, h2, h3, h4, h5, hw1, h6, hn]
  ·have hn : ¬ ag s w := fun h => h6 h.2
   simp [aN, Tryz.f336, h1, h2, h3, h4, h5, hw1, h6, hn]
 ·have hn : ¬ ag s w := fun h => h1 (by have := h.1; omega)
  simp [aN, Tryz.f336, h1, hn]
noncomputable def ax (s w : Str) : Str := if dec (ag s w) = true then s.take (s.length - w.length) else s
theorem dH {s w : Str} {H : List Ob} (hs : s.length ≤ 1000000) (hw : w.length ≤ 1000000) : callW C 315 [.str s, .str w] H = some (.str (ax s w), H) := by
 apply Ret.eq
 rw [xU]
 have hc := hasSuffix (H := H) hs hw
 by_cases h : ag s w
 ·rw [dec_pos h] at hc
  have h0 := h.1
  have hw1 : IntKind.i64.wrap ((s.length : Int) - w.length) = (s.length : Int) - w.length := wrap_i64 (by omega) (by omega)
  have h2 : (w.length : Int) ≤ (s.length : Int) := by omega
  have h3 : ((s.length : Int) - w.length).toNat = s.length - w.length := by omega
  have ht : ax s w = s.take (s.length - w.length) := by unfold ax; rw [dec_pos h]; rfl
  simp [bg, Tryz.f315, hc, hw1, h2, h3, ht]
 ·rw [dec_neg h] at hc
  have ht : ax s w = s := by unfold ax; rw [dec_neg h]; rfl
  simp [bg, Tryz.f315, hc, ht]
theorem dY {s : Str} : ax s [32] = nfin s := by
 have he : ag s [32] ↔ endSp s = true := by
  unfold ag endSp
  cases hl : s.getLast? with
  | none =>
   have : s = [] := by simpa using hl
   subst this
   simp
  | some d =>
   have hne : s ≠ [] := by rintro rfl; simp at hl
   have h1 : 1 ≤ s.length := List.length_pos_iff.2 hne
   rw [List.getLast?_eq_getElem?] at hl
   have h2 : s.drop (s.length - 1) = [d] := by
    apply List.ext_getElem?
    intro j
    rw [List.getElem?_drop]
    cases j with
    | zero => simpa using hl
    | succ j => simp; omega
   simp [h1, h2]
 unfold ax nfin
 by_cases h : endSp s = true
 ·rw [dec_pos (he.2 h), if_pos rfl, if_pos h, List.dropLast_eq_take]
  rfl
 ·rw [dec_neg (mt he.1 h), if_neg (by simp), if_neg h]
theorem oO {s : Str} {H : List Ob} (hs : s.length ≤ 1000000) : callW C 272 [.str s, .str [32]] H = some (.str (nfin s), H) := by
 apply Ret.eq
 rw [xC]
 have hc := dH (H := H) hs (w := [32]) (by simp)
 rw [dY] at hc
 simp [dw, Tryz.f272, hc]
theorem bi {t : Str} {H : List Ob} : callW C 199 [.str t] H = some (.str (norm t), H) := by
 apply Ret.eq
 rw [wS]
 by_cases g1 : (t.length : Int) > 100
 ·have : norm t = [] := by unfold norm; rw [if_neg (by omega)]
  simp [aP, Tryz.f199, g1, this]
 have hp := lu (t := t) (H := H) (by omega)
 by_cases g2 : Plain t
 rotate_left
 ·rw [dec_neg g2] at hp
  have : norm t = [] := by unfold norm; rw [dec_neg g2]; simp
  simp [aP, Tryz.f199, g1, hp, this]
 rw [dec_pos g2] at hp
 have hn : norm t = nfin (t.foldl nstep []) := by unfold norm; rw [if_pos ⟨by omega, dec_pos g2⟩]
 have hbz : ∀ i, ((t.take i).foldl nstep []).length ≤ 100 := fun i => by
  have := foldl_len (t.take i) []
  simp at this
  omega
 simp [aP, Tryz.f199, g1, hp, elemT, fillL, zerosL, St.new]
 refine WP_loop (fun k σ => ∃ (i : Nat) (r : Nat → R) (G : List Ob) (v : V), i + k = t.length ∧ σ = ⟨r, 0, G⟩ ∧ r 0 = .val (.str t) ∧ r 3 = .val v ∧ r 16 = .val (.int .i64 t.length) ∧ r 17 = .val (.int .i64 i) ∧ Bs H G v ((t.take i).foldl nstep [])) ?_ t.length _ ⟨0, _, _, _, by simp, rfl, by simp, by simp, by simp, by simp, Bs.init⟩
 rintro k σ ⟨i, r, G, v, hik, rfl, r0, r3, r16, r17, hB⟩
 have hbl := hbz i
 generalize hb : (t.take i).foldl nstep [] = b at hB hbl
 have hw1 : IntKind.i64.wrap ((b.length : Int) - 1) = (b.length : Int) - 1 := wrap_i64 (by omega) (by omega)
 cases k with
 | zero =>
  have hi : i = t.length := by omega
  subst hi
  rw [List.take_length] at hb
  rw [hb] at hn
  obtain ⟨TT, rfl⟩ := hB.ext
  obtain ⟨id, rfl, hst, hsl⟩ := hB.cut (n := b.length) (Nat.le_refl _)
  rw [List.take_length] at hsl
  have hts := oO (s := b) (H := H ++ TT) (by omega)
  simp [r0, r3, r16, r17, hsl, isByte, bys_mapM, hn, hts]
 | succ k =>
  have hi : i < t.length := by omega
  obtain ⟨c, hc⟩ : ∃ c, t[i]? = some c := ⟨t[i], by simp [hi]⟩
  have hc' : t[i] = c := (List.getElem?_eq_some_iff.1 hc).2
  have hw : IntKind.i64.wrap ((i : Int) + 1) = ((i : Int) + 1) := wrap_i64 (by omega) (by omega)
  have hfs := bD hc nstep []
  rw [hb] at hfs
  have hgo : ∀ G' v', Bs H G' v' (nstep b c) → ∃ k', k' < k + 1 ∧ ∃ i', i' + k' = t.length ∧ (i : Int) + 1 = i' ∧ Bs H G' v' ((t.take i').foldl nstep []) := fun G' v' h =>
   ⟨k, by omega, i + 1, by omega, by omega, by rw [hfs]; exact h⟩
  by_cases hup : 65 ≤ c.toNat ∧ c.toNat ≤ 90
  ·have hu1 : (c.toNat : Int) ≥ 65 := by omega
   have hu2 : (c.toNat : Int) ≤ 90 := by omega
   have hlw := eH hup.1 hup.2
   have hl32 : ¬ ((lowC c).toNat : Int) = 32 := by rw [bT hup.1 hup.2]; omega
   have hns : nstep b c = b ++ [lowC c] := by unfold nstep; rw [if_neg (fun h => hl32 (by rw [bI.1 h.1]; rfl))]
   obtain ⟨v', G', ha, hB'⟩ := hB.push (by omega) (c := lowC c) (d := .int .u8) (z := [.int .u8 0]) rfl
   rw [← hns] at hB'
   simp [r0, r3, r16, r17, hi, hc', hu1, hu2, hlw, hl32, elemT, fillL, zerosL, St.new, badArg, ha, hw]
   obtain ⟨k', q1, i', q2, q3, q4⟩ := hgo G' v' hB'
   exact ⟨k', q1, i', q2, _, _, ⟨rfl, rfl⟩, by simp [r0], _, by simp [r3], by simp [r16], by simp [q3], q4⟩
  have hlc := fB hup
  have hu : (¬ (c.toNat : Int) ≥ 65) ∨ ((c.toNat : Int) ≥ 65 ∧ ¬ (c.toNat : Int) ≤ 90) := by omega
  by_cases h32 : c = 32
  ·have h32' : (c.toNat : Int) = 32 := by rw [h32]; rfl
   have hu1 : ¬ (c.toNat : Int) ≥ 65 := by omega
   by_cases hb0 : b = []
   ·have hns : nstep b c = b := by unfold nstep; rw [if_pos ⟨by rw [hlc, h32], .inl hb0⟩]
    rw [hns] at hgo
    have hbl0 : b.length = 0 := by rw [hb0]; rfl
    simp [r0, r3, r16, r17, hi, hc', h32', hB.len, hbl0, hw]
    obtain ⟨k', q1, i', q2, q3, q4⟩ := hgo G v hB
    exact ⟨k', q1, i', q2, _, _, ⟨rfl, rfl⟩, by simp [r0], _, by simp [r3], by simp [r16], by simp [q3], q4⟩
   ·obtain ⟨d, hd⟩ := aV hb0
    have hb1 : 0 < b.length := List.length_pos_iff.2 hb0
    have hb3 : (1 : Int) ≤ (b.length : Int) := by omega
    have hb5 : (b.length : Int) - 1 < (b.length : Int) := by omega
    have hb4 : ((b.length : Int) - 1).toNat = b.length - 1 := by omega
    obtain ⟨id, hv, hld⟩ := hB.last hd
    subst hv
    by_cases hd32 : d = 32
    ·have hns : nstep b c = b := by unfold nstep; rw [if_pos ⟨by rw [hlc, h32], .inr ((ae hd).2 hd32)⟩]
     rw [hns] at hgo
     have hd' : (d.toNat : Int) = 32 := by rw [hd32]; rfl
     simp [r0, r3, r16, r17, hi, hc', h32', hb0, hb1, hb3, hb4, hb5, hw1, hld, hd', hw]
     obtain ⟨k', q1, i', q2, q3, q4⟩ := hgo G _ hB
     exact ⟨k', q1, i', q2, _, _, ⟨rfl, rfl⟩, by simp [r0], _, by simp [r3], by simp [r16], by simp [q3], q4⟩
    ·have hns : nstep b c = b ++ [c] := by unfold nstep; rw [if_neg (fun h => h.2.elim hb0 (fun h => hd32 ((ae hd).1 h))), hlc]
     have hd' : ¬ (d.toNat : Int) = 32 := by have := mt bI.2 hd32; omega
     obtain ⟨v', G', ha, hB'⟩ := hB.push (by omega) (c := c) (d := .int .u8) (z := [.int .u8 0]) rfl
     rw [← hns] at hB'
     rw [h32'] at ha
     simp [r0, r3, r16, r17, hi, hc', h32', hb0, hb1, hb3, hb4, hb5, hw1, hld, hd', elemT, fillL, zerosL, St.new, badArg, ha, hw]
     obtain ⟨k', q1, i', q2, q3, q4⟩ := hgo G' v' hB'
     exact ⟨k', q1, i', q2, _, _, ⟨rfl, rfl⟩, by simp [r0], _, by simp [r3], by simp [r16], by simp [q3], q4⟩
  ·have h32' : ¬ (c.toNat : Int) = 32 := by have := mt bI.2 h32; omega
   have hns : nstep b c = b ++ [c] := by unfold nstep; rw [if_neg (fun h => h32 (hlc ▸ h.1)), hlc]
   obtain ⟨v', G', ha, hB'⟩ := hB.push (by omega) (c := c) (d := .int .u8) (z := [.int .u8 0]) rfl
   rw [← hns] at hB'
   obtain ⟨k', q1, i', q2, q3, q4⟩ := hgo G' v' hB'
   rcases hu with hu | ⟨hu, hu2⟩
   ·simp [r0, r3, r16, r17, hi, hc', hu, h32', elemT, fillL, zerosL, St.new, badArg, ha, hw]
    exact ⟨k', q1, i', q2, _, _, ⟨rfl, rfl⟩, by simp [r0], _, by simp [r3], by simp [r16], by simp [q3], q4⟩
   ·simp [r0, r3, r16, r17, hi, hc', hu, hu2, h32', elemT, fillL, zerosL, St.new, badArg, ha, hw]
    exact ⟨k', q1, i', q2, _, _, ⟨rfl, rfl⟩, by simp [r0], _, by simp [r3], by simp [r16], by simp [q3], q4⟩
theorem kT {t : Str} {H : List Ob} : callW C 217 [.str t] H = some (.bool (dec (ValueOk t)), H) := by
 apply Ret.dec
 rw [zl]
 have hn := bW (t := t) (H := H)
 by_cases g1 : (t.length : Int) ≥ 1
 ·by_cases g2 : (t.length : Int) ≤ 40
  ·by_cases g3 : norm t = []
   ·have hv : ¬ ValueOk t := fun h => h.2.2 g3
    simp [aF, Tryz.f217, g1, g2, hn, g3, hv]
   ·have hv : ValueOk t := ⟨by omega, by omega, g3⟩
    simp [aF, Tryz.f217, g1, g2, hn, g3, hv]
  ·have : ¬ ValueOk t := fun h => by have := h.2.1; omega
   simp [aF, Tryz.f217, g1, g2, this]
 ·have : ¬ ValueOk t := fun h => by have := h.1; omega
  simp [aF, Tryz.f217, g1, this]
theorem kW {t : Str} {H : List Ob} : callW C 293 [.str t] H = some (.bool (dec (ValueOk t)), H) := by
 apply Ret.dec
 rw [x9]
 have hn := bi (t := t) (H := H)
 by_cases g1 : (t.length : Int) ≥ 1
 ·by_cases g2 : (t.length : Int) ≤ 40
  ·by_cases g3 : norm t = []
   ·have hv : ¬ ValueOk t := fun h => h.2.2 g3
    simp [aB, Tryz.f293, g1, g2, hn, g3, hv]
   ·have hv : ValueOk t := ⟨by omega, by omega, g3⟩
    simp [aB, Tryz.f293, g1, g2, hn, g3, hv]
  ·have : ¬ ValueOk t := fun h => by have := h.2.1; omega
   simp [aB, Tryz.f293, g1, g2, this]
 ·have : ¬ ValueOk t := fun h => by have := h.1; omega
  simp [aB, Tryz.f293, g1, this]
theorem iT {a b : Str} {H : List Ob} : callW C 362 [.str a, .str b] H = some (.int .i64 (Lib.compareBytes a b), H) :=
 callW_prim (pr := cmpPrim) rfl
theorem aX {a b : Str} {H : List Ob} : callW C 353 [.str a, .str b] H = some (.int .i64 (Lib.compareBytes a b), H) := by
 apply Ret.eq
 rw [wJ]
 simp [di, Tryz.f353, iT]
theorem fO {a b : Str} {H : List Ob} : callW C 334 [.str a, .str b] H = some (.int .i64 (Lib.compareBytes a b), H) := by
 apply Ret.eq
 rw [xM]
 simp [cu, Tryz.f334, aX]
theorem mD {a b : Str} {H : List Ob} : callW C 310 [.str a, .str b] H = some (.int .i64 (Lib.compareBytes (norm a) (norm b)), H) := by
 apply Ret.eq
 rw [wV]
 have c1 := bi (t := a) (H := H)
 have c2 := bi (t := b) (H := H)
 simp [cZ, Tryz.f310, c1, c2, fO]
end Go.Proofs.Try0
end
section
namespace Go.Proofs.Try1
open Go Go.Lite
theorem A7 [Draws] : ProgOk Tryz.prog Try0.C := progB_sound Try0.mixed Try0.ok fun g pr h => by
 change Try0.primTab g = some pr at h
 unfold Try0.primTab at h
 split at h
 ·rename_i hg; subst hg; cases h; exact yU
 ·cases h
end Go.Proofs.Try1
end
section
namespace Go.Lite
open Go
variable [Draws]
theorem wpIn_count {ro : Option Nat} {n m : Nat} {P : Program} {c : Code} {Q : Exit → Act → World → Prop} {a : Act} {w : World} (h : c.wpIn (rf ro) n P Q a w) : c.wpIn (rf ro) m P Q a w :=
 fun b k cs h1 h2 _ => h b k cs h1 h2 (fun d hd => by cases hd)
theorem wp_round {P : Program} {C : Ctx} (hp : ProgOk P C) {f : Nat} {c : Code} {σ σ' : St} {μ : Mu} {β : List Nat} {a : Act} {w : World} {ex : Ex} {Q : Exit → Act → World → Prop} {ro : Option Nat} {n : Nat}
  (hs : Sim (C.locs f) σ μ β a w) (hc : CodeOk P C f a.tmps.size c) (h : execW C f c σ = some (ex, σ')) (hq : ∀ a' w', Leads (C.locs f) σ μ β a w σ' a' w' → Q (toExit ex) a' w') : c.wpIn (rf ro) n P Q a w := by
 obtain ⟨m, hm⟩ := execW_iff.1 h
 exact wpIn_count (exec_sound hp.ty (callN_ok hp m) c hs hc hm hq)
end Go.Lite
end
section
namespace Go.Proofs.Try0
open Go Go.Lite Go.RowKit Go.Shelf
attribute [local go_sem] Oper.semAt_some
abbrev DkE := { p : ByteArray × ByteArray // p.1.size ≤ 1048576 ∧ p.2.size ≤ 1048576 }
def DkE.encs (x : Int × DkE) : Array Value := #[.int .i64 x.1, .agg #[.string x.2.1.1, .string x.2.1.2]]
instance : Inhabited DkE := ⟨⟨(.empty, .empty), by decide, by decide⟩⟩
def aA (zs : List DkE) (k : Nat) : List (Int × DkE) := (List.range k).map fun j => (((zs.length - 1 - j : Nat) : Int), zs[zs.length - 1 - j]!)
theorem nT (zs : List DkE) (k : Nat) : aA zs (k + 1) = aA zs k ++ [(((zs.length - 1 - k : Nat) : Int), zs[zs.length - 1 - k]!)] := by simp [aA, List.range_succ]
theorem jG (zs : List DkE) (k : Nat) : (aA zs k).length = k := by simp [aA]
def DkKp (n₀ Bs : Nat) (A B : World) : Prop := Below n₀ A B ∧ ∀ v, A.cell? ⟨Bs, 0, none⟩ = some v → B.cell? ⟨Bs, 0, none⟩ = some v
theorem DkKp.refl (n₀ Bs : Nat) (A : World) : DkKp n₀ Bs A A := ⟨Below.refl _ _, fun _ h => h⟩
theorem DkKp.trans {n₀ Bs : Nat} {A B C : World} (h : DkKp n₀ Bs A B) (k : DkKp n₀ Bs B C) : DkKp n₀ Bs A C := ⟨h.1.trans k.1, fun v e => k.2 v (h.2 v e)⟩
theorem Dy {n₀ Bs : Nat} {w : World} (hn : n₀ ≤ w.heap.size) (W : World) (l : Nat) (o o' : Obj) (hl : w.heap.size ≤ l) (h : W.heap[l]? = some o) (hc : o.isCells = false) (hw : o.isWalk = false) : DkKp n₀ Bs W (W.putObj l o') :=
 ⟨belowK_b hn W l o o' hl h hc hw, fun v hv => by
  by_cases e : Bs = l
  ·subst e
   simp only [World.cell?] at hv
   rw [h] at hv
   cases o <;> simp_all [Obj.isCells]
  ·rw [← hv]
   exact World.cell?_of_block (World.putObj_heap_other (by simpa using e))⟩
theorem yK (l Bs n₀ b off cap : Nat) (zs : List DkE) (hlen : zs.length ≤ 1048576) (hb : b < n₀) (J Jx : List (Int × DkE) → World → Prop) (n : Nat)
  (hY : ∀ pre x W, J pre W → pre.length < zs.length → YieldAt Fence.wide n Tryz.prog l (DkE.encs x) W fun e W' =>
   (e = .returned (.bool true) ∧ J (pre ++ [x]) W' ∧ DkKp n₀ Bs W W') ∨ (e = .returned (.bool false) ∧ Jx (pre ++ [x]) W'))
  (W : World) (hBs : W.cell? ⟨Bs, 0, none⟩ = some (.slice (some ⟨b, off, none⟩) zs.length cap))
  (hc : ∀ j, j < zs.length → W.cell? ⟨b, off + j * 2, none⟩ = some (.string zs[j]!.1.1) ∧ W.cell? ⟨b, off + j * 2 + 1, none⟩ = some (.string zs[j]!.1.2)) (h0 : J [] W) :
  CallsIn Fence.wide (n + 1) Tryz.prog 270 #[.func (.yield l) #[] #[], .pointer (some ⟨Bs, 0, none⟩)] W fun e W' => (∃ v, e = .returned v) ∧
   ((∃ ys, ys = aA zs zs.length ∧ J ys W') ∨ (∃ pre, (∃ k, k ≤ zs.length ∧ pre = aA zs k) ∧ Jx pre W')) := by
 refine callsIn_of_wp Tryz.func270 rfl trivial ?_ rfl
 simp only [Tryz.ntmps270, List.size_toArray, List.length_cons, List.length_nil, Nat.reduceAdd, Nat.reduceSub, Array.replicate_succ, Array.replicate_zero, List.push_toArray, List.append_toArray, List.nil_append, List.cons_append]
 gi_wp2
 gi_loopw [3] (fun i wr => ∃ k : Nat, k ≤ zs.length ∧ i = .int .i64 ((zs.length : Int) - 1 - k) ∧ J (aA zs k) wr ∧ DkKp n₀ Bs W wr)
  (fun i _ => (intOf i + 1).toNat)
 case atStart => exact ⟨0, Nat.zero_le _, by simp, h0, DkKp.refl _ _ _⟩
 case round =>
  obtain ⟨k, hk, rfl, hJs, hnx⟩ := hrel
  have hBx : wr.cell? ⟨Bs, 0, none⟩ = some (.slice (some ⟨b, off, none⟩) zs.length cap) := hnx.2 _ hBs
  by_cases hlt : k < zs.length
  ·obtain ⟨q, hqk⟩ : ∃ q : Nat, q + k + 1 = zs.length := ⟨zs.length - 1 - k, by omega⟩
   have hqz : zs.length - 1 - k = q := by omega
   have hUs := nT zs k
   rw [hqz] at hUs
   obtain ⟨hc1, hc2⟩ := hc q (by omega)
   generalize zs[q]! = z at hUs hc1 hc2
   obtain ⟨fn, tmps, assign, body, hy, hR⟩ := hY _ ((q : Int), z) wr hJs (by rw [jG]; exact hlt)
   replace hc1 := (hnx.1.cell (p := ⟨b, off + q * 2, none⟩) hb).trans hc1
   replace hc2 := (hnx.1.cell (p := ⟨b, off + q * 2 + 1, none⟩) hb).trans hc2
   dsimp only [DkE.encs] at hy
   rw [show ((zs.length : Int) - 1 - k) = (q : Int) by omega]
   have hq1 : q < zs.length := by omega
   clear hqz hlt
   gi_wp2
   refine hR.mono ?_
   rintro e W3 (⟨rfl, hJ3, hk3⟩ | ⟨rfl, hJx3⟩)
   ·gi_wp2
    go_roundw
    case rel => exact ⟨k + 1, by omega, by congr 1; omega, by rw [hUs]; exact hJ3, hnx.trans hk3⟩
    case measure => simp [intOf]
   ·gi_wp2
    refine bodyPost_ret (results_none rfl _ _ _) rfl ?_
    exact ⟨⟨_, rfl⟩, .inr ⟨_, ⟨k + 1, by omega, hUs.symm⟩, hJx3⟩⟩
  ·obtain rfl : k = zs.length := by omega
   rw [show ((zs.length : Int) - 1 - (zs.length : Nat)) = -1 by omega]
   gi_wp2
   go_end0
   exact ⟨⟨_, rfl⟩, .inl ⟨_, rfl, hJs⟩⟩
theorem lS (l Bs cap : Nat) (p : Option Addr) (J : List (Int × DkE) → World → Prop) (n : Nat) (W : World) (hBs : W.cell? ⟨Bs, 0, none⟩ = some (.slice p 0 cap)) (h0 : J [] W) :
  CallsIn Fence.wide (n + 1) Tryz.prog 270 #[.func (.yield l) #[] #[], .pointer (some ⟨Bs, 0, none⟩)] W fun e W' => (∃ v, e = .returned v) ∧ J [] W' := by
 refine callsIn_of_wp Tryz.func270 rfl trivial ?_ rfl
 simp only [Tryz.ntmps270, List.size_toArray, List.length_cons, List.length_nil, Nat.reduceAdd, Nat.reduceSub, Array.replicate_succ, Array.replicate_zero, List.push_toArray, List.append_toArray, List.nil_append, List.cons_append]
 gi_wp2
 gi_loopw [3] (fun i wr => i = .int .i64 (-1) ∧ J [] wr) (fun _ _ => 0)
 case atStart => exact ⟨rfl, h0⟩
 case round =>
  obtain ⟨rfl, hJs⟩ := hrel
  gi_wp2
  go_end0
  exact ⟨⟨_, rfl⟩, hJs⟩
theorem zD (n : Nat) (a : Option Addr) (len cap : Nat) (w : World) :
  CallsIn Fence.wide n Tryz.prog 198 #[.slice a len cap] w fun e w' => e = .returned (.func (.func 270) #[] #[.pointer (some ⟨w.heap.size, 0, none⟩)]) ∧ w' = w.alloc (.cells #[.slice a len cap] 56) := by
 refine callsIn_of_wp Tryz.func198 rfl trivial ?_ rfl
 simp only [Tryz.ntmps198, List.size_toArray, List.length_cons, List.length_nil, Nat.reduceAdd, Nat.reduceSub, Array.replicate_succ, Array.replicate_zero, List.push_toArray, List.append_toArray, List.nil_append, List.cons_append]
 gi_wp2
 go_ret
 exact ⟨rfl, rfl⟩
def DkAt (n₀ : Nat) (W : World) (sv : Value) (zs : List DkE) : Prop :=
 (∃ p cap, sv = .slice p 0 cap ∧ zs = []) ∨ ∃ b off cap, sv = .slice (some ⟨b, off, none⟩) zs.length cap ∧ b < n₀ ∧ ∀ j, j < zs.length → W.cell? ⟨b, off + j * 2, none⟩ = some (.string zs[j]!.1.1) ∧ W.cell? ⟨b, off + j * 2 + 1, none⟩ = some (.string zs[j]!.1.2)
theorem DkAt.below {n₀ : Nat} {A B : World} (h : Below n₀ A B) {sv : Value} {zs : List DkE} : DkAt n₀ A sv zs → DkAt n₀ B sv zs
 | .inl e => .inl e
 | .inr ⟨b, off, cap, e, hb, hc⟩ => .inr ⟨b, off, cap, e, hb, fun j hj => ⟨(h.cell (p := ⟨b, off + j * 2, none⟩) hb).trans (hc j hj).1, (h.cell (p := ⟨b, off + j * 2 + 1, none⟩) hb).trans (hc j hj).2⟩⟩
theorem zn (n Bs n₀ : Nat) (sv : Value) (zs : List DkE) (hlen : zs.length ≤ 1048576) (w : World) (hBs : Bs < w.heap.size) (hn₀ : n₀ ≤ w.heap.size)
  (hc : w.cell? ⟨Bs, 0, none⟩ = some sv) (hI : DkAt n₀ w sv zs) :
  SeqStopsK Fence.wide (n + 1) Tryz.prog 270 #[.pointer (some ⟨Bs, 0, none⟩)] DkE.encs (DkKp n₀ Bs) (fun ys => ys = aA zs zs.length) (fun pre => ∃ k, k ≤ zs.length ∧ pre = aA zs k) zs.length w := fun l J Jx W hW _ _ hY h0 => by
 have hc' := (hW.cell (p := ⟨Bs, 0, none⟩) hBs).trans hc
 rcases hI.below (hW.mono hn₀) with ⟨p, cap, rfl, rfl⟩ | ⟨b, off, cap, rfl, hb, hcs⟩
 ·exact (lS l Bs cap p J n W hc' h0).mono fun e W' ⟨he, hj⟩ => ⟨he, .inl ⟨_, rfl, hj⟩⟩
 ·refine (yK l Bs n₀ b off cap zs hlen hb J Jx n hY W hc' hcs h0).mono ?_
  rintro e W' ⟨he, h⟩
  exact ⟨he, h⟩
def bV (nb : ByteArray → ByteArray) (s : ByteArray) (x : Int × DkE) : ByteArray := s ++ ((((⟨#[1]⟩ : ByteArray) ++ x.2.1.1) ++ (⟨#[61]⟩ : ByteArray)) ++ nb x.2.1.2)
def bM (nb : ByteArray → ByteArray) (l : List (Int × DkE)) : ByteArray := l.foldl (bV nb) .empty
theorem oJ (nb : ByteArray → ByteArray) (l : List (Int × DkE)) (x : Int × DkE) : bM nb (l ++ [x]) = bV nb (bM nb l) x := by simp [bM]
theorem nX {nb : ByteArray → ByteArray} (hn : ∀ b, (nb b).size ≤ b.size + 100) : ∀ (l : List (Int × DkE)) (s : ByteArray), (l.foldl (bV nb) s).size ≤ s.size + l.length * 4194304 := by
 intro l
 induction l with
 | nil => intro s; simp
 | cons x l ih =>
  intro s
  have h := ih (bV nb s x)
  have h1 := x.2.2.1
  have h2 := x.2.2.2
  have h3 := hn x.2.1.2
  have e1 : (⟨#[1]⟩ : ByteArray).size = 1 := rfl
  have e2 : (⟨#[61]⟩ : ByteArray).size = 1 := rfl
  simp only [List.foldl_cons, List.length_cons]
  simp only [bV, ByteArray.size_append] at h ⊢
  omega
theorem oP {nb : ByteArray → ByteArray} (hn : ∀ b, (nb b).size ≤ b.size + 100) (l : List (Int × DkE)) : (bM nb l).size ≤ l.length * 4194304 := by
 have h := nX hn l .empty
 have e : (ByteArray.empty).size = 0 := rfl
 rw [e] at h
 rw [bM]
 omega
def PX (W : World) (B : Nat) (x : DkE) : Prop := W.heap[B]? = some (.cells #[.string x.1.1, .string x.1.2] 202 (0, 0))
def CellS (W : World) (B : Nat) (k : ByteArray) : Prop := W.cell? ⟨B, 0, none⟩ = some (.string k) ∧ W.frozen? ⟨B, 0, none⟩ = false
theorem CellS.lt {W : World} {B : Nat} {k : ByteArray} (h : CellS W B k) : B < W.heap.size := by
 have := h.1
 simp only [World.cell?] at this
 cases e : W.heap[B]? with
 | none => rw [e] at this; cases this
 | some o => exact (Array.getElem?_eq_some_iff.1 e).1
theorem CellS.block {W W' : World} {B : Nat} {k : ByteArray} (h : CellS W B k) (hb : W'.heap[B]? = W.heap[B]?) : CellS W' B k := ⟨(World.cell?_of_block hb).trans h.1, (World.frozen?_of_block hb).trans h.2⟩
def jd : Code → Code
 | .rangeFunc _ _ _ b => b
 | .seq a b => match jd a with
  | .skip => jd b
  | c => c
 | .block _ b => jd b
 | _ => .skip
noncomputable def bodyC : Code := jd sS
theorem Dz : CodeOk Tryz.prog C 112 21 bodyC := codeB_sound (tyOf_ok _) mixed (by decide +kernel)
noncomputable def dV (b : ByteArray) : ByteArray := ⟨(norm b.data.toList).toArray⟩
def fD (key s v : ByteArray) : Nat → R := fun t => if t = 3 then .box 0 [.str key.data.toList] else if t = 5 then .box 1 [.str s.data.toList, .str v.data.toList] else .val .undef
theorem vC (b : ByteArray) : (dV b).size ≤ b.size + 100 := by
 have := norm_len (t := b.data.toList)
 show (norm b.data.toList).toArray.size ≤ _
 simp
 omega
theorem yB (key s v : ByteArray) (h1 : key.size ≤ 4398046511104) (h2 : s.size ≤ 1048576) (h3 : v.size ≤ 1048576) :
  WP C 112 bodyC ⟨fD key s v, 2, []⟩ fun ex σ' => ex = .norm ∧ σ'.regs 3 = .box 0 [.str (key ++ ((((⟨#[1]⟩ : ByteArray) ++ s) ++ (⟨#[61]⟩ : ByteArray)) ++ dV v)).data.toList] := by
 have c1 := bi (t := v.data.toList) (H := [])
 have e1 : key.data.toList.length ≤ 4398046511104 := by simpa using h1
 have e2 : s.data.toList.length ≤ 1048576 := by simpa using h2
 have e3 := norm_len (t := v.data.toList)
 have g1 : 1 + s.size ≤ 4611686018427387904 := by omega
 have g2 : 1 + s.size + 1 ≤ 4611686018427387904 := by omega
 have g2' : s.size + 1 + 1 ≤ 4611686018427387904 := by omega
 have g3 : s.size + 1 + 1 + (norm v.data.toList).length ≤ 4611686018427387904 := by omega
 have g4 : key.size + (s.size + ((norm v.data.toList).length + 1) + 1) ≤ 4611686018427387904 := by omega
 simp [bodyC, jd, sS, Tryz.f112, g1, g2, g2', g3, g4, fD, c1, strBin, maxStr, dV, List.lookup, regionL_some]
theorem xu (progOk : ProgOk Tryz.prog C) (a : Option Addr) (len cap : Nat) (zs : List DkE) (hlen : zs.length ≤ 1048576) (w : World) (hI : DkAt w.heap.size w (.slice a len cap) zs) :
  Calls Tryz.prog 112 #[.slice a len cap] w fun e W' => e = .returned (.string (bM dV (aA zs zs.length))) ∧ Below w.heap.size w W' := by
 refine (callsIn_wide (n := 6)).1 ?_
 refine callsIn_of_wp_marks Tryz.func112 rfl trivial ?_ rfl
 simp only [Tryz.ntmps112, List.size_toArray, List.length_cons, List.length_nil, Nat.reduceAdd, Nat.reduceSub, Array.replicate_succ, Array.replicate_zero, List.push_toArray, List.append_toArray, List.nil_append, List.cons_append]
 gi_wp2_with (refine ⟨trivial, ?_⟩; gi_at_call 198; refine (zD _ _ _ _ _).mono ?_; rintro e w' ⟨rfl, rfl⟩)
 have bS := (Boxed.new w 9 (.string .empty)).alloc (.cells #[.slice a len cap] 56)
 have bA := Boxed.new (w.alloc (.cells #[.string .empty] 9)) 56 (.slice a len cap)
 simp only [World.size_alloc] at bS bA
 have hB0 : Below w.heap.size w ((w.alloc (.cells #[.string .empty] 9)).alloc (.cells #[.slice a len cap] 56)) := ((Below.refl _ w).alloc (Nat.le_refl _) _).alloc (by simp) _
 have hsz : ((w.alloc (.cells #[.string .empty] 9)).alloc (.cells #[.slice a len cap] 56)).heap.size = w.heap.size + 2 := by simp
 change Code.wpIn _ _ _ _ _ _ ((w.alloc (.cells #[.string .empty] 9)).alloc (.cells #[.slice a len cap] 56))
 obtain ⟨W0, hW0⟩ : ∃ W0, (w.alloc (.cells #[.string .empty] 9)).alloc (.cells #[.slice a len cap] 56) = W0 := ⟨_, rfl⟩
 rw [hW0] at bS bA hB0 hsz ⊢
 clear hW0
 refine wpIn_rangeFunc_ownH rfl (by omega) (gf := 270) (lb := #[.pointer (some ⟨w.heap.size + 1, 0, none⟩)]) rfl trivial (enters_of Tryz.func270 (by kernel_rfl) rfl)
  (zn 4 (w.heap.size + 1) w.heap.size (.slice a len cap) zs hlen W0 (by omega) (by omega) bA.cell (hI.below hB0)) DkKp.trans (Dy (by omega)) (Below.refl _ _) (fun _ => rfl)
  (fun pre W => (CellS W w.heap.size (bM dV pre) ∧ Boxed W (w.heap.size + 1) 56 (.slice a len cap)) ∧ Below w.heap.size w W)
  (fun _ _ _ => False)
  (OwnFrom.and (OwnFrom.and (Own.from (fun s X Y row hs hg hr => ⟨cell_kept hs.1 hg hr, (frozen_kept hs.1 hg hr).trans hs.2⟩) _) (Own.from (boxed_own _ _ _) _)) (ownFrom_below (Nat.le_refl _) (by omega)))
  (fun _ _ _ _ _ hs _ _ => hs)
  ⟨⟨⟨bS.cell, bS.frozen⟩, bA⟩, hB0⟩
  (fun x a' W => ∃ Bx, w.heap.size + 1 < Bx ∧ PX W Bx x.2 ∧ a' = { tmps := #[.slice a len cap, undef, .string ⟨#[]⟩, .pointer (some ⟨w.heap.size, 0, none⟩), undef, .pointer (some ⟨Bx, 0, none⟩), .slice a len cap, .func (.func 270) #[] #[.pointer (some ⟨w.heap.size + 1, 0, none⟩)], .int .i64 x.1, .agg #[.string x.2.1.1, .string x.2.1.2], undef, undef, undef, undef, undef, undef, undef, undef, undef, undef, undef], defers := [] })
  (fun x a' _ X Y row hs hg hr => by
   obtain ⟨Bx, h1, h2, h3⟩ := hs
   refine ⟨Bx, h1, (hg.block Bx (Array.getElem?_eq_some_iff.1 h2).1 fun e => ?_).trans h2, h3⟩
   obtain ⟨_, o, ho, hc⟩ := hr Bx e.symm
   rw [show X.heap[Bx]? = _ from h2] at ho
   cases ho
   cases hc)
  ?assign ?body ?done ?stop
 case assign =>
  rintro l pre x W K ⟨⟨bS1, bA1⟩, hB1⟩ hK
  obtain ⟨i, ⟨⟨s, v⟩, hs⟩⟩ := x
  dsimp only [DkE.encs] at hK ⊢
  gi_wp2
  refine hK _ _ ((KeepsOthers.alloc _ _).from _) ⟨(Below.refl _ W).alloc hB1.size _, fun u hu => (World.cell?_of_block (Below.heap_alloc W _ _ bA1.lt)).trans hu⟩ ⟨⟨bS1.block (Below.heap_alloc W _ _ bS1.lt), bA1.alloc _⟩, hB1.alloc hB1.size _⟩ ⟨W.heap.size, bA1.lt, World.alloc_heap_new W _, rfl⟩
 case body =>
  rintro l pre x a' W hl ⟨r, hr⟩ ⟨⟨bS1, bA1⟩, hB1⟩ ⟨Bx, hBx, bX, rfl⟩ hlt
  have hkz := oP vC pre
  obtain ⟨i, ⟨⟨s, v⟩, hs⟩⟩ := x
  dsimp only at hs bX
  have z1 : (bM dV pre).size ≤ 4398046511104 := by omega
  obtain ⟨ex, σ', hex, rfl, hr3⟩ := yB (bM dV pre) s v z1 hs.1 hs.2
  have hBne : w.heap.size ≠ Bx := by omega
  have hBxl : Bx < W.heap.size := (Array.getElem?_eq_some_iff.1 bX).1
  have hsim : Sim (C.locs 112) ⟨fD (bM dV pre) s v, 2, []⟩ (fun _ => none) [w.heap.size, Bx] { tmps := #[.slice a len cap, undef, .string ⟨#[]⟩, .pointer (some ⟨w.heap.size, 0, none⟩), undef, .pointer (some ⟨Bx, 0, none⟩), .slice a len cap, .func (.func 270) #[] #[.pointer (some ⟨w.heap.size + 1, 0, none⟩)], .int .i64 i, .agg #[.string s, .string v], undef, undef, undef, undef, undef, undef, undef, undef, undef, undef, undef], defers := [] } W := {
   heap := ⟨fun id m h => by simp at h, fun id o h => by simp at h, fun id o m h => by simp at h, fun id id' o o' m m' _ h => by simp at h, fun id es cells m h => by simp at h⟩
   lenβ := rfl
   reg := fun t ht => by
    by_cases t3 : t = 3
    ·subst t3; exact ⟨_, rfl, rfl⟩
    by_cases t5 : t = 5
    ·subst t5; exact ⟨_, rfl, rfl⟩
    show RR _ _ _ _ (fD _ _ _ t) _
    simp only [fD, t3, t5, if_false]
    exact .undef _
   box := fun t c cells b ht h1 h2 => by
    simp only [fD] at h1
    split at h1
    ·cases h1
     simp at h2
     subst h2
     refine ⟨fun j u hj => ?_, fun o ho1 ho2 => ?_⟩
     ·match j, hj with
      | 0, hj => cases hj; exact ⟨_, bS1.1, .str _⟩
     ·have : o = 0 := by simp at ho2; omega
      subst this
      exact ⟨⟨_, bS1.1⟩, bS1.2⟩
    split at h1
    ·cases h1
     simp at h2
     subst h2
     have q0 : W.cell? ⟨Bx, 0, none⟩ = some (.string s) := by simp [World.cell?, show W.heap[Bx]? = _ from bX]
     have q1 : W.cell? ⟨Bx, 1, none⟩ = some (.string v) := by simp [World.cell?, show W.heap[Bx]? = _ from bX]
     have q2 : ∀ o, W.frozen? ⟨Bx, o, none⟩ = false := fun o => by simp [World.frozen?, show W.heap[Bx]? = _ from bX]
     refine ⟨fun j u hj => ?_, fun o ho1 ho2 => ?_⟩
     ·match j, hj with
      | 0, hj => cases hj; exact ⟨_, q0, .str _⟩
      | 1, hj => cases hj; exact ⟨_, q1, .str _⟩
     ·have : o = 0 ∨ o = 1 := by simp at ho2; omega
      rcases this with rfl | rfl
      ·exact ⟨⟨_, q0⟩, q2 _⟩
      ·exact ⟨⟨_, q1⟩, q2 _⟩
    ·cases h1
   sepβ := fun id o m b h => by simp at h
   injβ := fun c c' b h1 h2 => by
    match c, c', h1, h2 with
    | 0, 0, _, _ => rfl
    | 1, 1, _, _ => rfl
    | 0, 1, h1, h2 => simp at h1 h2; omega
    | 1, 0, h1, h2 => simp at h1 h2; omega
    | 0, _ + 2, _, h2 => simp at h2
    | 1, _ + 2, _, h2 => simp at h2
    | _ + 2, _, h1, _ => simp at h1
   ltβ := fun b hb => by
    simp at hb
    rcases hb with rfl | rfl
    ·exact bS1.lt
    ·exact hBxl
   uniq := fun t t' c cells cells' _ _ h1 h2 => by
    simp only [fD] at h1 h2
    split at h1
    ·rename_i e
     cases h1
     split at h2
     ·rename_i e'; rw [e, e']
     split at h2
     ·cases h2
     ·cases h2
    split at h1
    ·rename_i e
     cases h1
     split at h2
     ·cases h2
     split at h2
     ·rename_i e'; rw [e, e']
     ·cases h2
    ·cases h1
   loc := fun t c cells _ h1 => by
    simp only [fD] at h1
    split at h1
    ·rename_i e; subst e; simp
    split at h1
    ·rename_i e; subst e; simp
    ·cases h1
   defs := rfl }
  refine wp_round (ro := some l) progOk hsim Dz hex fun a'' w' hl' => ?_
  obtain ⟨μ', β', k1, k2, k3, k4, k5, k6⟩ := hl'
  have hno : ∀ b, b ≠ w.heap.size → b ≠ Bx → ¬ OwnB (St.heap ⟨fD (bM dV pre) s v, 2, []⟩) (fun _ => none) [w.heap.size, Bx] b := by
   rintro b h1 h2 (⟨id, o, m, h, _⟩ | h)
   ·simp at h
   ·simp at h; omega
  have hsame : ∀ b, b < W.heap.size → b ≠ w.heap.size → b ≠ Bx → w'.heap[b]? = W.heap[b]? := fun b h h1 h2 => k5.same b h (hno b h1 h2)
  have hcell : CellS w' w.heap.size (bM dV (pre ++ [(i, ⟨(s, v), hs⟩)])) := by
   rw [oJ]
   have r3 := k1.reg 3 (by rw [k4]; exact (by decide : 3 < 21))
   rw [hr3] at r3
   obtain ⟨b, hb, _⟩ := r3
   have hb0 : β'[0]? = some w.heap.size := by
    obtain ⟨ν, rfl⟩ := k3
    rfl
   rw [hb0] at hb
   cases hb
   obtain ⟨q1, q2⟩ := k1.box 3 0 _ _ (by rw [k4]; exact (by decide : 3 < 21)) hr3 hb0
   obtain ⟨u, hu1, hu2⟩ := q1 0 _ rfl
   obtain ⟨x, rfl, hx⟩ := hu2.str_inv
   refine ⟨?_, (q2 0 (Nat.le_refl _) (by simp)).2⟩
   rw [Nat.zero_add] at hu1
   rw [hu1]
   congr 2
   exact ByteArray.ext (Array.toList_inj.1 hx.symm)
  have hbl : Below w.heap.size W w' := ⟨k5.os, k5.tape, k5.output, k5.size, fun k hk => hsame k (by have := hB1.size; omega) (by omega) (by omega)⟩
  have hbA : Boxed w' (w.heap.size + 1) 56 (.slice a len cap) := (hsame _ bA1.lt (by omega) (by omega)).trans bA1
  refine ⟨⟨k5.size, fun k o hk1 hk2 hk3 => ?_⟩, ⟨hbl, fun u hu => ?_⟩, ⟨hcell, hbA⟩, hB1.trans hbl⟩
  ·by_cases e : k = Bx
   ·subst e
    rw [show W.heap[k]? = _ from bX] at hk2
    cases hk2
    cases hk3
   ·rw [hsame k (Array.getElem?_eq_some_iff.1 hk2).1 (by omega) e]
    exact hk2
  ·rw [bA1.cell] at hu
   cases hu
   exact hbA.cell
 case done =>
  rintro D ys W hD rfl ⟨⟨bS1, bA1⟩, hB1⟩ hK
  have cS := bS1.1
  gi_wp2
  refine ⟨by simp, .inl ⟨_, _, rfl, run_takeDeferred hK, ?_⟩⟩
  exact ⟨_, results_tmp rfl _ _ _, rfl, hB1.trans (belowK_b (w := w) (Nat.le_refl _) W D _ _ (by omega) hK rfl rfl)⟩
 case stop =>
  rintro D c pre W _ _ h _
  exact h.elim
theorem jl {H : List Ob} {μ : Mu} {w w' : World} (h : HSim H μ w) (hb : Below w.heap.size w w') : HGoes H μ w H μ w' :=
 ⟨h.world (fun id o m h1 h2 h3 => .of_heap (hb.block _ (live_lt h id o m h1 h2 h3))) hb.size, μ.le_refl, ⟨hb.size, fun b hb' _ => hb.block b hb', fun b h => .inl h, hb.os, hb.tape, hb.output, fun h => (show False from h).elim⟩, Lives.refl _ _ _⟩
noncomputable def eX (p : Str × Str) : DkE := if h : p.1.length ≤ 1048576 ∧ p.2.length ≤ 1048576 then ⟨(⟨p.1.toArray⟩, ⟨p.2.toArray⟩), by simpa [ByteArray.size] using h⟩ else default
theorem nC {p : Str × Str} (h : p.1.length ≤ 1048576 ∧ p.2.length ≤ 1048576) : (eX p).1 = (⟨p.1.toArray⟩, ⟨p.2.toArray⟩) := by unfold eX; rw [dif_pos h]
theorem jO : ∀ {cs : List V} {l : List (Str × Str)}, pairsOf cs = some l → ∀ (j : Nat) p, l[j]? = some p → cs[j * 2]? = some (.str p.1) ∧ cs[j * 2 + 1]? = some (.str p.2)
 | cs, l, h, j, p, hp => by
  unfold pairsOf at h
  split at h
  ·cases h; cases hp
  ·rename_i a v rest
   split at h
   ·rename_i l' hl'
    cases h
    cases j with
    | zero => cases hp; exact ⟨rfl, rfl⟩
    | succ j =>
     have ih := jO hl' j p (by simpa using hp)
     rw [show (j + 1) * 2 = j * 2 + 1 + 1 by omega]
     simpa using ih
   ·cases h
  ·cases h
theorem oH (zs : List DkE) : (aA zs zs.length).map Prod.snd = zs.reverse := by
 apply List.ext_getElem
 ·simp [aA]
 ·intro i h1 h2
  simp only [List.length_reverse] at h2
  simp only [aA, List.map_map, List.getElem_map, List.getElem_range, Function.comp, List.getElem_reverse]
  rw [getElem!_pos]
theorem nJ : ∀ (l : List (Str × Str)) (s : ByteArray), fitsL l = true → ((l.map eX).foldl (fun s z => bV dV s (0, z)) s).data.toList = l.foldl keyStep s.data.toList
 | [], s, _ => rfl
 | p :: l, s, h => by
  simp only [fitsL, List.all_cons, Bool.and_eq_true, decide_eq_true_eq] at h
  have ih := nJ l (bV dV s (0, eX p)) (by simpa [fitsL] using h.2)
  rw [List.map_cons, List.foldl_cons, List.foldl_cons, ih]
  congr 1
  simp only [bV, nC h.1, keyStep, dV]
  simp
theorem Dx {l : List (Str × Str)} (h : fitsL l = true) : (bM dV (aA (l.map eX) (l.map eX).length)).data.toList = keyL l := by
 have e : bM dV (aA (l.map eX) (l.map eX).length) = ((aA (l.map eX) (l.map eX).length).map Prod.snd).foldl (fun s z => bV dV s (0, z)) .empty := by
  rw [List.foldl_map]
  rfl
 rw [e, oH, ← List.map_reverse, nJ _ _ (by unfold fitsL at h ⊢; rw [List.all_reverse]; exact h)]
 rfl
theorem dkPrim_ok (progOk : ProgOk Tryz.prog C) : PrimOk Tryz.prog 112 dkPrim := by
 intro args H r H' h μ w us hs hv
 have hent : ∀ us w, (callFunc 112 us).run Tryz.prog w = .ok (.enter 112 us) w := enters_of Tryz.func112 (by kernel_rfl) rfl
 unfold dkPrim at h
 split at h
 case h_2 => cases h
 rename_i p n
 obtain ⟨u, rfl, hu⟩ := hv.one
 refine .inr ⟨hent _ _, ?_⟩
 split at h
 ·rename_i hn
  subst hn
  cases h
  have : ∃ q c, u = .slice q 0 c := by
   cases p with
   | none => obtain ⟨rfl, _⟩ := hu.slcN_inv; exact ⟨_, _, rfl⟩
   | some p =>
    obtain ⟨id, off⟩ := p
    obtain ⟨m, _, ⟨c, _, _, _, rfl⟩ | ⟨_, _, a, rfl⟩⟩ := hu.slc_inv <;> exact ⟨_, _, rfl⟩
  obtain ⟨q, c, rfl⟩ := this
  refine (xu progOk q 0 c [] (by simp) w (.inl ⟨q, c, rfl, rfl⟩)).mono ?_
  rintro e w' ⟨rfl, hb⟩
  exact ⟨_, rfl, μ, jl hs hb, VR.str .empty⟩
 rename_i hn
 split at h
 case isFalse => cases h
 rename_i hn1
 split at h
 case h_2 => cases h
 rename_i id off
 split at h
 case h_2 => cases h
 rename_i own cells ho
 split at h
 case isFalse => cases h
 rename_i hlen
 split at h
 case h_2 => cases h
 rename_i l hl
 split at h
 case isFalse => cases h
 rename_i hf
 obtain ⟨hf, hln⟩ := hf
 cases h
 obtain ⟨m, hm, ⟨c, hc1, hc2, hc3, rfl⟩ | ⟨h0, _⟩⟩ := hu.slc_inv
 rotate_left
 ·exact absurd h0 hn
 obtain ⟨g1, g2, g3, g4, g5, g6⟩ := hs.obj id _ m ho hm
 have hfit : ∀ p ∈ l, p.1.length ≤ 1048576 ∧ p.2.length ≤ 1048576 := fun p hp => by
  have := List.all_eq_true.1 hf p hp
  simpa using this
 have hI : DkAt w.heap.size w (.slice (some ⟨m.blk, m.base + off, none⟩) n c) (l.map eX) := by
  refine .inr ⟨m.blk, m.base + off, c, by rw [List.length_map, hln], g5, fun j hj => ?_⟩
  rw [List.length_map] at hj
  have hpj : l[j]? = some l[j] := List.getElem?_eq_getElem hj
  obtain ⟨q1, q2⟩ := jO hl j _ hpj
  have hget : ∀ k, k < n * 2 → ((cells.drop off).take (n * 2))[k]? = cells[off + k]? := fun k hk => by rw [List.getElem?_take_of_lt hk, List.getElem?_drop]
  rw [hget _ (by omega)] at q1 q2
  obtain ⟨u1, a1, a2⟩ := g4 _ _ q1
  obtain ⟨u2, b1, b2⟩ := g4 _ _ q2
  obtain ⟨x1, rfl, ex1⟩ := a2.str_inv
  obtain ⟨x2, rfl, ex2⟩ := b2.str_inv
  have hz : (l.map eX)[j]! = eX l[j] := by rw [getElem!_pos _ _ (by simpa using hj)]; simp
  rw [hz, nC (hfit _ (List.getElem_mem hj))]
  have e1 : x1 = ⟨(l[j]).1.toArray⟩ := ByteArray.ext (by simp [ex1])
  have e2 : x2 = ⟨(l[j]).2.toArray⟩ := ByteArray.ext (by simp [ex2])
  rw [← Nat.add_assoc] at a1 b1
  rw [← Nat.add_assoc] at b1
  rw [a1, b1, e1, e2]
  exact ⟨rfl, rfl⟩
 refine (xu progOk _ n c (l.map eX) (by rw [List.length_map]; omega) w hI).mono ?_
 rintro e w' ⟨rfl, hb⟩
 refine ⟨_, rfl, μ, jl hs hb, ?_⟩
 rw [← Dx hf]
 exact .str _
end Go.Proofs.Try0
end
section
namespace Go.Proofs.Try1
open Go Go.Lite
theorem H5 : PrimOk Tryz.prog 112 dkPrim := Try0.dkPrim_ok A7
end Go.Proofs.Try1
end
section
namespace Go.Proofs
open Go.Shelf
def Tryz.laysSort_ren : Go.Shelf.Ren := ⟨fun | 190 => 296 | 125 => 325 | 258 => 324 | 128 => 349 | 129 => 350 | 302 => 340 | 303 => 341 | 304 => 342 | 305 => 343 | 306 => 344 | 307 => 345 | 308 => 346 | 309 => 347 | 310 => 348 | 333 => 356 | 329 => 357 | 330 => 358 | 334 => 359 | 335 => 360 | 336 => 316 | 344 => 363 | n => n, fun | 31 => 148 | 9 => 9 | 3 => 3 | 46 => 349 | 0 => 0 | 51 => 374 | 53 => 376 | 4 => 4 | 183 => 368 | 182 => 367 | 131 => 261 | 5 => 5 | 218 => 379 | 222 => 383 | 228 => 385 | 229 => 287 | n => n, fun | n => n⟩
theorem Tryz.laysSort : Go.Proofs.Lays.n190 Tryz.prog Tryz.laysSort_ren := {
 mixed := by kernel_rfl
 f125 := Tryz.func325.trans (congrArg some (by kernel_rfl))
 f128 := Tryz.func349.trans (congrArg some (by kernel_rfl))
 f129 := Tryz.func350.trans (congrArg some (by kernel_rfl))
 f190 := Tryz.func296.trans (congrArg some (by kernel_rfl))
 f258 := Tryz.func324.trans (congrArg some (by kernel_rfl))
 f302 := Tryz.func340.trans (congrArg some (by kernel_rfl))
 f303 := Tryz.func341.trans (congrArg some (by kernel_rfl))
 f304 := Tryz.func342.trans (congrArg some (by kernel_rfl))
 f305 := Tryz.func343.trans (congrArg some (by kernel_rfl))
 f306 := Tryz.func344.trans (congrArg some (by kernel_rfl))
 f307 := Tryz.func345.trans (congrArg some (by kernel_rfl))
 f308 := Tryz.func346.trans (congrArg some (by kernel_rfl))
 f309 := Tryz.func347.trans (congrArg some (by kernel_rfl))
 f310 := Tryz.func348.trans (congrArg some (by kernel_rfl))
 f329 := Tryz.func357.trans (congrArg some (by kernel_rfl))
 f330 := Tryz.func358.trans (congrArg some (by kernel_rfl))
 f333 := Tryz.func356.trans (congrArg some (by kernel_rfl))
 f334 := Tryz.func359.trans (congrArg some (by kernel_rfl))
 f335 := Tryz.func360.trans (congrArg some (by kernel_rfl))
 f336 := Tryz.func316.trans (congrArg some (by kernel_rfl))
 f344 := Tryz.func363.trans (congrArg some (by kernel_rfl))
 t0 := Tryz.underlying0
 a0 := Tryz.isAgg0
 z0 := Tryz.sizeOf0
 v0 := Tryz.zeroValue0
 t3 := Tryz.underlying3
 a3 := Tryz.isAgg3
 z3 := Tryz.sizeOf3
 v3 := Tryz.zeroValue3
 t4 := Tryz.underlying4
 a4 := Tryz.isAgg4
 z4 := Tryz.sizeOf4
 v4 := Tryz.zeroValue4
 t5 := Tryz.underlying5
 a5 := Tryz.isAgg5
 z5 := Tryz.sizeOf5
 v5 := Tryz.zeroValue5
 t9 := Tryz.underlying9
 a9 := Tryz.isAgg9
 z9 := Tryz.sizeOf9
 v9 := Tryz.zeroValue9
 t31 := Tryz.underlying148
 a31 := Tryz.isAgg148
 z31 := Tryz.sizeOf148
 v31 := Tryz.zeroValue148
 t46 := Tryz.underlying349
 a46 := Tryz.isAgg349
 z46 := Tryz.sizeOf349
 v46 := Tryz.zeroValue349
 t51 := Tryz.underlying374
 a51 := Tryz.isAgg374
 z51 := Tryz.sizeOf374
 v51 := Tryz.zeroValue374
 t53 := Tryz.underlying376
 a53 := Tryz.isAgg376
 z53 := Tryz.sizeOf376
 v53 := Tryz.zeroValue376
 t131 := Tryz.underlying261
 a131 := Tryz.isAgg261
 z131 := Tryz.sizeOf261
 v131 := Tryz.zeroValue261
 t182 := Tryz.underlying367
 a182 := Tryz.isAgg367
 z182 := Tryz.sizeOf367
 v182 := Tryz.zeroValue367
 t183 := Tryz.underlying368
 a183 := Tryz.isAgg368
 z183 := Tryz.sizeOf368
 v183 := Tryz.zeroValue368
 t218 := Tryz.underlying379
 a218 := Tryz.isAgg379
 z218 := Tryz.sizeOf379
 v218 := Tryz.zeroValue379
 t222 := Tryz.underlying383
 a222 := Tryz.isAgg383
 z222 := Tryz.sizeOf383
 v222 := Tryz.zeroValue383
 t228 := Tryz.underlying385
 a228 := Tryz.isAgg385
 z228 := Tryz.sizeOf385
 v228 := Tryz.zeroValue385
 t229 := Tryz.underlying287
 a229 := Tryz.isAgg287
 z229 := Tryz.sizeOf287
 v229 := Tryz.zeroValue287 }
end Go.Proofs
end
section
namespace Go.Proofs.Try1
open Go Go.Lite
theorem A8 : PrimOk Tryz.prog 296 sortPrim :=
 sortPrim_ok (enters Tryz.func296 (by kernel_rfl) (by kernel_rfl))
  (fun blk off cap zs w hH hb hl => gG fun D => AnyS.slices_Sort_string_alone Tryz.laysSort D blk off cap zs w hH hb hl)
  (fun p cap w => gG fun D => AnyS.slices_Sort_string_none_alone Tryz.laysSort D p cap w)
end Go.Proofs.Try1
end
section
namespace Go.Lite
open Go
variable [Draws]
theorem idxPrim_ok {P : Program} {g : FuncId} {fn : Func} (hf : P.funcs[g]? = some fn) (hname : (fn.name == "runtime.NumGoroutine") = false) (hb : fn.body.isNone = true) (hn : Extern.findNext fn = none) (he : Extern.find fn = some Extern.BytealgIndexByte.indexByte) : PrimOk P g idxPrim := by
 intro args H r H' h μ w us hs hv
 unfold idxPrim at h
 split at h
 ·rename_i s c
  cases h
  obtain ⟨u, u', rfl, h1, h2⟩ := hv.two
  obtain ⟨x, rfl, rfl⟩ := h1.str_inv
  have h3 := h2.int_inv
  subst h3
  refine .inl ⟨.int .i64 (Lib.indexByte x.data.toList c.toNat.toUInt8), w, ?_, μ, .refl hs, .int _ _⟩
  rw [run_callFunc_extern hf hname hb hn he, Lib.run_indexByteString]
  rfl
 ·cases h
end Go.Lite
end
