/- Part 17 of the proof of a law: the interpreter, its soundness, and what functions of the program compute over it. Conditions: none but those that each theorem names. -/
import Derived.Test.YtipjjjlomghdfaaGreatDoorS16
import Derived.Test.YtipjjjlomghdfaaGreatDoorS11
import Derived.Test.YtipjjjlomghdfaaGreatDoorS05
import Derived.Laws.Externs
import Derived.CallsIn
import Derived.Sort.EncStr
import Derived.Sort.Grow
import Derived.Test.YtipjjjlomghdfaaGreatDoorS07
import Derived.WalkKit
import Derived.Test.YtipjjjlomghdfaaGreatDoorS06
import Derived.Test.YtipjjjlomghdfaaGreatDoorProg
import Derived.KernelRfl
import Derived.RangeFuncNested
import Derived.RangeFuncBound
import Derived.RangeFuncCalls
import Derived.RangeFuncLeaves
import Derived.Shelf.Abstract
import Derived.Shelf.RegionOpen
import Derived.OwnWalkIn
import Derived.TacticsInMore
import Derived.LoopNIn
import Derived.LoopIn

set_option linter.all false
set_option maxRecDepth 20000
set_option maxHeartbeats 40000000
section
namespace Go.Proofs.Try1
open Go Go.Lite
attribute [-simp] WP_region WP_cond
attribute [local simp] WP_regionF WP_condF ThenW_some ThenW_none CondW_true CondW_false
attribute [local simp low] CondW_bool
theorem lF {f : PFlow} {e : PEntry} {k1 k2 : List Str} (h : ∀ x, x ∈ k1 ↔ x ∈ k2) : dec (fK f e k1) = dec (fK f e k2) := by
 have : fK f e k1 = fK f e k2 := propext ⟨fun g => ⟨(kL h).1 g.1, g.2⟩, fun g => ⟨(kL h).2 g.1, g.2⟩⟩
 rw [this]
theorem jr {f : PFlow} {e : PEntry} (he : EntryOk e) : (dA f e).Small := by
 have ht := txt_len he.2.1
 have ho : ∀ t, aF t → t.length ≤ 1000 := fun t h => by
  rcases h with rfl | h
  ·simp
  ·have := h.2.1; omega
 unfold dA
 split
 ·exact ⟨by simp; omega, by simp, by simp, by simp, by simp, by simp⟩
 split
 ·rename_i h
  obtain ⟨h1, h2, h3⟩ := dec_true.1 h
  exact ⟨by simp; omega, by have := h1.2.1; simp; omega, ho _ h2, ho _ h3, by simp, by simp⟩
 ·exact ⟨by simp; omega, by simp, by simp, by simp, by simp, by simp⟩
noncomputable def aV (f : PFlow) (es : List PEntry) (kn : List Str) : List PWant := (es.filter fun e => dec (fK f e kn)).map (dA f)
theorem jk {f : PFlow} {es : List PEntry} {kn : List Str} {i : Nat} {x : PEntry} (h : es[i]? = some x) :
  aV f (es.take (i + 1)) kn = aV f (es.take i) kn ++ if dec (fK f x kn) = true then [dA f x] else [] := by
 unfold aV
 rw [take_get h, List.filter_append, List.map_append]
 by_cases g : dec (fK f x kn) = true
 ·simp [g]
 ·simp [g]
theorem iw {f : PFlow} {es : List PEntry} {kn : List Str} : (aV f es kn).length ≤ es.length := by
 unfold aV
 rw [List.length_map]
 exact List.length_filter_le _ _
def WsOut (H : List Ob) (l : List PWant) (q : V) (H' : List Ob) : Prop := ∃ T, H' = H ++ T ∧ New H.length (H ++ T).length (H ++ T) (.slice shWant) [q] (.lst (l.map PWant.u))
theorem WsOut.of {H G : List Ob} {l : List PWant} {w : V} (h : LstF H G shWant PWant.u w l) (hl : l.length ≤ 1000) : WsOut H l w (gcH H G w) := by
 obtain ⟨T, hT⟩ := h.pre
 have n := h.new (by unfold maxLen; omega)
 rw [hT] at n ⊢
 obtain ⟨T', h3, h4⟩ := n.gc1
 exact ⟨T', h3, h4⟩
theorem WsOut.gc {H : List Ob} {l : List PWant} {q : V} {H' : List Ob} (h : WsOut H l q H') : WsOut H l q (gcH H H' q) := by
 obtain ⟨T, rfl, h3⟩ := h
 obtain ⟨T', h4, h5⟩ := h3.gc1
 exact ⟨T', h4, h5⟩
theorem WsOut.nil {H : List Ob} : WsOut H [] (.slc none 0) H := ⟨[], by simp, New.nil⟩
theorem WsOut.empty {H : List Ob} : WsOut H [] (.slc (some (H.length, 0)) 0) (H ++ [.mk true 5 []]) := by
 have h : LstF H (H ++ [.mk true 5 []]) shWant PWant.u (.slc (some (H.length, 0)) 0) [] := LstF.init (sh := shWant)
 exact ⟨_, rfl, h.new (by decide)⟩
theorem kP {B G : List Ob} {v : V} {l : List PWant} {w : PWant} {z : List V} {d : LD} (h : LstF B G shWant PWant.u v l) (hw : w.Small) (hl : l.length ≤ 1000) (hz : z.length = 5) :
  ∃ v' G', appendV ⟨d, 5, 72, z⟩ (G ++ [.mk true 5 w.cs]) v (.slc (some (G.length, 0)) 1) = some (v', G') ∧ LstF B G' shWant PWant.u v' (l ++ [w]) := by
 obtain ⟨v', G', h1, h2, _⟩ := h.push (T := []) (x := w) (e := G.length) (d := d) (by_ := 72) (z := z) (sz := 5) (c := w.cs) hw.new rfl hz (by decide) (by decide) (by decide) (by unfold maxMade; omega)
 rw [List.append_nil] at h1
 exact ⟨v', G', h1, h2⟩
theorem Bg {H : List Ob} {vb vf vl vm vp vs ve : V} {f : PFlow} {t : PTree} (h1 : ARdns H vb f.base) (h2 : ANodes H vf f.filter) (h3 : AParts H vl f.login) (h4 : AParts H vm f.mail) (h5 : AParts H vp f.phone) (hs : AClasses H vs t.schema) (h : AEntries H ve t.entries) (gf : ai f) (ht : TreeOk t) :
  ∃ q H', callW C 59 [.agg [vb, vf, vl, vm, vp, .bool f.back], .agg [vs, ve]] H = some (q, H') ∧ WsOut H (aV f t.entries (af t.schema)) q H' := by
 suffices hs : Ret C 59 [.agg [vb, vf, vl, vm, vp, .bool f.back], .agg [vs, ve]] H fun q H' => WsOut H (aV f t.entries (af t.schema)) q H' by
  obtain ⟨q, H', hc, hr⟩ := hs
  exact ⟨q, H', hc, hr⟩
 rw [PV]
 have o1 := h1.one
 have o2 := h2.one
 have o3 := h3.one
 have o4 := h4.one
 have o5 := h5.one
 have hos := hs.one
 have hoe := h.one
 have hoks := TreeOk.dns ht
 have hel : t.entries.length ≤ 20 := ht.2.1.1
 obtain ⟨Y, hY⟩ : ∃ Y, Y = H ++ [.mk true 5 []] := ⟨_, rfl⟩
 have hL0 : LstF H Y shWant PWant.u (.slc (some (H.length, 0)) 0) [] := by rw [hY]; exact LstF.init (sh := shWant)
 obtain ⟨T1, wk, kl, c3, hk, hkm⟩ := qO (H := Y) (by rw [hY]; exact hs.ext) (TreeOk.small2 ht).1 (TreeOk.small2 ht).2
 have hko := hk.one
 obtain ⟨K, hK⟩ : ∃ K, K = Y ++ T1 := ⟨_, rfl⟩
 rw [← hK] at c3 hk
 have hL1 : LstF H K shWant PWant.u (.slc (some (H.length, 0)) 0) [] := by rw [hK]; exact hL0.ext
 simp [yA, Tryz.f59, hos, hoe, o1, o2, o3, o4, o5, ← hY, c3, hko, fillL, zerosL, St.new, elemT, regionL_none, regionL_some, List.lookup]
 refine WP_loop (fun k σ => ∃ (i : Nat) (r : Nat → R) (G : List Ob) (w : V), i + k = t.entries.length ∧ σ = ⟨r, 2, G⟩ ∧ r 2 = .box 0 [vb, vf, vl, vm, vp, .bool f.back] ∧ r 3 = .box 1 [vs, ve] ∧ r 5 = .val w ∧ r 6 = .val wk ∧ r 7 = .val (.int .i64 i) ∧ LstF H G shWant PWant.u w (aV f (t.entries.take i) (af t.schema)) ∧ AStrs G wk kl) ?_ t.entries.length _ ⟨0, _, K, .slc (some (H.length, 0)) 0, by simp, rfl, by simp, by simp, by simp, by simp, by simp, by simpa [aV] using hL1, hk⟩
 rintro k σ ⟨i, r, G, w, hik, rfl, r2, r3, r5, r6, r7, hG, hkG⟩
 obtain ⟨S, hS⟩ := hG.pre
 have haG : AEntries G ve t.entries := by rw [hS]; exact h.ext
 have hwo := hG.one
 have hwl := iw (f := f) (es := t.entries.take i) (kn := af t.schema)
 rw [List.length_take] at hwl
 cases k with
 | zero =>
  have hi : i = t.entries.length := by omega
  subst hi
  rw [List.take_length] at hG hwl
  have fin := WsOut.of hG (by omega)
  simp [r2, r3, r5, r6, r7, haG.len, hoe, hos, hwo, regionL_none, regionL_some, List.lookup]
  exact fin
 | succ k =>
  have hi : i < t.entries.length := by omega
  obtain ⟨x, hx⟩ : ∃ c, t.entries[i]? = some c := ⟨t.entries[i], by simp [hi]⟩
  have hw : IntKind.i64.wrap ((i : Int) + 1) = ((i : Int) + 1) := wrap_i64 (by omega) (by omega)
  obtain ⟨id, o, v1, v2, e1, l0, l1, lm, a1, a2, _⟩ := entries_idx haG hx
  have hid := kN l0
  have hxo := hoks x (List.mem_of_getElem? hx)
  have p1 := a1.one
  have p2 := a2.one
  have k1 : ARdns G vb f.base := by rw [hS]; exact h1.ext
  have k2 : ANodes G vf f.filter := by rw [hS]; exact h2.ext
  have k3 : AParts G vl f.login := by rw [hS]; exact h3.ext
  have k4 : AParts G vm f.mail := by rw [hS]; exact h4.ext
  have k5 : AParts G vp f.phone := by rw [hS]; exact h5.ext
  have c4 := ER k1 k2 k3 k4 k5 a1 a2 hkG gf hxo
  rw [lF hkm] at c4
  have hstep := jk (f := f) (kn := af t.schema) hx
  by_cases g : fK f x (af t.schema)
  ·rw [dec_pos g] at c4 hstep
   rw [if_pos rfl] at hstep
   have c5 := ET k1 k2 k3 k4 k5 a1 a2 gf hxo
   obtain ⟨w', G', a3, hG'⟩ := kP (w := dA f x) (d := .struct [(0, 9), (1, 9), (2, 9), (3, 9), (4, 2)]) (z := [.str [], .str [], .str [], .str [], .int .i64 0]) hG (jr hxo) (by omega) rfl
   have hkG' : AStrs G' wk kl := AStrs.apart (hG.ext (T := [.mk true 5 (dA f x).cs])) (by decide) hkG.ext (appendV_frame a3).1
   rw [← hstep] at hG'
   have hwo' := hG'.one
   generalize dA f x = ww at c5 a3
   simp only [PWant.cs] at c5 a3
   simp [r2, r3, r5, r6, r7, hi, haG.len, hoe, hos, o1, o2, o3, o4, o5, e1, lm, hid, p1, p2, c4, c5, a3, hwo, hwo', hko, hw, fillL, zerosL, St.new, elemT, buildV, structPlace, regionL_none, regionL_some, List.lookup]
   exact ⟨k, by omega, i + 1, by omega, _, _, ⟨rfl, rfl⟩, by simp [r2], by simp [r3], w', by simp, by simp [r6], by simp, hG', hkG'⟩
  ·rw [dec_neg g] at c4 hstep
   simp only [Bool.false_eq_true, if_false, List.append_nil] at hstep
   simp [r2, r3, r5, r6, r7, hi, haG.len, hoe, hos, o1, o2, o3, o4, o5, e1, lm, hid, p1, p2, c4, hwo, hko, hw, fillL, zerosL, St.new, elemT, buildV, structPlace, regionL_none, regionL_some, List.lookup]
   exact ⟨k, by omega, i + 1, by omega, _, _, ⟨rfl, rfl⟩, by simp [r2], by simp [r3], w, by simp [r5], by simp [r6], by simp, by rw [hstep]; exact hG, hkG⟩
noncomputable def ah (f : PFlow) (t : PTree) : List PWant := if dec (ai f ∧ TreeOk t) = true then aV f t.entries (af t.schema) else []
theorem wK {H : List Ob} {vb vf vl vm vp vs ve : V} {f : PFlow} {t : PTree} (h1 : ARdns H vb f.base) (h2 : ANodes H vf f.filter) (h3 : AParts H vl f.login) (h4 : AParts H vm f.mail) (h5 : AParts H vp f.phone) (hs : AClasses H vs t.schema) (h : AEntries H ve t.entries) :
  ∃ q H', callW C 15 [.agg [vb, vf, vl, vm, vp, .bool f.back], .agg [vs, ve]] H = some (q, H') ∧ WsOut H (ah f t) q H' := by
 suffices hs : Ret C 15 [.agg [vb, vf, vl, vm, vp, .bool f.back], .agg [vs, ve]] H fun q H' => WsOut H (ah f t) q H' by
  obtain ⟨q, H', hc, hr⟩ := hs
  exact ⟨q, H', hc, hr⟩
 rw [QG]
 have o1 := h1.one
 have o2 := h2.one
 have o3 := h3.one
 have o4 := h4.one
 have o5 := h5.one
 have hos := hs.one
 have hoe := h.one
 have c1 := qB h1 h2 h3 h4 h5
 have c2 := pG hs h
 by_cases g1 : ai f
 rotate_left
 ·rw [dec_neg g1] at c1
  have ew : ah f t = [] := by unfold ah; rw [dec_neg (fun h => g1 h.1)]; rfl
  rw [ew]
  simp [nX, Tryz.f15, o1, o2, o3, o4, o5, hos, hoe, c1, fillL, zerosL, St.new, elemT, regionL_none, regionL_some, List.lookup]
  exact WsOut.empty
 rw [dec_pos g1] at c1
 by_cases g2 : TreeOk t
 rotate_left
 ·rw [dec_neg g2] at c2
  have ew : ah f t = [] := by unfold ah; rw [dec_neg (fun h => g2 h.2)]; rfl
  rw [ew]
  simp [nX, Tryz.f15, o1, o2, o3, o4, o5, hos, hoe, c1, c2, fillL, zerosL, St.new, elemT, regionL_none, regionL_some, List.lookup]
  exact WsOut.empty
 rw [dec_pos g2] at c2
 obtain ⟨q, H', c3, hq⟩ := Bg h1 h2 h3 h4 h5 hs h g1 g2
 have ew : ah f t = aV f t.entries (af t.schema) := by unfold ah; rw [dec_pos ⟨g1, g2⟩]; rfl
 rw [ew]
 have hqo : isOne q = true ∧ cellsOf q = some [q] := by obtain ⟨T, _, hn⟩ := hq; exact hn.one1
 simp [nX, Tryz.f15, o1, o2, o3, o4, o5, hos, hoe, c1, c2, c3, hqo, fillL, zerosL, St.new, elemT, regionL_none, regionL_some, List.lookup]
 exact hq.gc
theorem BV {H : List Ob} {idt ot : Nat} {vb vf vl vm vp vs ve : V} {f : PFlow} {t : PTree} (h1 : ARdns H vb f.base) (h2 : ANodes H vf f.filter) (h3 : AParts H vl f.login) (h4 : AParts H vm f.mail) (h5 : AParts H vp f.phone) (hp : At2 H idt ot vs ve) (hs : AClasses H vs t.schema) (h : AEntries H ve t.entries) (gf : ai f) (ht : TreeOk t) :
  ∃ q H', callW C 66 [.agg [vb, vf, vl, vm, vp, .bool f.back], .ptr (some (idt, ot))] H = some (q, H') ∧ WsOut H (aV f t.entries (af t.schema)) q H' := by
 suffices hs : Ret C 66 [.agg [vb, vf, vl, vm, vp, .bool f.back], .ptr (some (idt, ot))] H fun q H' => WsOut H (aV f t.entries (af t.schema)) q H' by
  obtain ⟨q, H', hc, hr⟩ := hs
  exact ⟨q, H', hc, hr⟩
 rw [P7]
 have o1 := h1.one
 have o2 := h2.one
 have o3 := h3.one
 have o4 := h4.one
 have o5 := h5.one
 have hos := hs.one
 have hoe := h.one
 have hoks := TreeOk.dns ht
 have hel : t.entries.length ≤ 20 := ht.2.1.1
 obtain ⟨Y, hY⟩ : ∃ Y, Y = H ++ [.mk true 5 []] := ⟨_, rfl⟩
 have hL0 : LstF H Y shWant PWant.u (.slc (some (H.length, 0)) 0) [] := by rw [hY]; exact LstF.init (sh := shWant)
 have hpY : At2 Y idt ot vs ve := by rw [hY]; exact hp.ext
 obtain ⟨T1, wk, kl, c3, hk, hkm, _⟩ := Au (H := Y) (by rw [hY]; exact hs.ext) (TreeOk.small2 ht).1 (TreeOk.small2 ht).2
 have hko := hk.one
 obtain ⟨K, hK⟩ : ∃ K, K = Y ++ T1 := ⟨_, rfl⟩
 rw [← hK] at c3 hk
 have hpK : At2 K idt ot vs ve := by rw [hK]; exact hpY.ext
 have hL1 : LstF H K shWant PWant.u (.slc (some (H.length, 0)) 0) [] := by rw [hK]; exact hL0.ext
 simp [yF, Tryz.f66, hos, hoe, o1, o2, o3, o4, o5, ← hY, hpY.lt, hpK.lt, hpY.ld0, hpK.ld1, h.len, c3, hko, fillL, zerosL, St.new, elemT, regionL_none, regionL_some, List.lookup]
 refine WP_loop (fun k σ => ∃ (i n : Nat) (r : Nat → R) (G : List Ob) (w : V), i + k = t.entries.length ∧ σ = ⟨r, n, G⟩ ∧ r 1 = .val (.ptr (some (idt, ot))) ∧ r 2 = .box 0 [vb, vf, vl, vm, vp, .bool f.back] ∧ r 5 = .val w ∧ r 6 = .val wk ∧ r 19 = .val (.int .i64 t.entries.length) ∧ r 20 = .val (.int .i64 i) ∧ LstF H G shWant PWant.u w (aV f (t.entries.take i) (af t.schema)) ∧ AStrs G wk kl) ?_ t.entries.length _ ⟨0, _, _, K, .slc (some (H.length, 0)) 0, by simp, rfl, by simp, by simp, by simp, by simp, by simp, by simp, by simpa [aV] using hL1, hk⟩
 rintro k σ ⟨i, n, r, G, w, hik, rfl, r1, r2, r5, r6, r19, r20, hG, hkG⟩
 obtain ⟨S, hS⟩ := hG.pre
 have haG : AEntries G ve t.entries := by rw [hS]; exact h.ext
 have hpG : At2 G idt ot vs ve := by rw [hS]; exact hp.ext
 have hwo := hG.one
 have hwl := iw (f := f) (es := t.entries.take i) (kn := af t.schema)
 rw [List.length_take] at hwl
 cases k with
 | zero =>
  have hi : i = t.entries.length := by omega
  subst hi
  rw [List.take_length] at hG hwl
  have fin := WsOut.of hG (by omega)
  simp [r1, r2, r5, r6, r19, r20, hwo, regionL_none, regionL_some, List.lookup]
  exact fin
 | succ k =>
  have hi : i < t.entries.length := by omega
  obtain ⟨x, hx⟩ : ∃ c, t.entries[i]? = some c := ⟨t.entries[i], by simp [hi]⟩
  have hw : IntKind.i64.wrap ((i : Int) + 1) = ((i : Int) + 1) := wrap_i64 (by omega) (by omega)
  obtain ⟨id, o, own, cells, e1, hcell, e3, e4⟩ := ASl.idx haG hx (by decide)
  obtain ⟨v1, v2, e4, a1, a2⟩ := entry_at.1 e4
  have hpe : At2 G id o v1 v2 := ⟨_, _, _, hcell, by simpa using cells_get e4 (j := 0) rfl, by simpa using cells_get e4 (j := 1) rfl⟩
  have hid := hpe.lt
  have hxo := hoks x (List.mem_of_getElem? hx)
  have k1 : ARdns G vb f.base := by rw [hS]; exact h1.ext
  have k2 : ANodes G vf f.filter := by rw [hS]; exact h2.ext
  have k3 : AParts G vl f.login := by rw [hS]; exact h3.ext
  have k4 : AParts G vm f.mail := by rw [hS]; exact h4.ext
  have k5 : AParts G vp f.phone := by rw [hS]; exact h5.ext
  have c4 := zg hpe k1 k2 k3 k4 k5 a1 a2 hkG gf hxo
  rw [lF hkm] at c4
  have hstep := jk (f := f) (kn := af t.schema) hx
  rw [show shEntry.size = 2 from rfl] at e1
  by_cases g : fK f x (af t.schema)
  ·rw [dec_pos g] at c4 hstep
   rw [if_pos rfl] at hstep
   have c5 := Es k1 k2 k3 k4 k5 hpe a1 a2 gf hxo
   obtain ⟨w', G', a3, hG'⟩ := kP (w := dA f x) (d := .struct [(0, 9), (1, 9), (2, 9), (3, 9), (4, 2)]) (z := [.str [], .str [], .str [], .str [], .int .i64 0]) hG (jr hxo) (by omega) rfl
   have hkG' : AStrs G' wk kl := AStrs.apart (hG.ext (T := [.mk true 5 (dA f x).cs])) (by decide) hkG.ext (appendV_frame a3).1
   rw [← hstep] at hG'
   have hwo' := hG'.one
   generalize dA f x = ww at c5 a3
   simp only [PWant.cs] at c5 a3
   simp [r1, r2, r5, r6, r19, r20, hi, hpG.lt, hpG.ld1, hoe, hos, o1, o2, o3, o4, o5, e1, hid, c4, c5, a3, hwo, hwo', hko, hw, fillL, zerosL, St.new, elemT, buildV, structPlace, regionL_none, regionL_some, List.lookup]
   exact ⟨k, by omega, i + 1, by omega, _, _, _, ⟨rfl, rfl, rfl⟩, by simp [r1], by simp [r2], w', by simp, by simp [r6], by simp [r19], by simp, hG', hkG'⟩
  ·rw [dec_neg g] at c4 hstep
   simp only [Bool.false_eq_true, if_false, List.append_nil] at hstep
   simp [r1, r2, r5, r6, r19, r20, hi, hpG.lt, hpG.ld1, hoe, hos, o1, o2, o3, o4, o5, e1, hid, c4, hwo, hko, hw, fillL, zerosL, St.new, elemT, buildV, structPlace, regionL_none, regionL_some, List.lookup]
   exact ⟨k, by omega, i + 1, by omega, _, _, _, ⟨rfl, rfl, rfl⟩, by simp [r1], by simp [r2], w, by simp [r5], by simp [r6], by simp [r19], by simp, by rw [hstep]; exact hG, hkG⟩
theorem wX {H : List Ob} {vb vf vl vm vp vs ve : V} {f : PFlow} {t : PTree} (h1 : ARdns H vb f.base) (h2 : ANodes H vf f.filter) (h3 : AParts H vl f.login) (h4 : AParts H vm f.mail) (h5 : AParts H vp f.phone) (hs : AClasses H vs t.schema) (h : AEntries H ve t.entries) :
  ∃ q H', callW C 18 [.agg [vb, vf, vl, vm, vp, .bool f.back], .agg [vs, ve]] H = some (q, H') ∧ WsOut H (ah f t) q H' := by
 suffices hs : Ret C 18 [.agg [vb, vf, vl, vm, vp, .bool f.back], .agg [vs, ve]] H fun q H' => WsOut H (ah f t) q H' by
  obtain ⟨q, H', hc, hr⟩ := hs
  exact ⟨q, H', hc, hr⟩
 rw [QS]
 have o1 := h1.one
 have o2 := h2.one
 have o3 := h3.one
 have o4 := h4.one
 have o5 := h5.one
 have hos := hs.one
 have hoe := h.one
 obtain ⟨K, hK⟩ : ∃ K, K = H ++ [.mk true 2 [vs, ve]] := ⟨_, rfl⟩
 have hKe : K[H.length]? = some (.mk true 2 [vs, ve]) := by rw [hK]; exact get_last
 have lN := loadN (o := 0) (n := 2) hKe (by simp) (by decide) rfl
 simp at lN
 have k1 : ARdns K vb f.base := by rw [hK]; exact h1.ext
 have k2 : ANodes K vf f.filter := by rw [hK]; exact h2.ext
 have k3 : AParts K vl f.login := by rw [hK]; exact h3.ext
 have k4 : AParts K vm f.mail := by rw [hK]; exact h4.ext
 have k5 : AParts K vp f.phone := by rw [hK]; exact h5.ext
 have ks : AClasses K vs t.schema := by rw [hK]; exact hs.ext
 have ke : AEntries K ve t.entries := by rw [hK]; exact h.ext
 have c1 := qc k1 k2 k3 k4 k5
 have c2 := qx ks ke
 have hgn : gcH H K (.slc none 0) = H := by rw [hK]; exact gcH_low (by simp [lowV])
 have up : ∀ l q H', WsOut K l q H' → WsOut H l q (gcH H H' q) := by
  rintro l q H' ⟨T, rfl, hn⟩
  refine WsOut.gc ⟨[.mk true 2 [vs, ve]] ++ T, by rw [hK, List.append_assoc], ?_⟩
  rw [← List.append_assoc, ← hK]
  exact hn.wide (by rw [hK]; simp) (Nat.le_refl _)
 by_cases g1 : ai f
 rotate_left
 ·rw [dec_neg g1] at c1
  have ew : ah f t = [] := by unfold ah; rw [dec_neg (fun h => g1 h.1)]; rfl
  rw [ew]
  simp [nZ, Tryz.f18, o1, o2, o3, o4, o5, hos, hoe, strideOf, ← hK, lN, c1, hgn, fillL, zerosL, St.new, elemT, regionL_none, regionL_some, List.lookup]
  exact WsOut.nil
 rw [dec_pos g1] at c1
 by_cases g2 : TreeOk t
 rotate_left
 ·rw [dec_neg g2] at c2
  have ew : ah f t = [] := by unfold ah; rw [dec_neg (fun h => g2 h.2)]; rfl
  rw [ew]
  simp [nZ, Tryz.f18, o1, o2, o3, o4, o5, hos, hoe, strideOf, ← hK, lN, c1, c2, hgn, fillL, zerosL, St.new, elemT, regionL_none, regionL_some, List.lookup]
  exact WsOut.nil
 rw [dec_pos g2] at c2
 obtain ⟨q, H', c3, hq⟩ := BV k1 k2 k3 k4 k5 (At2.of hKe) ks ke g1 g2
 have ew : ah f t = aV f t.entries (af t.schema) := by unfold ah; rw [dec_pos ⟨g1, g2⟩]; rfl
 rw [ew]
 have hqo : isOne q = true ∧ cellsOf q = some [q] := by obtain ⟨T, _, hn⟩ := hq; exact hn.one1
 simp [nZ, Tryz.f18, o1, o2, o3, o4, o5, hos, hoe, strideOf, ← hK, lN, c1, c2, c3, hqo, fillL, zerosL, St.new, elemT, regionL_none, regionL_some, List.lookup]
 exact up _ _ _ hq
end Go.Proofs.Try1
end
section
namespace Go.Proofs.Try1
open Go Go.Lite
theorem zK {w : PWant} : cntP w.u ≤ 5 := by
 simp [PWant.u, cntP, cntPs]
theorem oQ {f : PFlow} {t : PTree} : cntV (.lst ((ah f t).map PWant.u)) ≤ 1000000 := by
 have hl : (ah f t).length ≤ 20 := by
  unfold ah
  split
  ·rename_i h
   have := iw (f := f) (es := t.entries) (kn := af t.schema)
   have := (dec_true.1 h).2.2.1.1
   omega
  ·simp
 have h2 : cntPs ((ah f t).map PWant.u) ≤ (ah f t).length * 5 := wI fun e _ => zK
 simp only [cntV]
 omega
theorem lawWantsOf {H : List Ob} {vs : List V} {xs : List D} (h : IsArgs H [shFlow, shTree] vs xs) : ∃ H', callW C 4 vs H = some (.bool true, H') := by
 rcases vs with _ | ⟨v1, _ | ⟨v2, _ | ⟨v3, vs⟩⟩⟩ <;> rcases xs with _ | ⟨d1, _ | ⟨d2, _ | ⟨d3, xs⟩⟩⟩ <;> first | (exfalso; simp [IsArgs] at h; done) | skip
 obtain ⟨⟨cs1, e1, l1, i1⟩, ⟨cs2, e2, l2, i2⟩, _⟩ := h
 subst e1; subst e2
 have h1 := Is.at _ i1
 obtain ⟨f, hf⟩ := flow_typed h1
 rw [hf] at h1
 have h2 := Is.at _ i2
 obtain ⟨t, he⟩ := tree_typed h2
 rw [he] at h2
 have key := gZ (uR := .lst ((ah f t).map PWant.u)) h1 h2
  (fun G x0 x1 a0 a1 => by
   obtain ⟨w1, w2, w3, w4, w5, rfl, b1, b2, b3, b4, b5⟩ := flow_at.1 a0
   obtain ⟨w6, w7, rfl, b6, b7⟩ := tree_at.1 a1
   obtain ⟨q, G', hc, T, rfl, hn⟩ := wK b1 b2 b3 b4 b5 b6 b7
   exact ⟨_, [q], hc, .app, hn.at⟩)
  (fun G x0 x1 a0 a1 => by
   obtain ⟨w1, w2, w3, w4, w5, rfl, b1, b2, b3, b4, b5⟩ := flow_at.1 a0
   obtain ⟨w6, w7, rfl, b6, b7⟩ := tree_at.1 a1
   obtain ⟨q, G', hc, T, rfl, hn⟩ := wX b1 b2 b3 b4 b5 b6 b7
   exact ⟨_, [q], hc, .app, hn⟩)
  (by have := oQ (f := f) (t := t); omega)
 obtain ⟨r, H', hc, rfl⟩ := key
 exact ⟨H', hc⟩
end Go.Proofs.Try1
end
section
namespace Go.Lite
open Go
variable [Draws]
theorem VL.one {μ : Mu} {v : V} {us : Array Value} (h : VL μ [v] us.toList) : ∃ u, us = #[u] ∧ VR μ v u := by
 have hl := h.length
 match us, hl, h with
 | ⟨[u]⟩, _, h => exact ⟨u, rfl, h.get 0 v u rfl rfl⟩
theorem VL.two {μ : Mu} {v v' : V} {us : Array Value} (h : VL μ [v, v'] us.toList) : ∃ u u', us = #[u, u'] ∧ VR μ v u ∧ VR μ v' u' := by
 have hl := h.length
 match us, hl, h with
 | ⟨[u, u']⟩, _, h => exact ⟨u, u', rfl, h.get 0 v u rfl rfl, h.get 1 v' u' rfl rfl⟩
theorem cmpPrim_ok {P : Program} {g : FuncId} {fn : Func} (hf : P.funcs[g]? = some fn) (hname : (fn.name == "runtime.NumGoroutine") = false) (hb : fn.body.isNone = true) (hn : Extern.findNext fn = none) (he : Extern.find fn = some Extern.BytealgCompare.compare) : PrimOk P g cmpPrim := by
 intro args H r H' h μ w us hs hv
 unfold cmpPrim at h
 split at h
 ·rename_i a b
  cases h
  obtain ⟨u, u', rfl, h1, h2⟩ := hv.two
  obtain ⟨x, rfl, rfl⟩ := h1.str_inv
  obtain ⟨y, rfl, rfl⟩ := h2.str_inv
  refine .inl ⟨.int .i64 (Lib.compareBytes x.data.toList y.data.toList), w, ?_, μ, .refl hs, .int _ _⟩
  rw [run_callFunc_extern hf hname hb hn he, Lib.run_compareString]
  rfl
 ·cases h
theorem strsOf_get : ∀ {cs : List V} {l : List (List UInt8)}, strsOf cs = some l → cs = l.map V.str
 | [], l, h => by cases h; rfl
 | c :: cs, l, h => by
  unfold strsOf at h
  split at h
  ·rename_i he; cases he
  ·rename_i s vs he
   cases he
   split at h
   ·rename_i l' hl
    cases h
    rw [List.map_cons, ← strsOf_get hl]
   ·cases h
  ·cases h
theorem cells_get' {cells l : List V} {o n : Nat} (h : (cells.drop o).take n = l) {j : Nat} (hj : j < n) : cells[o + j]? = l[j]? := by
 subst h
 rw [List.getElem?_take_of_lt hj, List.getElem?_drop]
theorem HGoes.garbage {H : List Ob} {μ : Mu} {w : World} (h : HSim H μ w) (n : Nat) (os : Array Obj) : HGoes H μ w H μ (Sort.grow (Sort.ahead w n) os) := by
 have hsame : ∀ b, b < w.heap.size → (Sort.grow (Sort.ahead w n) os).heap[b]? = w.heap[b]? := fun b hb => by
  show (w.heap ++ os)[b]? = _
  rw [Array.getElem?_append_left hb]
 have hsz : w.heap.size ≤ (Sort.grow (Sort.ahead w n) os).heap.size := by
  show _ ≤ (w.heap ++ os).size
  rw [Array.size_append]; omega
 exact ⟨h.world (fun id o m h1 h2 h3 => .of_heap (hsame _ (live_lt h id o m h1 h2 h3))) hsz, μ.le_refl, ⟨hsz, fun b hb _ => hsame b hb, fun b hb => .inl hb, rfl, rfl, rfl, fun _ => Nat.le_add_right _ _⟩, Lives.refl _ _ _⟩
theorem putRow_wrote {w : World} {blk off : Nat} {d d' : Array (List UInt8)} (h0 : Sort.Holds Go.Proofs.encStr w blk off d) (hs : d'.size = d.size) : Wrote w (Sort.putRow Go.Proofs.encStr w blk off d') blk off (d'.toList.map Go.Proofs.encStr) where
 size := by simp
 os := rfl
 tape := rfl
 drawn := rfl
 output := rfl
 other b' hb := by
  show (w.heap.modify blk _)[b']? = _
  rw [Array.getElem?_modify, if_neg (fun e => hb e.symm)]
 cell j := by
  rw [List.length_map, Array.length_toList]
  split
  ·rename_i hj
   have := Sort.cell?_putRow Go.Proofs.encStr w blk off d d' h0 hs (j - off) (by omega)
   rw [show off + (j - off) = j by omega] at this
   rw [this, List.getElem?_map, Array.getElem?_toList, Array.getElem?_eq_getElem (by omega), getElem!_pos d' (j - off) (by omega)]
   rfl
  ·rename_i hj
   exact Sort.cell?_putRow_other Go.Proofs.encStr w blk off d' ⟨blk, j, none⟩ (by simp only; omega)
 frozen j := by simp
theorem sortPrim_ok {P : Program} {g : FuncId} (hcall : ∀ us w, (callFunc g us).run P w = .ok (.enter g us) w)
  (hsort : ∀ (blk off cap : Nat) (zs : List (List UInt8)) (w : World), Sort.Holds Go.Proofs.encStr w blk off zs.toArray → blk < w.heap.size → zs.length < 4611686018427387904 → Calls P g #[.slice (some ⟨blk, off, none⟩) zs.length cap] w fun e w' =>
   e = .returned (.tuple #[]) ∧ ∃ n os, w' = Sort.grow (Sort.putRow Go.Proofs.encStr (Sort.ahead w n) blk off (zs.mergeSort fun x y => decide (x ≤ y)).toArray) os)
  (hnone : ∀ (p : Option Addr) (cap : Nat) (w : World), Calls P g #[.slice p 0 cap] w fun e w' => e = .returned (.tuple #[]) ∧ w' = w) : PrimOk P g sortPrim := by
 intro args H r H' h μ w us hs hv
 have htup : ∀ μ : Mu, VR μ (.tup []) (.tuple #[]) := fun μ => VR.tup [] #[] rfl (fun i v u h _ => by simp at h)
 unfold sortPrim at h
 split at h
 case h_2 => cases h
 rename_i p n
 obtain ⟨u, rfl, hu⟩ := hv.one
 refine .inr ⟨hcall _ _, ?_⟩
 split at h
 ·rename_i hn
  subst hn
  cases h
  have : ∃ q c, u = .slice q 0 c := by
   cases p with
   | none => obtain ⟨rfl, _⟩ := hu.slcN_inv; exact ⟨_, _, rfl⟩
   | some p =>
    obtain ⟨id, off⟩ := p
    obtain ⟨m, _, ⟨c, _, _, _, rfl⟩ | ⟨_, _, a, rfl⟩⟩ := hu.slc_inv <;> exact ⟨_, _, rfl⟩
  obtain ⟨q, c, rfl⟩ := this
  refine (hnone q c w).mono ?_
  rintro e w' ⟨rfl, rfl⟩
  exact ⟨_, rfl, μ, .refl hs, htup μ⟩
 ·rename_i hn
  split at h
  case h_2 => cases h
  rename_i id off
  split at h
  case h_2 => cases h
  rename_i es cells ho
  split at h
  case isFalse => cases h
  rename_i hc
  obtain ⟨rfl, hlen, hmax⟩ := hc
  split at h
  case h_2 => cases h
  rename_i ss hss
  cases h
  have hcs := strsOf_get hss
  have hssl : ss.length = n := by
   have := congrArg List.length hcs
   simp at this
   omega
  obtain ⟨m, hm, ⟨c, hc1, hc2, hc3, rfl⟩ | ⟨h0, _⟩⟩ := hu.slc_inv
  rotate_left
  ·exact absurd h0 hn
  obtain ⟨g1, g2, g3, g4, g5, g6⟩ := hs.obj id _ m ho hm
  obtain ⟨g6, g7⟩ := g6 rfl
  have hget : ∀ j, j < ss.length → cells[off + j]? = some (.str ss[j]!) := fun j hj => by
   rw [cells_get' hcs (show j < n by omega), List.getElem?_map, List.getElem?_eq_getElem hj]
   simp [hj]
  have hH : Sort.Holds Go.Proofs.encStr w m.blk (m.base + off) ss.toArray := fun j hj => by
   simp only [List.size_toArray] at hj
   obtain ⟨u, hu1, hu2⟩ := g4 (off + j) _ (hget j hj)
   obtain ⟨b, rfl, hb⟩ := hu2.str_inv
   have hbe : Value.string b = Go.Proofs.encStr ss[j]! := by
    show _ = Value.string ⟨ss[j]!.toArray⟩
    rw [hb]
   refine ⟨?_, ?_⟩
   ·rw [Nat.add_assoc, hu1, hbe]
    congr 2
    simp [hj]
   ·exact (g7 (m.base + off + j) (by omega) (by omega)).2
  have hsort' := hsort m.blk (m.base + off) c ss w hH g5 (by omega)
  rw [hssl] at hsort'
  refine hsort'.mono ?_
  rintro e w' ⟨rfl, k, os, rfl⟩
  refine ⟨_, rfl, μ, ?_, htup μ⟩
  have hlen2 : (ss.mergeSort fun x y => decide (x ≤ y)).length = ss.length := List.length_mergeSort ss
  have hwr := putRow_wrote (d' := (ss.mergeSort fun x y => decide (x ≤ y)).toArray) hH (by simp [hlen2])
  have hvl : VL μ ((ss.mergeSort fun x y => decide (x ≤ y)).map V.str) (((ss.mergeSort fun x y => decide (x ≤ y)).toArray).toList.map Go.Proofs.encStr) := by
   refine VL.of_get (by simp) fun i v u h1 h2 => ?_
   simp only [List.getElem?_map] at h1 h2
   cases hx : (ss.mergeSort fun x y => decide (x ≤ y))[i]? with
   | none => rw [hx] at h1; cases h1
   | some s =>
    rw [hx] at h1 h2
    cases h1
    cases h2
    exact VR.str ⟨s.toArray⟩
  have hgo := HGoes.write hs ho hm hwr hvl (by rw [List.length_map, hlen2]; omega)
  rw [Sort.putRow_ahead]
  exact hgo.trans (HGoes.garbage hgo.sim k os)
end Go.Lite
end
section
namespace Go.Proofs.Try1
open Go Go.Lite
theorem jq {L : List Nat} {n : Nat} {P : Program} {f : FuncId} {args : Array Value} {w : World} {R : Ending → World → Prop} (h : ∀ D, CallsIn (Fence.list L (some D)) n P f args w R) : Calls P f args w R := fun cs =>
 let ⟨e, w', fr, r, s, x⟩ := (h (cs.length + 1 + n)).2 cs (fun d hd => by cases hd; omega)
 ⟨e, w', fr, r, s.comes, x⟩
theorem zU [Draws] : PrimOk Tryz.prog 362 cmpPrim :=
 cmpPrim_ok Tryz.func362 (by kernel_rfl) (by kernel_rfl) rfl rfl
theorem enters {g : Nat} {fn : Func} (h1 : Tryz.prog.funcs[g]? = some fn) (h2 : (fn.name == "runtime.NumGoroutine") = false) (h3 : fn.body.isNone = false) (us : Array Value) (w : World) : (callFunc g us).run Tryz.prog w = .ok (.enter g us) w := by
 simp [callFunc, h1, (by simpa using h2 : ¬ fn.name = "runtime.NumGoroutine")]
 intro hb
 rw [hb] at h3
 cases h3
end Go.Proofs.Try1
end
section
namespace Go.Proofs.Try0
open Go Go.Lite
def locTab : List (Nat × List Nat) := [(112, [3, 5])]
def ordTab : List (Nat × List (Nat × Hint)) := [(112, [(4, ⟨[0, 1, 2, 3, 4, 5, 6, 7, 8, 9, 10], [], [], [(0, 3), (2, 5), (6, 5), (10, 3)], [], []⟩)])]
def fids : List Nat := [44, 186, 199, 217, 263, 271, 272, 293, 310, 315, 334, 336, 353]
noncomputable def primTab : Nat → Option (List V → List Ob → Option (V × List Ob)) := fun f => if f = 362 then some cmpPrim else none
noncomputable def tabs : Tabs := { locs := fun f => (locTab.lookup f).getD [], ord := fun f id => ((ordTab.lookup f).getD []).lookup id, prim := primTab, fids := fids }
theorem mixed : Tryz.prog.follows .mixedOrders = true := rfl
theorem ok : progB Tryz.prog tabs = true := by decide +kernel
noncomputable def C : Ctx := ctxOf Tryz.prog tabs
@[simp] theorem ty3 : C.ty 3 = ⟨.int .i64, 1, 8, [.int .i64 0]⟩ := by kernel_rfl
@[simp] theorem ty4 : C.ty 4 = ⟨.bool, 1, 1, [.bool false]⟩ := by kernel_rfl
@[simp] theorem ty5 : C.ty 5 = ⟨.int .u8, 1, 1, [.int .u8 0]⟩ := by kernel_rfl
@[simp] theorem ty9 : C.ty 9 = ⟨.str, 1, 16, [.str []]⟩ := by kernel_rfl
@[simp] theorem Ey : C.ty 56 = ⟨.slice 202, 1, 24, [.slc none 0]⟩ := by kernel_rfl
@[simp] theorem pM : C.ty 202 = ⟨.struct [(0, 9), (1, 9)], 2, 32, [.str [], .str []]⟩ := by kernel_rfl
@[simp] theorem I9 : C.ty 222 = ⟨.slice 5, 1, 24, [.slc none 0]⟩ := by kernel_rfl
noncomputable def bV : Code := match Tryz.f44.body with | some c => c | none => .skip
theorem Hf : C.fids 44 = true := by kernel_rfl
theorem Hu : Tryz.f44.body = some bV := rfl
theorem GH : C.prim 44 = none := rfl
theorem Io : C.funcs 44 = some Tryz.f44 := Tryz.func44
theorem EU {a : List V} {H : List Ob} {R : V → List Ob → Prop} : Ret C 44 a H R ↔ WP C 44 bV ⟨initRegs a, 0, H⟩ (finQ C Tryz.f44 H R) := Ret_fn GH Hf Io Hu
@[simp] theorem ED : C.locs 44 = [] := by kernel_rfl
noncomputable def bf : Code := match Tryz.f186.body with | some c => c | none => .skip
theorem DT : C.fids 186 = true := by kernel_rfl
theorem Dt : Tryz.f186.body = some bf := rfl
theorem Du : C.prim 186 = none := rfl
theorem Di : C.funcs 186 = some Tryz.f186 := Tryz.func186
theorem yx {a : List V} {H : List Ob} {R : V → List Ob → Prop} : Ret C 186 a H R ↔ WP C 186 bf ⟨initRegs a, 0, H⟩ (finQ C Tryz.f186 H R) := Ret_fn Du DT Di Dt
@[simp] theorem BH : C.locs 186 = [] := by kernel_rfl
noncomputable def bg : Code := match Tryz.f199.body with | some c => c | none => .skip
theorem Dw : C.fids 199 = true := by kernel_rfl
theorem Dk : Tryz.f199.body = some bg := rfl
theorem CZ : C.prim 199 = none := rfl
theorem Dy : C.funcs 199 = some Tryz.f199 := Tryz.func199
theorem yR {a : List V} {H : List Ob} {R : V → List Ob → Prop} : Ret C 199 a H R ↔ WP C 199 bg ⟨initRegs a, 0, H⟩ (finQ C Tryz.f199 H R) := Ret_fn CZ Dw Dy Dk
@[simp] theorem AC : C.locs 199 = [] := by kernel_rfl
noncomputable def aU : Code := match Tryz.f217.body with | some c => c | none => .skip
theorem DY : C.fids 217 = true := by kernel_rfl
theorem Dq : Tryz.f217.body = some aU := rfl
theorem DJ : C.prim 217 = none := rfl
theorem Df : C.funcs 217 = some Tryz.f217 := Tryz.func217
theorem zC {a : List V} {H : List Ob} {R : V → List Ob → Prop} : Ret C 217 a H R ↔ WP C 217 aU ⟨initRegs a, 0, H⟩ (finQ C Tryz.f217 H R) := Ret_fn DJ DY Df Dq
@[simp] theorem AO : C.locs 217 = [] := by kernel_rfl
noncomputable def dP : Code := match Tryz.f263.body with | some c => c | none => .skip
theorem Dp : C.fids 263 = true := by kernel_rfl
theorem CU : Tryz.f263.body = some dP := rfl
theorem Ea : C.prim 263 = none := rfl
theorem Eh : C.funcs 263 = some Tryz.f263 := Tryz.func263
theorem zo {a : List V} {H : List Ob} {R : V → List Ob → Prop} : Ret C 263 a H R ↔ WP C 263 dP ⟨initRegs a, 0, H⟩ (finQ C Tryz.f263 H R) := Ret_fn Ea Dp Eh CU
@[simp] theorem Aj : C.locs 263 = [] := by kernel_rfl
noncomputable def dV : Code := match Tryz.f271.body with | some c => c | none => .skip
theorem Dv : C.fids 271 = true := by kernel_rfl
theorem DL : Tryz.f271.body = some dV := rfl
theorem CG : C.prim 271 = none := rfl
theorem Ei : C.funcs 271 = some Tryz.f271 := Tryz.func271
theorem zn {a : List V} {H : List Ob} {R : V → List Ob → Prop} : Ret C 271 a H R ↔ WP C 271 dV ⟨initRegs a, 0, H⟩ (finQ C Tryz.f271 H R) := Ret_fn CG Dv Ei DL
@[simp] theorem Bh : C.locs 271 = [] := by kernel_rfl
noncomputable def eY : Code := match Tryz.f272.body with | some c => c | none => .skip
theorem CW : C.fids 272 = true := by kernel_rfl
theorem Dh : Tryz.f272.body = some eY := rfl
theorem CP : C.prim 272 = none := rfl
theorem CY : C.funcs 272 = some Tryz.f272 := Tryz.func272
theorem Ac {a : List V} {H : List Ob} {R : V → List Ob → Prop} : Ret C 272 a H R ↔ WP C 272 eY ⟨initRegs a, 0, H⟩ (finQ C Tryz.f272 H R) := Ret_fn CP CW CY Dh
@[simp] theorem CB : C.locs 272 = [] := by kernel_rfl
noncomputable def aS : Code := match Tryz.f293.body with | some c => c | none => .skip
theorem DV : C.fids 293 = true := by kernel_rfl
theorem Dx : Tryz.f293.body = some aS := rfl
theorem D5 : C.prim 293 = none := rfl
theorem D8 : C.funcs 293 = some Tryz.f293 := Tryz.func293
theorem xh {a : List V} {H : List Ob} {R : V → List Ob → Prop} : Ret C 293 a H R ↔ WP C 293 aS ⟨initRegs a, 0, H⟩ (finQ C Tryz.f293 H R) := Ret_fn D5 DV D8 Dx
@[simp] theorem Ap : C.locs 293 = [] := by kernel_rfl
noncomputable def dQ : Code := match Tryz.f310.body with | some c => c | none => .skip
theorem DK : C.fids 310 = true := by kernel_rfl
theorem Ef : Tryz.f310.body = some dQ := rfl
theorem DD : C.prim 310 = none := rfl
theorem Ee : C.funcs 310 = some Tryz.f310 := Tryz.func310
theorem yS {a : List V} {H : List Ob} {R : V → List Ob → Prop} : Ret C 310 a H R ↔ WP C 310 dQ ⟨initRegs a, 0, H⟩ (finQ C Tryz.f310 H R) := Ret_fn DD DK Ee Ef
@[simp] theorem Ah : C.locs 310 = [] := by kernel_rfl
noncomputable def bI : Code := match Tryz.f315.body with | some c => c | none => .skip
theorem CO : C.fids 315 = true := by kernel_rfl
theorem DU : Tryz.f315.body = some bI := rfl
theorem Ec : C.prim 315 = none := rfl
theorem C9 : C.funcs 315 = some Tryz.f315 := Tryz.func315
theorem yN {a : List V} {H : List Ob} {R : V → List Ob → Prop} : Ret C 315 a H R ↔ WP C 315 bI ⟨initRegs a, 0, H⟩ (finQ C Tryz.f315 H R) := Ret_fn Ec CO C9 DU
@[simp] theorem Am : C.locs 315 = [] := by kernel_rfl
noncomputable def eF : Code := match Tryz.f334.body with | some c => c | none => .skip
theorem CS : C.fids 334 = true := by kernel_rfl
theorem CX : Tryz.f334.body = some eF := rfl
theorem Ed : C.prim 334 = none := rfl
theorem DR : C.funcs 334 = some Tryz.f334 := Tryz.func334
theorem Ad {a : List V} {H : List Ob} {R : V → List Ob → Prop} : Ret C 334 a H R ↔ WP C 334 eF ⟨initRegs a, 0, H⟩ (finQ C Tryz.f334 H R) := Ret_fn Ed CS DR CX
@[simp] theorem A7 : C.locs 334 = [] := by kernel_rfl
noncomputable def aZ : Code := match Tryz.f336.body with | some c => c | none => .skip
theorem CE : C.fids 336 = true := by kernel_rfl
theorem DF : Tryz.f336.body = some aZ := rfl
theorem DI : C.prim 336 = none := rfl
theorem Ej : C.funcs 336 = some Tryz.f336 := Tryz.func336
theorem yG {a : List V} {H : List Ob} {R : V → List Ob → Prop} : Ret C 336 a H R ↔ WP C 336 aZ ⟨initRegs a, 0, H⟩ (finQ C Tryz.f336 H R) := Ret_fn DI CE Ej DF
@[simp] theorem Cj : C.locs 336 = [] := by kernel_rfl
noncomputable def dX : Code := match Tryz.f353.body with | some c => c | none => .skip
theorem D7 : C.fids 353 = true := by kernel_rfl
theorem DW : Tryz.f353.body = some dX := rfl
theorem DC : C.prim 353 = none := rfl
theorem DX : C.funcs 353 = some Tryz.f353 := Tryz.func353
theorem xZ {a : List V} {H : List Ob} {R : V → List Ob → Prop} : Ret C 353 a H R ↔ WP C 353 dX ⟨initRegs a, 0, H⟩ (finQ C Tryz.f353 H R) := Ret_fn DC D7 DX DW
@[simp] theorem BP : C.locs 353 = [] := by kernel_rfl
noncomputable def vI : Code := match Tryz.f112.body with | some c => c | none => .skip
@[simp] theorem NE : C.locs 112 = [3, 5] := by kernel_rfl
@[simp] theorem Fq : C.ord 112 4 = some ⟨[0, 1, 2, 3, 4, 5, 6, 7, 8, 9, 10], [], [], [(0, 3), (2, 5), (6, 5), (10, 3)], [], []⟩ := by kernel_rfl
theorem jB {t : Str} {H : List Ob} (ht : t.length ≤ 1000) : callW C 263 [.str t] H = some (.bool (dec (Plain t)), H) := by
 apply Ret.dec
 rw [zo]
 simp [dP, Tryz.f263]
 refine WP_loop (fun k σ => ∃ (i : Nat) (r : Nat → R), i + k = t.length ∧ σ = ⟨r, 0, H⟩ ∧ r 0 = .val (.str t) ∧ r 3 = .val (.int .i64 i) ∧ ∀ j, j < i → ∀ c, t[j]? = some c → PlainB c) ?_ t.length _ ⟨0, _, by simp, rfl, by simp, by simp, by simp⟩
 rintro k σ ⟨i, r, hik, rfl, r0, r3, hall⟩
 cases k with
 | zero =>
  have hi : i = t.length := by omega
  subst hi
  simp [r0, r3]
  intro j c hc
  exact hall j (List.getElem?_eq_some_iff.1 hc).1 c hc
 | succ k =>
  have hi : i < t.length := by omega
  obtain ⟨c, hc⟩ : ∃ c, t[i]? = some c := ⟨t[i], by simp [hi]⟩
  have hc' : t[i] = c := (List.getElem?_eq_some_iff.1 hc).2
  have hw : IntKind.i64.wrap ((i : Int) + 1) = ((i : Int) + 1) := wrap_i64 (by omega) (by omega)
  by_cases h1 : (c.toNat : Int) < 32
  ·simp [r0, r3, hi, hc', h1]
   intro hp
   have := (hp i c hc).1
   omega
  ·by_cases h2 : (c.toNat : Int) > 126
   ·simp [r0, r3, hi, hc', h1, h2]
    intro hp
    have := (hp i c hc).2
    omega
   ·simp [r0, r3, hi, hc', h1, h2, hw]
    exact ⟨k, by omega, i + 1, by omega, by omega, all_step (P := fun _ c => PlainB c) hall hc ⟨by omega, by omega⟩⟩
theorem kE {t : Str} {H : List Ob} (ht : t.length ≤ 1000) : callW C 271 [.str t] H = some (.bool (dec (Plain t)), H) := by
 apply Ret.dec
 rw [zn]
 simp [dV, Tryz.f271]
 refine WP_loop (fun k σ => ∃ (i : Nat) (r : Nat → R), i + k = t.length ∧ σ = ⟨r, 0, H⟩ ∧ r 0 = .val (.str t) ∧ r 5 = .val (.int .i64 t.length) ∧ r 6 = .val (.int .i64 i) ∧ ∀ j, j < i → ∀ c, t[j]? = some c → PlainB c) ?_ t.length _ ⟨0, _, by simp, rfl, by simp, by simp, by simp, by simp⟩
 rintro k σ ⟨i, r, hik, rfl, r0, r5, r6, hall⟩
 cases k with
 | zero =>
  have hi : i = t.length := by omega
  subst hi
  simp [r0, r5, r6]
  intro j c hc
  exact hall j (List.getElem?_eq_some_iff.1 hc).1 c hc
 | succ k =>
  have hi : i < t.length := by omega
  obtain ⟨c, hc⟩ : ∃ c, t[i]? = some c := ⟨t[i], by simp [hi]⟩
  have hc' : t[i] = c := (List.getElem?_eq_some_iff.1 hc).2
  have hw : IntKind.i64.wrap ((i : Int) + 1) = ((i : Int) + 1) := wrap_i64 (by omega) (by omega)
  by_cases h1 : (c.toNat : Int) < 32
  ·simp [r0, r5, r6, hi, hc', h1]
   intro hp
   have := (hp i c hc).1
   omega
  ·by_cases h2 : (c.toNat : Int) > 126
   ·simp [r0, r5, r6, hi, hc', h1, h2]
    intro hp
    have := (hp i c hc).2
    omega
   ·simp [r0, r5, r6, hi, hc', h1, h2, hw]
    exact ⟨k, by omega, i + 1, by omega, by omega, all_step (P := fun _ c => PlainB c) hall hc ⟨by omega, by omega⟩⟩
theorem gp {t : Str} {H : List Ob} : callW C 44 [.str t] H = some (.bool (dec (NameOk t)), H) := by
 apply Ret.dec
 rw [EU]
 by_cases g1 : (t.length : Int) < 1
 ·have g2 : ¬ NameOk t := fun h => by have := h.1; omega
  simp [bV, Tryz.f44, g1, g2]
 by_cases g2 : (t.length : Int) > 20
 ·have g3 : ¬ NameOk t := fun h => by have := h.2.1; omega
  simp [bV, Tryz.f44, g1, g2, g3]
 simp [bV, Tryz.f44, g1, g2]
 refine WP_loop (fun k σ => ∃ (i : Nat) (r : Nat → R), i + k = t.length ∧ σ = ⟨r, 0, H⟩ ∧ r 0 = .val (.str t) ∧ r 3 = .val (.int .i64 i) ∧ ∀ j, j < i → ∀ c, t[j]? = some c → LowB c ∨ (0 < j ∧ (DigB c ∨ c.toNat = 95))) ?_ t.length _ ⟨0, _, by simp, rfl, by simp, by simp, by simp⟩
 rintro k σ ⟨i, r, hik, rfl, r0, r3, hall⟩
 cases k with
 | zero =>
  have hi : i = t.length := by omega
  subst hi
  have hok : NameOk t := ⟨by omega, by omega, fun j c hc => hall j (List.getElem?_eq_some_iff.1 hc).1 c hc⟩
  simp [r0, r3, hok]
 | succ k =>
  have hi : i < t.length := by omega
  obtain ⟨c, hc⟩ : ∃ c, t[i]? = some c := ⟨t[i], by simp [hi]⟩
  have hc' : t[i] = c := (List.getElem?_eq_some_iff.1 hc).2
  have hw : IntKind.i64.wrap ((i : Int) + 1) = ((i : Int) + 1) := wrap_i64 (by omega) (by omega)
  have hgo : LowB c ∨ (0 < i ∧ (DigB c ∨ c.toNat = 95)) → ∃ k', k' < k + 1 ∧ ∃ i', i' + k' = t.length ∧ (i : Int) + 1 = i' ∧ ∀ j, j < i' → ∀ c, t[j]? = some c → LowB c ∨ (0 < j ∧ (DigB c ∨ c.toNat = 95)) := fun h =>
   ⟨k, by omega, i + 1, by omega, by omega, all_step (P := fun j c => LowB c ∨ (0 < j ∧ (DigB c ∨ c.toNat = 95))) hall hc h⟩
  by_cases h1 : LowB c
  ·have h1a : (c.toNat : Int) ≥ 97 := by have := h1.1; omega
   have h1b : (c.toNat : Int) ≤ 122 := by have := h1.2; omega
   simp [r0, r3, hi, hc', h1a, h1b, hw]
   exact hgo (.inl h1)
  have hl : (¬ (c.toNat : Int) ≥ 97) ∨ ((c.toNat : Int) ≥ 97 ∧ ¬ (c.toNat : Int) ≤ 122) := by unfold LowB at h1; omega
  have hno : ¬ (0 < i ∧ (DigB c ∨ c.toNat = 95)) → ¬ NameOk t := fun h hk => (hk.2.2 i c hc).elim h1 h
  by_cases h2 : i = 0
  ·have hno := hno (by omega)
   subst h2
   rcases hl with hl | ⟨hl, hl2⟩
   ·simp [r0, r3, hi, hc', hl, hno]
   ·simp [r0, r3, hi, hc', hl, hl2, hno]
  have h2' : ¬ (i : Int) = 0 := by omega
  by_cases h3 : DigB c
  ·have h3a : (c.toNat : Int) ≥ 48 := by have := h3.1; omega
   have h3b : (c.toNat : Int) ≤ 57 := by have := h3.2; omega
   have h3c : ¬ (c.toNat : Int) ≥ 97 := by omega
   simp [r0, r3, hi, hc', h2, h3a, h3b, h3c, hw]
   exact hgo (.inr ⟨by omega, .inl h3⟩)
  have hd : (¬ (c.toNat : Int) ≥ 48) ∨ ((c.toNat : Int) ≥ 48 ∧ ¬ (c.toNat : Int) ≤ 57) := by unfold DigB at h3; omega
  by_cases h4 : c.toNat = 95
  ·have := hgo (.inr ⟨by omega, .inr h4⟩)
   simp [r0, r3, hi, hc', h2, h4, hw]
   exact this
  ·have h4' : ¬ (c.toNat : Int) = 95 := by omega
   have hno := hno (fun h => h.2.elim h3 h4)
   rcases hl with hl | ⟨hl, hl2⟩ <;> rcases hd with hd | ⟨hd, hd2⟩
   ·simp [r0, r3, hi, hc', h2, h4', hl, hd, hno]
   ·simp [r0, r3, hi, hc', h2, h4', hl, hd, hd2, hno]
   ·simp [r0, r3, hi, hc', h2, h4', hl, hl2, hd, hno]
   ·simp [r0, r3, hi, hc', h2, h4', hl, hl2, hd, hd2, hno]
theorem dZ {c : UInt8} (h1 : 65 ≤ c.toNat) (h2 : c.toNat ≤ 90) : IntKind.u8.wrap ((c.toNat : Int) + 32) = ((lowC c).toNat : Int) := by
 have : lowC c = c + 32 := by unfold lowC; rw [if_pos ⟨h1, h2⟩]
 rw [this]
 unfold IntKind.wrap
 simp [IntKind.bits, IntKind.signed, UInt8.toNat_add]
theorem dI {c : UInt8} (h1 : 65 ≤ c.toNat) (h2 : c.toNat ≤ 90) : (lowC c).toNat = c.toNat + 32 := by
 have : lowC c = c + 32 := by unfold lowC; rw [if_pos ⟨h1, h2⟩]
 rw [this, UInt8.toNat_add]
 have : c.toNat + 32 < 256 := by omega
 simp
 omega
theorem eG {c : UInt8} (h : ¬ (65 ≤ c.toNat ∧ c.toNat ≤ 90)) : lowC c = c := by unfold lowC; rw [if_neg h]
theorem cu {c : UInt8} : c = 32 ↔ c.toNat = 32 := ⟨fun h => by rw [h]; rfl, fun h => UInt8.toNat_inj.1 h⟩
theorem bZ {t : Str} {i : Nat} {c : UInt8} (h : t[i]? = some c) (f : Str → UInt8 → Str) (b : Str) : (t.take (i + 1)).foldl f b = f ((t.take i).foldl f b) c := by
 rw [take_get h, List.foldl_append]
 rfl
theorem ak {b : Str} {d : UInt8} (h : b.getLast? = some d) : endSp b = true ↔ d = 32 := by
 unfold endSp
 rw [h]
 simp
theorem bn {b : Str} (h : b ≠ []) : ∃ d, b.getLast? = some d := ⟨b.getLast h, List.getLast?_eq_some_getLast h⟩
theorem cZ {t : Str} {H : List Ob} : callW C 186 [.str t] H = some (.str (norm t), H) := by
 apply Ret.eq
 rw [yx]
 by_cases g1 : (t.length : Int) > 100
 ·have : norm t = [] := by unfold norm; rw [if_neg (by omega)]
  simp [bf, Tryz.f186, g1, this]
 have hp := jB (t := t) (H := H) (by omega)
 by_cases g2 : Plain t
 rotate_left
 ·rw [dec_neg g2] at hp
  have : norm t = [] := by unfold norm; rw [dec_neg g2]; simp
  simp [bf, Tryz.f186, g1, hp, this]
 rw [dec_pos g2] at hp
 have hn : norm t = nfin (t.foldl nstep []) := by unfold norm; rw [if_pos ⟨by omega, dec_pos g2⟩]
 have hbz : ∀ i, ((t.take i).foldl nstep []).length ≤ 100 := fun i => by
  have := foldl_len (t.take i) []
  simp at this
  omega
 simp [bf, Tryz.f186, g1, hp, elemT, fillL, zerosL, St.new]
 refine WP_loop (fun k σ => ∃ (i : Nat) (r : Nat → R) (G : List Ob) (v : V), i + k = t.length ∧ σ = ⟨r, 0, G⟩ ∧ r 0 = .val (.str t) ∧ r 3 = .val v ∧ r 4 = .val (.int .i64 i) ∧ Bs H G v ((t.take i).foldl nstep [])) ?_ t.length _ ⟨0, _, _, _, by simp, rfl, by simp, by simp, by simp, Bs.init⟩
 rintro k σ ⟨i, r, G, v, hik, rfl, r0, r3, r4, hB⟩
 have hbl := hbz i
 generalize hb : (t.take i).foldl nstep [] = b at hB hbl
 have hw1 : IntKind.i64.wrap ((b.length : Int) - 1) = (b.length : Int) - 1 := wrap_i64 (by omega) (by omega)
 cases k with
 | zero =>
  have hi : i = t.length := by omega
  subst hi
  rw [List.take_length] at hb
  rw [hb] at hn
  obtain ⟨TT, rfl⟩ := hB.ext
  by_cases hb0 : b = []
  ·subst hb0
   obtain ⟨id, rfl, hst, hsl⟩ := hB.cut (n := 0) (Nat.le_refl _)
   simp [r0, r3, r4, hsl, isByte, bys_mapM, hn, nfin, endSp]
  ·obtain ⟨d, hd⟩ := bn hb0
   have hb1 : 0 < b.length := List.length_pos_iff.2 hb0
   have hb2 : 0 < (b.length : Int) := by omega
   have hb3 : (1 : Int) ≤ (b.length : Int) := by omega
   have hb5 : (b.length : Int) - 1 < (b.length : Int) := by omega
   have hb4 : ((b.length : Int) - 1).toNat = b.length - 1 := by omega
   obtain ⟨id, rfl, hld⟩ := hB.last hd
   by_cases hd32 : d = 32
   ·obtain ⟨_, hv, hst, hsl⟩ := hB.cut (n := b.length - 1) (by omega)
    cases hv
    have he : nfin b = b.take (b.length - 1) := by unfold nfin; rw [if_pos ((ak hd).2 hd32), List.dropLast_eq_take]
    have hd' : (d.toNat : Int) = 32 := by rw [hd32]; rfl
    simp [r0, r3, r4, hb0, hb1, hb2, hb3, hb4, hb5, hw1, hld, hd', hst, hsl, isByte, bys_mapM, hn, he]
   ·obtain ⟨_, hv, hst, hsl⟩ := hB.cut (n := b.length) (Nat.le_refl _)
    cases hv
    have he : nfin b = b := by unfold nfin; rw [if_neg (fun h => hd32 ((ak hd).1 h))]
    have hd' : ¬ (d.toNat : Int) = 32 := by have := mt cu.2 hd32; omega
    rw [List.take_length] at hsl
    simp [r0, r3, r4, hb0, hb1, hb2, hb3, hb4, hb5, hw1, hld, hd', hst, hsl, isByte, bys_mapM, hn, he]
 | succ k =>
  have hi : i < t.length := by omega
  obtain ⟨c, hc⟩ : ∃ c, t[i]? = some c := ⟨t[i], by simp [hi]⟩
  have hc' : t[i] = c := (List.getElem?_eq_some_iff.1 hc).2
  have hw : IntKind.i64.wrap ((i : Int) + 1) = ((i : Int) + 1) := wrap_i64 (by omega) (by omega)
  have hfs := bZ hc nstep []
  rw [hb] at hfs
  have hgo : ∀ G' v', Bs H G' v' (nstep b c) → ∃ k', k' < k + 1 ∧ ∃ i', i' + k' = t.length ∧ (i : Int) + 1 = i' ∧ Bs H G' v' ((t.take i').foldl nstep []) := fun G' v' h =>
   ⟨k, by omega, i + 1, by omega, by omega, by rw [hfs]; exact h⟩
  by_cases hup : 65 ≤ c.toNat ∧ c.toNat ≤ 90
  ·have hu1 : (c.toNat : Int) ≥ 65 := by omega
   have hu2 : (c.toNat : Int) ≤ 90 := by omega
   have hlw := dZ hup.1 hup.2
   have hl32 : ¬ ((lowC c).toNat : Int) = 32 := by rw [dI hup.1 hup.2]; omega
   have hns : nstep b c = b ++ [lowC c] := by unfold nstep; rw [if_neg (fun h => hl32 (by rw [cu.1 h.1]; rfl))]
   obtain ⟨v', G', ha, hB'⟩ := hB.push (by omega) (c := lowC c) (d := .int .u8) (z := [.int .u8 0]) rfl
   rw [← hns] at hB'
   simp [r0, r3, r4, hi, hc', hu1, hu2, hlw, hl32, elemT, fillL, zerosL, St.new, badArg, ha, hw]
   obtain ⟨k', q1, i', q2, q3, q4⟩ := hgo G' v' hB'
   exact ⟨k', q1, i', q2, _, _, ⟨rfl, rfl⟩, by simp [r0], _, by simp [r3], by simp [q3], q4⟩
  have hlc := eG hup
  have hu : (¬ (c.toNat : Int) ≥ 65) ∨ ((c.toNat : Int) ≥ 65 ∧ ¬ (c.toNat : Int) ≤ 90) := by omega
  by_cases h32 : c = 32
  ·have h32' : (c.toNat : Int) = 32 := by rw [h32]; rfl
   have hu1 : ¬ (c.toNat : Int) ≥ 65 := by omega
   by_cases hb0 : b = []
   ·have hns : nstep b c = b := by unfold nstep; rw [if_pos ⟨by rw [hlc, h32], .inl hb0⟩]
    rw [hns] at hgo
    have hbl0 : b.length = 0 := by rw [hb0]; rfl
    have := hgo G v hB
    simp [r0, r3, r4, hi, hc', h32', hB.len, hbl0, hw]
    obtain ⟨k', q1, i', q2, q3, q4⟩ := this
    exact ⟨k', q1, i', q2, _, _, ⟨rfl, rfl⟩, by simp [r0], _, by simp [r3], by simp [q3], q4⟩
   ·obtain ⟨d, hd⟩ := bn hb0
    have hb1 : 0 < b.length := List.length_pos_iff.2 hb0
    have hb3 : (1 : Int) ≤ (b.length : Int) := by omega
    have hb5 : (b.length : Int) - 1 < (b.length : Int) := by omega
    have hb4 : ((b.length : Int) - 1).toNat = b.length - 1 := by omega
    obtain ⟨id, hv, hld⟩ := hB.last hd
    have hB0 := hB
    subst hv
    by_cases hd32 : d = 32
    ·have hns : nstep b c = b := by unfold nstep; rw [if_pos ⟨by rw [hlc, h32], .inr ((ak hd).2 hd32)⟩]
     rw [hns] at hgo
     have hd' : (d.toNat : Int) = 32 := by rw [hd32]; rfl
     have := hgo G _ hB
     simp [r0, r3, r4, hi, hc', h32', hb0, hb1, hb3, hb4, hb5, hw1, hld, hd', hw]
     obtain ⟨k', q1, i', q2, q3, q4⟩ := this
     exact ⟨k', q1, i', q2, _, _, ⟨rfl, rfl⟩, by simp [r0], _, by simp [r3], by simp [q3], q4⟩
    ·have hns : nstep b c = b ++ [c] := by unfold nstep; rw [if_neg (fun h => h.2.elim hb0 (fun h => hd32 ((ak hd).1 h))), hlc]
     have hd' : ¬ (d.toNat : Int) = 32 := by have := mt cu.2 hd32; omega
     obtain ⟨v', G', ha, hB'⟩ := hB.push (by omega) (c := c) (d := .int .u8) (z := [.int .u8 0]) rfl
     rw [← hns] at hB'
     rw [h32'] at ha
     simp [r0, r3, r4, hi, hc', h32', hb0, hb1, hb3, hb4, hb5, hw1, hld, hd', elemT, fillL, zerosL, St.new, badArg, ha, hw]
     obtain ⟨k', q1, i', q2, q3, q4⟩ := hgo G' v' hB'
     exact ⟨k', q1, i', q2, _, _, ⟨rfl, rfl⟩, by simp [r0], _, by simp [r3], by simp [q3], q4⟩
  ·have h32' : ¬ (c.toNat : Int) = 32 := by have := mt cu.2 h32; omega
   have hns : nstep b c = b ++ [c] := by unfold nstep; rw [if_neg (fun h => h32 (hlc ▸ h.1)), hlc]
   obtain ⟨v', G', ha, hB'⟩ := hB.push (by omega) (c := c) (d := .int .u8) (z := [.int .u8 0]) rfl
   rw [← hns] at hB'
   have := hgo G' v' hB'
   rcases hu with hu | ⟨hu, hu2⟩
   ·simp [r0, r3, r4, hi, hc', hu, h32', elemT, fillL, zerosL, St.new, badArg, ha, hw]
    obtain ⟨k', q1, i', q2, q3, q4⟩ := this
    exact ⟨k', q1, i', q2, _, _, ⟨rfl, rfl⟩, by simp [r0], _, by simp [r3], by simp [q3], q4⟩
   ·simp [r0, r3, r4, hi, hc', hu, hu2, h32', elemT, fillL, zerosL, St.new, badArg, ha, hw]
    obtain ⟨k', q1, i', q2, q3, q4⟩ := this
    exact ⟨k', q1, i', q2, _, _, ⟨rfl, rfl⟩, by simp [r0], _, by simp [r3], by simp [q3], q4⟩
def au (s w : Str) : Prop := w.length ≤ s.length ∧ s.drop (s.length - w.length) = w
theorem hasSuffix {s w : Str} {H : List Ob} (hs : s.length ≤ 1000000) (hw : w.length ≤ 1000000) : callW C 336 [.str s, .str w] H = some (.bool (dec (au s w)), H) := by
 apply Ret.dec
 rw [yG]
 by_cases h1 : (s.length : Int) ≥ w.length
 ·have hw1 : IntKind.i64.wrap ((s.length : Int) - w.length) = (s.length : Int) - w.length := wrap_i64 (by omega) (by omega)
  have h2 : (w.length : Int) ≤ (s.length : Int) := h1
  have h3 : ((s.length : Int) - w.length).toNat = s.length - w.length := by omega
  have h4 : (0 : Int) ≤ (s.length : Int) - w.length := by omega
  have h5 : w.length ≤ s.length := by omega
  by_cases h6 : s.drop (s.length - w.length) = w
  ·have hn : au s w := ⟨h5, h6⟩
   simp [aZ, Tryz.f336, h1, h2, h3, h4, h5, hw1, h6, hn]
  ·have hn : ¬ au s w := fun h => h6 h.2
   simp [aZ, Tryz.f336, h1, h2, h3, h4, h5, hw1, h6, hn]
 ·have hn : ¬ au s w := fun h => h1 (by have := h.1; omega)
  simp [aZ, Tryz.f336, h1, hn]
noncomputable def aK (s w : Str) : Str := if dec (au s w) = true then s.take (s.length - w.length) else s
theorem fP {s w : Str} {H : List Ob} (hs : s.length ≤ 1000000) (hw : w.length ≤ 1000000) : callW C 315 [.str s, .str w] H = some (.str (aK s w), H) := by
 apply Ret.eq
 rw [yN]
 have hc := hasSuffix (H := H) hs hw
 by_cases h : au s w
 ·rw [dec_pos h] at hc
  have h0 := h.1
  have hw1 : IntKind.i64.wrap ((s.length : Int) - w.length) = (s.length : Int) - w.length := wrap_i64 (by omega) (by omega)
  have h2 : (w.length : Int) ≤ (s.length : Int) := by omega
  have h3 : ((s.length : Int) - w.length).toNat = s.length - w.length := by omega
  have ht : aK s w = s.take (s.length - w.length) := by unfold aK; rw [dec_pos h]; rfl
  simp [bI, Tryz.f315, hc, hw1, h2, h3, ht]
 ·rw [dec_neg h] at hc
  have ht : aK s w = s := by unfold aK; rw [dec_neg h]; rfl
  simp [bI, Tryz.f315, hc, ht]
theorem iy {s : Str} : aK s [32] = nfin s := by
 have he : au s [32] ↔ endSp s = true := by
  unfold au endSp
  cases hl : s.getLast? with
  | none =>
   have : s = [] := by simpa using hl
   subst this
   simp
  | some d =>
   have hne : s ≠ [] := by rintro rfl; simp at hl
   have h1 : 1 ≤ s.length := List.length_pos_iff.2 hne
   rw [List.getLast?_eq_getElem?] at hl
   have h2 : s.drop (s.length - 1) = [d] := by
    apply List.ext_getElem?
    intro j
    rw [List.getElem?_drop]
    cases j with
    | zero => simpa using hl
    | succ j => simp; omega
   simp [h1, h2]
 unfold aK nfin
 by_cases h : endSp s = true
 ·rw [dec_pos (he.2 h), if_pos rfl, if_pos h, List.dropLast_eq_take]
  rfl
 ·rw [dec_neg (mt he.1 h), if_neg (by simp), if_neg h]
theorem qI {s : Str} {H : List Ob} (hs : s.length ≤ 1000000) : callW C 272 [.str s, .str [32]] H = some (.str (nfin s), H) := by
 apply Ret.eq
 rw [Ac]
 have hc := fP (H := H) hs (w := [32]) (by simp)
 rw [iy] at hc
 simp [eY, Tryz.f272, hc]
theorem bu {t : Str} {H : List Ob} : callW C 199 [.str t] H = some (.str (norm t), H) := by
 apply Ret.eq
 rw [yR]
 by_cases g1 : (t.length : Int) > 100
 ·have : norm t = [] := by unfold norm; rw [if_neg (by omega)]
  simp [bg, Tryz.f199, g1, this]
 have hp := kE (t := t) (H := H) (by omega)
 by_cases g2 : Plain t
 rotate_left
 ·rw [dec_neg g2] at hp
  have : norm t = [] := by unfold norm; rw [dec_neg g2]; simp
  simp [bg, Tryz.f199, g1, hp, this]
 rw [dec_pos g2] at hp
 have hn : norm t = nfin (t.foldl nstep []) := by unfold norm; rw [if_pos ⟨by omega, dec_pos g2⟩]
 have hbz : ∀ i, ((t.take i).foldl nstep []).length ≤ 100 := fun i => by
  have := foldl_len (t.take i) []
  simp at this
  omega
 simp [bg, Tryz.f199, g1, hp, elemT, fillL, zerosL, St.new]
 refine WP_loop (fun k σ => ∃ (i : Nat) (r : Nat → R) (G : List Ob) (v : V), i + k = t.length ∧ σ = ⟨r, 0, G⟩ ∧ r 0 = .val (.str t) ∧ r 3 = .val v ∧ r 16 = .val (.int .i64 t.length) ∧ r 17 = .val (.int .i64 i) ∧ Bs H G v ((t.take i).foldl nstep [])) ?_ t.length _ ⟨0, _, _, _, by simp, rfl, by simp, by simp, by simp, by simp, Bs.init⟩
 rintro k σ ⟨i, r, G, v, hik, rfl, r0, r3, r16, r17, hB⟩
 have hbl := hbz i
 generalize hb : (t.take i).foldl nstep [] = b at hB hbl
 have hw1 : IntKind.i64.wrap ((b.length : Int) - 1) = (b.length : Int) - 1 := wrap_i64 (by omega) (by omega)
 cases k with
 | zero =>
  have hi : i = t.length := by omega
  subst hi
  rw [List.take_length] at hb
  rw [hb] at hn
  obtain ⟨TT, rfl⟩ := hB.ext
  obtain ⟨id, rfl, hst, hsl⟩ := hB.cut (n := b.length) (Nat.le_refl _)
  rw [List.take_length] at hsl
  have hts := qI (s := b) (H := H ++ TT) (by omega)
  simp [r0, r3, r16, r17, hsl, isByte, bys_mapM, hn, hts]
 | succ k =>
  have hi : i < t.length := by omega
  obtain ⟨c, hc⟩ : ∃ c, t[i]? = some c := ⟨t[i], by simp [hi]⟩
  have hc' : t[i] = c := (List.getElem?_eq_some_iff.1 hc).2
  have hw : IntKind.i64.wrap ((i : Int) + 1) = ((i : Int) + 1) := wrap_i64 (by omega) (by omega)
  have hfs := bZ hc nstep []
  rw [hb] at hfs
  have hgo : ∀ G' v', Bs H G' v' (nstep b c) → ∃ k', k' < k + 1 ∧ ∃ i', i' + k' = t.length ∧ (i : Int) + 1 = i' ∧ Bs H G' v' ((t.take i').foldl nstep []) := fun G' v' h =>
   ⟨k, by omega, i + 1, by omega, by omega, by rw [hfs]; exact h⟩
  by_cases hup : 65 ≤ c.toNat ∧ c.toNat ≤ 90
  ·have hu1 : (c.toNat : Int) ≥ 65 := by omega
   have hu2 : (c.toNat : Int) ≤ 90 := by omega
   have hlw := dZ hup.1 hup.2
   have hl32 : ¬ ((lowC c).toNat : Int) = 32 := by rw [dI hup.1 hup.2]; omega
   have hns : nstep b c = b ++ [lowC c] := by unfold nstep; rw [if_neg (fun h => hl32 (by rw [cu.1 h.1]; rfl))]
   obtain ⟨v', G', ha, hB'⟩ := hB.push (by omega) (c := lowC c) (d := .int .u8) (z := [.int .u8 0]) rfl
   rw [← hns] at hB'
   simp [r0, r3, r16, r17, hi, hc', hu1, hu2, hlw, hl32, elemT, fillL, zerosL, St.new, badArg, ha, hw]
   obtain ⟨k', q1, i', q2, q3, q4⟩ := hgo G' v' hB'
   exact ⟨k', q1, i', q2, _, _, ⟨rfl, rfl⟩, by simp [r0], _, by simp [r3], by simp [r16], by simp [q3], q4⟩
  have hlc := eG hup
  have hu : (¬ (c.toNat : Int) ≥ 65) ∨ ((c.toNat : Int) ≥ 65 ∧ ¬ (c.toNat : Int) ≤ 90) := by omega
  by_cases h32 : c = 32
  ·have h32' : (c.toNat : Int) = 32 := by rw [h32]; rfl
   have hu1 : ¬ (c.toNat : Int) ≥ 65 := by omega
   by_cases hb0 : b = []
   ·have hns : nstep b c = b := by unfold nstep; rw [if_pos ⟨by rw [hlc, h32], .inl hb0⟩]
    rw [hns] at hgo
    have hbl0 : b.length = 0 := by rw [hb0]; rfl
    simp [r0, r3, r16, r17, hi, hc', h32', hB.len, hbl0, hw]
    obtain ⟨k', q1, i', q2, q3, q4⟩ := hgo G v hB
    exact ⟨k', q1, i', q2, _, _, ⟨rfl, rfl⟩, by simp [r0], _, by simp [r3], by simp [r16], by simp [q3], q4⟩
   ·obtain ⟨d, hd⟩ := bn hb0
    have hb1 : 0 < b.length := List.length_pos_iff.2 hb0
    have hb3 : (1 : Int) ≤ (b.length : Int) := by omega
    have hb5 : (b.length : Int) - 1 < (b.length : Int) := by omega
    have hb4 : ((b.length : Int) - 1).toNat = b.length - 1 := by omega
    obtain ⟨id, hv, hld⟩ := hB.last hd
    subst hv
    by_cases hd32 : d = 32
    ·have hns : nstep b c = b := by unfold nstep; rw [if_pos ⟨by rw [hlc, h32], .inr ((ak hd).2 hd32)⟩]
     rw [hns] at hgo
     have hd' : (d.toNat : Int) = 32 := by rw [hd32]; rfl
     simp [r0, r3, r16, r17, hi, hc', h32', hb0, hb1, hb3, hb4, hb5, hw1, hld, hd', hw]
     obtain ⟨k', q1, i', q2, q3, q4⟩ := hgo G _ hB
     exact ⟨k', q1, i', q2, _, _, ⟨rfl, rfl⟩, by simp [r0], _, by simp [r3], by simp [r16], by simp [q3], q4⟩
    ·have hns : nstep b c = b ++ [c] := by unfold nstep; rw [if_neg (fun h => h.2.elim hb0 (fun h => hd32 ((ak hd).1 h))), hlc]
     have hd' : ¬ (d.toNat : Int) = 32 := by have := mt cu.2 hd32; omega
     obtain ⟨v', G', ha, hB'⟩ := hB.push (by omega) (c := c) (d := .int .u8) (z := [.int .u8 0]) rfl
     rw [← hns] at hB'
     rw [h32'] at ha
     simp [r0, r3, r16, r17, hi, hc', h32', hb0, hb1, hb3, hb4, hb5, hw1, hld, hd', elemT, fillL, zerosL, St.new, badArg, ha, hw]
     obtain ⟨k', q1, i', q2, q3, q4⟩ := hgo G' v' hB'
     exact ⟨k', q1, i', q2, _, _, ⟨rfl, rfl⟩, by simp [r0], _, by simp [r3], by simp [r16], by simp [q3], q4⟩
  ·have h32' : ¬ (c.toNat : Int) = 32 := by have := mt cu.2 h32; omega
   have hns : nstep b c = b ++ [c] := by unfold nstep; rw [if_neg (fun h => h32 (hlc ▸ h.1)), hlc]
   obtain ⟨v', G', ha, hB'⟩ := hB.push (by omega) (c := c) (d := .int .u8) (z := [.int .u8 0]) rfl
   rw [← hns] at hB'
   obtain ⟨k', q1, i', q2, q3, q4⟩ := hgo G' v' hB'
   rcases hu with hu | ⟨hu, hu2⟩
   ·simp [r0, r3, r16, r17, hi, hc', hu, h32', elemT, fillL, zerosL, St.new, badArg, ha, hw]
    exact ⟨k', q1, i', q2, _, _, ⟨rfl, rfl⟩, by simp [r0], _, by simp [r3], by simp [r16], by simp [q3], q4⟩
   ·simp [r0, r3, r16, r17, hi, hc', hu, hu2, h32', elemT, fillL, zerosL, St.new, badArg, ha, hw]
    exact ⟨k', q1, i', q2, _, _, ⟨rfl, rfl⟩, by simp [r0], _, by simp [r3], by simp [r16], by simp [q3], q4⟩
theorem iO {t : Str} {H : List Ob} : callW C 217 [.str t] H = some (.bool (dec (ValueOk t)), H) := by
 apply Ret.dec
 rw [zC]
 have hn := cZ (t := t) (H := H)
 by_cases g1 : (t.length : Int) ≥ 1
 ·by_cases g2 : (t.length : Int) ≤ 40
  ·by_cases g3 : norm t = []
   ·have hv : ¬ ValueOk t := fun h => h.2.2 g3
    simp [aU, Tryz.f217, g1, g2, hn, g3, hv]
   ·have hv : ValueOk t := ⟨by omega, by omega, g3⟩
    simp [aU, Tryz.f217, g1, g2, hn, g3, hv]
  ·have : ¬ ValueOk t := fun h => by have := h.2.1; omega
   simp [aU, Tryz.f217, g1, g2, this]
 ·have : ¬ ValueOk t := fun h => by have := h.1; omega
  simp [aU, Tryz.f217, g1, this]
theorem iF {t : Str} {H : List Ob} : callW C 293 [.str t] H = some (.bool (dec (ValueOk t)), H) := by
 apply Ret.dec
 rw [xh]
 have hn := bu (t := t) (H := H)
 by_cases g1 : (t.length : Int) ≥ 1
 ·by_cases g2 : (t.length : Int) ≤ 40
  ·by_cases g3 : norm t = []
   ·have hv : ¬ ValueOk t := fun h => h.2.2 g3
    simp [aS, Tryz.f293, g1, g2, hn, g3, hv]
   ·have hv : ValueOk t := ⟨by omega, by omega, g3⟩
    simp [aS, Tryz.f293, g1, g2, hn, g3, hv]
  ·have : ¬ ValueOk t := fun h => by have := h.2.1; omega
   simp [aS, Tryz.f293, g1, g2, this]
 ·have : ¬ ValueOk t := fun h => by have := h.1; omega
  simp [aS, Tryz.f293, g1, this]
theorem kQ {a b : Str} {H : List Ob} : callW C 362 [.str a, .str b] H = some (.int .i64 (Lib.compareBytes a b), H) :=
 callW_prim (pr := cmpPrim) rfl
theorem bF {a b : Str} {H : List Ob} : callW C 353 [.str a, .str b] H = some (.int .i64 (Lib.compareBytes a b), H) := by
 apply Ret.eq
 rw [xZ]
 simp [dX, Tryz.f353, kQ]
theorem je {a b : Str} {H : List Ob} : callW C 334 [.str a, .str b] H = some (.int .i64 (Lib.compareBytes a b), H) := by
 apply Ret.eq
 rw [Ad]
 simp [eF, Tryz.f334, bF]
theorem qm {a b : Str} {H : List Ob} : callW C 310 [.str a, .str b] H = some (.int .i64 (Lib.compareBytes (norm a) (norm b)), H) := by
 apply Ret.eq
 rw [yS]
 have c1 := bu (t := a) (H := H)
 have c2 := bu (t := b) (H := H)
 simp [dQ, Tryz.f310, c1, c2, je]
end Go.Proofs.Try0
end
section
namespace Go.Proofs.Try1
open Go Go.Lite
theorem Bc [Draws] : ProgOk Tryz.prog Try0.C := progB_sound Try0.mixed Try0.ok fun g pr h => by
 change Try0.primTab g = some pr at h
 unfold Try0.primTab at h
 split at h
 ·rename_i hg; subst hg; cases h; exact zU
 ·cases h
end Go.Proofs.Try1
end
section
namespace Go.Lite
open Go
variable [Draws]
theorem wpIn_count {ro : Option Nat} {n m : Nat} {P : Program} {c : Code} {Q : Exit → Act → World → Prop} {a : Act} {w : World} (h : c.wpIn (rf ro) n P Q a w) : c.wpIn (rf ro) m P Q a w :=
 fun b k cs h1 h2 _ => h b k cs h1 h2 (fun d hd => by cases hd)
theorem wp_round {P : Program} {C : Ctx} (hp : ProgOk P C) {f : Nat} {c : Code} {σ σ' : St} {μ : Mu} {β : List Nat} {a : Act} {w : World} {ex : Ex} {Q : Exit → Act → World → Prop} {ro : Option Nat} {n : Nat}
  (hs : Sim (C.locs f) σ μ β a w) (hc : CodeOk P C f a.tmps.size c) (h : execW C f c σ = some (ex, σ')) (hq : ∀ a' w', Leads (C.locs f) σ μ β a w σ' a' w' → Q (toExit ex) a' w') : c.wpIn (rf ro) n P Q a w := by
 obtain ⟨m, hm⟩ := execW_iff.1 h
 exact wpIn_count (exec_sound hp.ty (callN_ok hp m) c hs hc hm hq)
end Go.Lite
end
section
namespace Go.Proofs.Try0
open Go Go.Lite Go.RowKit Go.Shelf
attribute [local go_sem] Oper.semAt_some
abbrev DkE := { p : ByteArray × ByteArray // p.1.size ≤ 1048576 ∧ p.2.size ≤ 1048576 }
def DkE.encs (x : Int × DkE) : Array Value := #[.int .i64 x.1, .agg #[.string x.2.1.1, .string x.2.1.2]]
instance : Inhabited DkE := ⟨⟨(.empty, .empty), by decide, by decide⟩⟩
def aQ (zs : List DkE) (k : Nat) : List (Int × DkE) := (List.range k).map fun j => (((zs.length - 1 - j : Nat) : Int), zs[zs.length - 1 - j]!)
theorem pW (zs : List DkE) (k : Nat) : aQ zs (k + 1) = aQ zs k ++ [(((zs.length - 1 - k : Nat) : Int), zs[zs.length - 1 - k]!)] := by simp [aQ, List.range_succ]
theorem lQ (zs : List DkE) (k : Nat) : (aQ zs k).length = k := by simp [aQ]
def DkKp (n₀ Bs : Nat) (A B : World) : Prop := Below n₀ A B ∧ ∀ v, A.cell? ⟨Bs, 0, none⟩ = some v → B.cell? ⟨Bs, 0, none⟩ = some v
theorem DkKp.refl (n₀ Bs : Nat) (A : World) : DkKp n₀ Bs A A := ⟨Below.refl _ _, fun _ h => h⟩
theorem DkKp.trans {n₀ Bs : Nat} {A B C : World} (h : DkKp n₀ Bs A B) (k : DkKp n₀ Bs B C) : DkKp n₀ Bs A C := ⟨h.1.trans k.1, fun v e => k.2 v (h.2 v e)⟩
theorem EC {n₀ Bs : Nat} {w : World} (hn : n₀ ≤ w.heap.size) (W : World) (l : Nat) (o o' : Obj) (hl : w.heap.size ≤ l) (h : W.heap[l]? = some o) (hc : o.isCells = false) (hw : o.isWalk = false) : DkKp n₀ Bs W (W.putObj l o') :=
 ⟨belowK_b hn W l o o' hl h hc hw, fun v hv => by
  by_cases e : Bs = l
  ·subst e
   simp only [World.cell?] at hv
   rw [h] at hv
   cases o <;> simp_all [Obj.isCells]
  ·rw [← hv]
   exact World.cell?_of_block (World.putObj_heap_other (by simpa using e))⟩
theorem yP (l Bs n₀ b off cap : Nat) (zs : List DkE) (hlen : zs.length ≤ 1048576) (hb : b < n₀) (J Jx : List (Int × DkE) → World → Prop) (n : Nat)
  (hY : ∀ pre x W, J pre W → pre.length < zs.length → YieldAt Fence.wide n Tryz.prog l (DkE.encs x) W fun e W' =>
   (e = .returned (.bool true) ∧ J (pre ++ [x]) W' ∧ DkKp n₀ Bs W W') ∨ (e = .returned (.bool false) ∧ Jx (pre ++ [x]) W'))
  (W : World) (hBs : W.cell? ⟨Bs, 0, none⟩ = some (.slice (some ⟨b, off, none⟩) zs.length cap))
  (hc : ∀ j, j < zs.length → W.cell? ⟨b, off + j * 2, none⟩ = some (.string zs[j]!.1.1) ∧ W.cell? ⟨b, off + j * 2 + 1, none⟩ = some (.string zs[j]!.1.2)) (h0 : J [] W) :
  CallsIn Fence.wide (n + 1) Tryz.prog 270 #[.func (.yield l) #[] #[], .pointer (some ⟨Bs, 0, none⟩)] W fun e W' => (∃ v, e = .returned v) ∧
   ((∃ ys, ys = aQ zs zs.length ∧ J ys W') ∨ (∃ pre, (∃ k, k ≤ zs.length ∧ pre = aQ zs k) ∧ Jx pre W')) := by
 refine callsIn_of_wp Tryz.func270 rfl trivial ?_ rfl
 simp only [Tryz.ntmps270, List.size_toArray, List.length_cons, List.length_nil, Nat.reduceAdd, Nat.reduceSub, Array.replicate_succ, Array.replicate_zero, List.push_toArray, List.append_toArray, List.nil_append, List.cons_append]
 gi_wp2
 gi_loopw [3] (fun i wr => ∃ k : Nat, k ≤ zs.length ∧ i = .int .i64 ((zs.length : Int) - 1 - k) ∧ J (aQ zs k) wr ∧ DkKp n₀ Bs W wr)
  (fun i _ => (intOf i + 1).toNat)
 case atStart => exact ⟨0, Nat.zero_le _, by simp, h0, DkKp.refl _ _ _⟩
 case round =>
  obtain ⟨k, hk, rfl, hJs, hnx⟩ := hrel
  have hBx : wr.cell? ⟨Bs, 0, none⟩ = some (.slice (some ⟨b, off, none⟩) zs.length cap) := hnx.2 _ hBs
  by_cases hlt : k < zs.length
  ·obtain ⟨q, hqk⟩ : ∃ q : Nat, q + k + 1 = zs.length := ⟨zs.length - 1 - k, by omega⟩
   have hqz : zs.length - 1 - k = q := by omega
   have hUs := pW zs k
   rw [hqz] at hUs
   obtain ⟨hc1, hc2⟩ := hc q (by omega)
   generalize zs[q]! = z at hUs hc1 hc2
   obtain ⟨fn, tmps, assign, body, hy, hR⟩ := hY _ ((q : Int), z) wr hJs (by rw [lQ]; exact hlt)
   replace hc1 := (hnx.1.cell (p := ⟨b, off + q * 2, none⟩) hb).trans hc1
   replace hc2 := (hnx.1.cell (p := ⟨b, off + q * 2 + 1, none⟩) hb).trans hc2
   dsimp only [DkE.encs] at hy
   rw [show ((zs.length : Int) - 1 - k) = (q : Int) by omega]
   have hq1 : q < zs.length := by omega
   clear hqz hlt
   gi_wp2
   refine hR.mono ?_
   rintro e W3 (⟨rfl, hJ3, hk3⟩ | ⟨rfl, hJx3⟩)
   ·gi_wp2
    go_roundw
    case rel => exact ⟨k + 1, by omega, by congr 1; omega, by rw [hUs]; exact hJ3, hnx.trans hk3⟩
    case measure => simp [intOf]
   ·gi_wp2
    refine bodyPost_ret (results_none rfl _ _ _) rfl ?_
    exact ⟨⟨_, rfl⟩, .inr ⟨_, ⟨k + 1, by omega, hUs.symm⟩, hJx3⟩⟩
  ·obtain rfl : k = zs.length := by omega
   rw [show ((zs.length : Int) - 1 - (zs.length : Nat)) = -1 by omega]
   gi_wp2
   go_end0
   exact ⟨⟨_, rfl⟩, .inl ⟨_, rfl, hJs⟩⟩
theorem oI (l Bs cap : Nat) (p : Option Addr) (J : List (Int × DkE) → World → Prop) (n : Nat) (W : World) (hBs : W.cell? ⟨Bs, 0, none⟩ = some (.slice p 0 cap)) (h0 : J [] W) :
  CallsIn Fence.wide (n + 1) Tryz.prog 270 #[.func (.yield l) #[] #[], .pointer (some ⟨Bs, 0, none⟩)] W fun e W' => (∃ v, e = .returned v) ∧ J [] W' := by
 refine callsIn_of_wp Tryz.func270 rfl trivial ?_ rfl
 simp only [Tryz.ntmps270, List.size_toArray, List.length_cons, List.length_nil, Nat.reduceAdd, Nat.reduceSub, Array.replicate_succ, Array.replicate_zero, List.push_toArray, List.append_toArray, List.nil_append, List.cons_append]
 gi_wp2
 gi_loopw [3] (fun i wr => i = .int .i64 (-1) ∧ J [] wr) (fun _ _ => 0)
 case atStart => exact ⟨rfl, h0⟩
 case round =>
  obtain ⟨rfl, hJs⟩ := hrel
  gi_wp2
  go_end0
  exact ⟨⟨_, rfl⟩, hJs⟩
theorem Ak (n : Nat) (a : Option Addr) (len cap : Nat) (w : World) :
  CallsIn Fence.wide n Tryz.prog 198 #[.slice a len cap] w fun e w' => e = .returned (.func (.func 270) #[] #[.pointer (some ⟨w.heap.size, 0, none⟩)]) ∧ w' = w.alloc (.cells #[.slice a len cap] 56) := by
 refine callsIn_of_wp Tryz.func198 rfl trivial ?_ rfl
 simp only [Tryz.ntmps198, List.size_toArray, List.length_cons, List.length_nil, Nat.reduceAdd, Nat.reduceSub, Array.replicate_succ, Array.replicate_zero, List.push_toArray, List.append_toArray, List.nil_append, List.cons_append]
 gi_wp2
 go_ret
 exact ⟨rfl, rfl⟩
def DkAt (n₀ : Nat) (W : World) (sv : Value) (zs : List DkE) : Prop :=
 (∃ p cap, sv = .slice p 0 cap ∧ zs = []) ∨ ∃ b off cap, sv = .slice (some ⟨b, off, none⟩) zs.length cap ∧ b < n₀ ∧ ∀ j, j < zs.length → W.cell? ⟨b, off + j * 2, none⟩ = some (.string zs[j]!.1.1) ∧ W.cell? ⟨b, off + j * 2 + 1, none⟩ = some (.string zs[j]!.1.2)
theorem DkAt.below {n₀ : Nat} {A B : World} (h : Below n₀ A B) {sv : Value} {zs : List DkE} : DkAt n₀ A sv zs → DkAt n₀ B sv zs
 | .inl e => .inl e
 | .inr ⟨b, off, cap, e, hb, hc⟩ => .inr ⟨b, off, cap, e, hb, fun j hj => ⟨(h.cell (p := ⟨b, off + j * 2, none⟩) hb).trans (hc j hj).1, (h.cell (p := ⟨b, off + j * 2 + 1, none⟩) hb).trans (hc j hj).2⟩⟩
theorem zq (n Bs n₀ : Nat) (sv : Value) (zs : List DkE) (hlen : zs.length ≤ 1048576) (w : World) (hBs : Bs < w.heap.size) (hn₀ : n₀ ≤ w.heap.size)
  (hc : w.cell? ⟨Bs, 0, none⟩ = some sv) (hI : DkAt n₀ w sv zs) :
  SeqStopsK Fence.wide (n + 1) Tryz.prog 270 #[.pointer (some ⟨Bs, 0, none⟩)] DkE.encs (DkKp n₀ Bs) (fun ys => ys = aQ zs zs.length) (fun pre => ∃ k, k ≤ zs.length ∧ pre = aQ zs k) zs.length w := fun l J Jx W hW _ _ hY h0 => by
 have hc' := (hW.cell (p := ⟨Bs, 0, none⟩) hBs).trans hc
 rcases hI.below (hW.mono hn₀) with ⟨p, cap, rfl, rfl⟩ | ⟨b, off, cap, rfl, hb, hcs⟩
 ·exact (oI l Bs cap p J n W hc' h0).mono fun e W' ⟨he, hj⟩ => ⟨he, .inl ⟨_, rfl, hj⟩⟩
 ·refine (yP l Bs n₀ b off cap zs hlen hb J Jx n hY W hc' hcs h0).mono ?_
  rintro e W' ⟨he, h⟩
  exact ⟨he, h⟩
def dS (nb : ByteArray → ByteArray) (s : ByteArray) (x : Int × DkE) : ByteArray := s ++ ((((⟨#[1]⟩ : ByteArray) ++ x.2.1.1) ++ (⟨#[61]⟩ : ByteArray)) ++ nb x.2.1.2)
def di (nb : ByteArray → ByteArray) (l : List (Int × DkE)) : ByteArray := l.foldl (dS nb) .empty
theorem qL (nb : ByteArray → ByteArray) (l : List (Int × DkE)) (x : Int × DkE) : di nb (l ++ [x]) = dS nb (di nb l) x := by simp [di]
theorem pO {nb : ByteArray → ByteArray} (hn : ∀ b, (nb b).size ≤ b.size + 100) : ∀ (l : List (Int × DkE)) (s : ByteArray), (l.foldl (dS nb) s).size ≤ s.size + l.length * 4194304 := by
 intro l
 induction l with
 | nil => intro s; simp
 | cons x l ih =>
  intro s
  have h := ih (dS nb s x)
  have h1 := x.2.2.1
  have h2 := x.2.2.2
  have h3 := hn x.2.1.2
  have e1 : (⟨#[1]⟩ : ByteArray).size = 1 := rfl
  have e2 : (⟨#[61]⟩ : ByteArray).size = 1 := rfl
  simp only [List.foldl_cons, List.length_cons]
  simp only [dS, ByteArray.size_append] at h ⊢
  omega
theorem qX {nb : ByteArray → ByteArray} (hn : ∀ b, (nb b).size ≤ b.size + 100) (l : List (Int × DkE)) : (di nb l).size ≤ l.length * 4194304 := by
 have h := pO hn l .empty
 have e : (ByteArray.empty).size = 0 := rfl
 rw [e] at h
 rw [di]
 omega
def QK (W : World) (B : Nat) (x : DkE) : Prop := W.heap[B]? = some (.cells #[.string x.1.1, .string x.1.2] 202 (0, 0))
def CellS (W : World) (B : Nat) (k : ByteArray) : Prop := W.cell? ⟨B, 0, none⟩ = some (.string k) ∧ W.frozen? ⟨B, 0, none⟩ = false
theorem CellS.lt {W : World} {B : Nat} {k : ByteArray} (h : CellS W B k) : B < W.heap.size := by
 have := h.1
 simp only [World.cell?] at this
 cases e : W.heap[B]? with
 | none => rw [e] at this; cases this
 | some o => exact (Array.getElem?_eq_some_iff.1 e).1
theorem CellS.block {W W' : World} {B : Nat} {k : ByteArray} (h : CellS W B k) (hb : W'.heap[B]? = W.heap[B]?) : CellS W' B k := ⟨(World.cell?_of_block hb).trans h.1, (World.frozen?_of_block hb).trans h.2⟩
def kW : Code → Code
 | .rangeFunc _ _ _ b => b
 | .seq a b => match kW a with
  | .skip => kW b
  | c => c
 | .block _ b => kW b
 | _ => .skip
noncomputable def bodyC : Code := kW vI
theorem EE : CodeOk Tryz.prog C 112 21 bodyC := codeB_sound (tyOf_ok _) mixed (by decide +kernel)
noncomputable def gU (b : ByteArray) : ByteArray := ⟨(norm b.data.toList).toArray⟩
def iJ (key s v : ByteArray) : Nat → R := fun t => if t = 3 then .box 0 [.str key.data.toList] else if t = 5 then .box 1 [.str s.data.toList, .str v.data.toList] else .val .undef
theorem vW (b : ByteArray) : (gU b).size ≤ b.size + 100 := by
 have := norm_len (t := b.data.toList)
 show (norm b.data.toList).toArray.size ≤ _
 simp
 omega
theorem yD (key s v : ByteArray) (h1 : key.size ≤ 4398046511104) (h2 : s.size ≤ 1048576) (h3 : v.size ≤ 1048576) :
  WP C 112 bodyC ⟨iJ key s v, 2, []⟩ fun ex σ' => ex = .norm ∧ σ'.regs 3 = .box 0 [.str (key ++ ((((⟨#[1]⟩ : ByteArray) ++ s) ++ (⟨#[61]⟩ : ByteArray)) ++ gU v)).data.toList] := by
 have c1 := bu (t := v.data.toList) (H := [])
 have e1 : key.data.toList.length ≤ 4398046511104 := by simpa using h1
 have e2 : s.data.toList.length ≤ 1048576 := by simpa using h2
 have e3 := norm_len (t := v.data.toList)
 have g1 : 1 + s.size ≤ 4611686018427387904 := by omega
 have g2 : 1 + s.size + 1 ≤ 4611686018427387904 := by omega
 have g2' : s.size + 1 + 1 ≤ 4611686018427387904 := by omega
 have g3 : s.size + 1 + 1 + (norm v.data.toList).length ≤ 4611686018427387904 := by omega
 have g4 : key.size + (s.size + ((norm v.data.toList).length + 1) + 1) ≤ 4611686018427387904 := by omega
 simp [bodyC, kW, vI, Tryz.f112, g1, g2, g2', g3, g4, iJ, c1, strBin, maxStr, gU, List.lookup, regionL_some]
theorem xm (progOk : ProgOk Tryz.prog C) (a : Option Addr) (len cap : Nat) (zs : List DkE) (hlen : zs.length ≤ 1048576) (w : World) (hI : DkAt w.heap.size w (.slice a len cap) zs) :
  Calls Tryz.prog 112 #[.slice a len cap] w fun e W' => e = .returned (.string (di gU (aQ zs zs.length))) ∧ Below w.heap.size w W' := by
 refine (callsIn_wide (n := 6)).1 ?_
 refine callsIn_of_wp_marks Tryz.func112 rfl trivial ?_ rfl
 simp only [Tryz.ntmps112, List.size_toArray, List.length_cons, List.length_nil, Nat.reduceAdd, Nat.reduceSub, Array.replicate_succ, Array.replicate_zero, List.push_toArray, List.append_toArray, List.nil_append, List.cons_append]
 gi_wp2_with (refine ⟨trivial, ?_⟩; gi_at_call 198; refine (Ak _ _ _ _ _).mono ?_; rintro e w' ⟨rfl, rfl⟩)
 have bS := (Boxed.new w 9 (.string .empty)).alloc (.cells #[.slice a len cap] 56)
 have bA := Boxed.new (w.alloc (.cells #[.string .empty] 9)) 56 (.slice a len cap)
 simp only [World.size_alloc] at bS bA
 have hB0 : Below w.heap.size w ((w.alloc (.cells #[.string .empty] 9)).alloc (.cells #[.slice a len cap] 56)) := ((Below.refl _ w).alloc (Nat.le_refl _) _).alloc (by simp) _
 have hsz : ((w.alloc (.cells #[.string .empty] 9)).alloc (.cells #[.slice a len cap] 56)).heap.size = w.heap.size + 2 := by simp
 change Code.wpIn _ _ _ _ _ _ ((w.alloc (.cells #[.string .empty] 9)).alloc (.cells #[.slice a len cap] 56))
 obtain ⟨W0, hW0⟩ : ∃ W0, (w.alloc (.cells #[.string .empty] 9)).alloc (.cells #[.slice a len cap] 56) = W0 := ⟨_, rfl⟩
 rw [hW0] at bS bA hB0 hsz ⊢
 clear hW0
 refine wpIn_rangeFunc_ownH rfl (by omega) (gf := 270) (lb := #[.pointer (some ⟨w.heap.size + 1, 0, none⟩)]) rfl trivial (enters_of Tryz.func270 (by kernel_rfl) rfl)
  (zq 4 (w.heap.size + 1) w.heap.size (.slice a len cap) zs hlen W0 (by omega) (by omega) bA.cell (hI.below hB0)) DkKp.trans (EC (by omega)) (Below.refl _ _) (fun _ => rfl)
  (fun pre W => (CellS W w.heap.size (di gU pre) ∧ Boxed W (w.heap.size + 1) 56 (.slice a len cap)) ∧ Below w.heap.size w W)
  (fun _ _ _ => False)
  (OwnFrom.and (OwnFrom.and (Own.from (fun s X Y row hs hg hr => ⟨cell_kept hs.1 hg hr, (frozen_kept hs.1 hg hr).trans hs.2⟩) _) (Own.from (boxed_own _ _ _) _)) (ownFrom_below (Nat.le_refl _) (by omega)))
  (fun _ _ _ _ _ hs _ _ => hs)
  ⟨⟨⟨bS.cell, bS.frozen⟩, bA⟩, hB0⟩
  (fun x a' W => ∃ Bx, w.heap.size + 1 < Bx ∧ QK W Bx x.2 ∧ a' = { tmps := #[.slice a len cap, undef, .string ⟨#[]⟩, .pointer (some ⟨w.heap.size, 0, none⟩), undef, .pointer (some ⟨Bx, 0, none⟩), .slice a len cap, .func (.func 270) #[] #[.pointer (some ⟨w.heap.size + 1, 0, none⟩)], .int .i64 x.1, .agg #[.string x.2.1.1, .string x.2.1.2], undef, undef, undef, undef, undef, undef, undef, undef, undef, undef, undef], defers := [] })
  (fun x a' _ X Y row hs hg hr => by
   obtain ⟨Bx, h1, h2, h3⟩ := hs
   refine ⟨Bx, h1, (hg.block Bx (Array.getElem?_eq_some_iff.1 h2).1 fun e => ?_).trans h2, h3⟩
   obtain ⟨_, o, ho, hc⟩ := hr Bx e.symm
   rw [show X.heap[Bx]? = _ from h2] at ho
   cases ho
   cases hc)
  ?assign ?body ?done ?stop
 case assign =>
  rintro l pre x W K ⟨⟨bS1, bA1⟩, hB1⟩ hK
  obtain ⟨i, ⟨⟨s, v⟩, hs⟩⟩ := x
  dsimp only [DkE.encs] at hK ⊢
  gi_wp2
  refine hK _ _ ((KeepsOthers.alloc _ _).from _) ⟨(Below.refl _ W).alloc hB1.size _, fun u hu => (World.cell?_of_block (Below.heap_alloc W _ _ bA1.lt)).trans hu⟩ ⟨⟨bS1.block (Below.heap_alloc W _ _ bS1.lt), bA1.alloc _⟩, hB1.alloc hB1.size _⟩ ⟨W.heap.size, bA1.lt, World.alloc_heap_new W _, rfl⟩
 case body =>
  rintro l pre x a' W hl ⟨r, hr⟩ ⟨⟨bS1, bA1⟩, hB1⟩ ⟨Bx, hBx, bX, rfl⟩ hlt
  have hkz := qX vW pre
  obtain ⟨i, ⟨⟨s, v⟩, hs⟩⟩ := x
  dsimp only at hs bX
  have z1 : (di gU pre).size ≤ 4398046511104 := by omega
  obtain ⟨ex, σ', hex, rfl, hr3⟩ := yD (di gU pre) s v z1 hs.1 hs.2
  have hBne : w.heap.size ≠ Bx := by omega
  have hBxl : Bx < W.heap.size := (Array.getElem?_eq_some_iff.1 bX).1
  have hsim : Sim (C.locs 112) ⟨iJ (di gU pre) s v, 2, []⟩ (fun _ => none) [w.heap.size, Bx] { tmps := #[.slice a len cap, undef, .string ⟨#[]⟩, .pointer (some ⟨w.heap.size, 0, none⟩), undef, .pointer (some ⟨Bx, 0, none⟩), .slice a len cap, .func (.func 270) #[] #[.pointer (some ⟨w.heap.size + 1, 0, none⟩)], .int .i64 i, .agg #[.string s, .string v], undef, undef, undef, undef, undef, undef, undef, undef, undef, undef, undef], defers := [] } W := {
   heap := ⟨fun id m h => by simp at h, fun id o h => by simp at h, fun id o m h => by simp at h, fun id id' o o' m m' _ h => by simp at h, fun id es cells m h => by simp at h⟩
   lenβ := rfl
   reg := fun t ht => by
    by_cases t3 : t = 3
    ·subst t3; exact ⟨_, rfl, rfl⟩
    by_cases t5 : t = 5
    ·subst t5; exact ⟨_, rfl, rfl⟩
    show RR _ _ _ _ (iJ _ _ _ t) _
    simp only [iJ, t3, t5, if_false]
    exact .undef _
   box := fun t c cells b ht h1 h2 => by
    simp only [iJ] at h1
    split at h1
    ·cases h1
     simp at h2
     subst h2
     refine ⟨fun j u hj => ?_, fun o ho1 ho2 => ?_⟩
     ·match j, hj with
      | 0, hj => cases hj; exact ⟨_, bS1.1, .str _⟩
     ·have : o = 0 := by simp at ho2; omega
      subst this
      exact ⟨⟨_, bS1.1⟩, bS1.2⟩
    split at h1
    ·cases h1
     simp at h2
     subst h2
     have q0 : W.cell? ⟨Bx, 0, none⟩ = some (.string s) := by simp [World.cell?, show W.heap[Bx]? = _ from bX]
     have q1 : W.cell? ⟨Bx, 1, none⟩ = some (.string v) := by simp [World.cell?, show W.heap[Bx]? = _ from bX]
     have q2 : ∀ o, W.frozen? ⟨Bx, o, none⟩ = false := fun o => by simp [World.frozen?, show W.heap[Bx]? = _ from bX]
     refine ⟨fun j u hj => ?_, fun o ho1 ho2 => ?_⟩
     ·match j, hj with
      | 0, hj => cases hj; exact ⟨_, q0, .str _⟩
      | 1, hj => cases hj; exact ⟨_, q1, .str _⟩
     ·have : o = 0 ∨ o = 1 := by simp at ho2; omega
      rcases this with rfl | rfl
      ·exact ⟨⟨_, q0⟩, q2 _⟩
      ·exact ⟨⟨_, q1⟩, q2 _⟩
    ·cases h1
   sepβ := fun id o m b h => by simp at h
   injβ := fun c c' b h1 h2 => by
    match c, c', h1, h2 with
    | 0, 0, _, _ => rfl
    | 1, 1, _, _ => rfl
    | 0, 1, h1, h2 => simp at h1 h2; omega
    | 1, 0, h1, h2 => simp at h1 h2; omega
    | 0, _ + 2, _, h2 => simp at h2
    | 1, _ + 2, _, h2 => simp at h2
    | _ + 2, _, h1, _ => simp at h1
   ltβ := fun b hb => by
    simp at hb
    rcases hb with rfl | rfl
    ·exact bS1.lt
    ·exact hBxl
   uniq := fun t t' c cells cells' _ _ h1 h2 => by
    simp only [iJ] at h1 h2
    split at h1
    ·rename_i e
     cases h1
     split at h2
     ·rename_i e'; rw [e, e']
     split at h2
     ·cases h2
     ·cases h2
    split at h1
    ·rename_i e
     cases h1
     split at h2
     ·cases h2
     split at h2
     ·rename_i e'; rw [e, e']
     ·cases h2
    ·cases h1
   loc := fun t c cells _ h1 => by
    simp only [iJ] at h1
    split at h1
    ·rename_i e; subst e; simp
    split at h1
    ·rename_i e; subst e; simp
    ·cases h1
   defs := rfl }
  refine wp_round (ro := some l) progOk hsim EE hex fun a'' w' hl' => ?_
  obtain ⟨μ', β', k1, k2, k3, k4, k5, k6⟩ := hl'
  have hno : ∀ b, b ≠ w.heap.size → b ≠ Bx → ¬ OwnB (St.heap ⟨iJ (di gU pre) s v, 2, []⟩) (fun _ => none) [w.heap.size, Bx] b := by
   rintro b h1 h2 (⟨id, o, m, h, _⟩ | h)
   ·simp at h
   ·simp at h; omega
  have hsame : ∀ b, b < W.heap.size → b ≠ w.heap.size → b ≠ Bx → w'.heap[b]? = W.heap[b]? := fun b h h1 h2 => k5.same b h (hno b h1 h2)
  have hcell : CellS w' w.heap.size (di gU (pre ++ [(i, ⟨(s, v), hs⟩)])) := by
   rw [qL]
   have r3 := k1.reg 3 (by rw [k4]; exact (by decide : 3 < 21))
   rw [hr3] at r3
   obtain ⟨b, hb, _⟩ := r3
   have hb0 : β'[0]? = some w.heap.size := by
    obtain ⟨ν, rfl⟩ := k3
    rfl
   rw [hb0] at hb
   cases hb
   obtain ⟨q1, q2⟩ := k1.box 3 0 _ _ (by rw [k4]; exact (by decide : 3 < 21)) hr3 hb0
   obtain ⟨u, hu1, hu2⟩ := q1 0 _ rfl
   obtain ⟨x, rfl, hx⟩ := hu2.str_inv
   refine ⟨?_, (q2 0 (Nat.le_refl _) (by simp)).2⟩
   rw [Nat.zero_add] at hu1
   rw [hu1]
   congr 2
   exact ByteArray.ext (Array.toList_inj.1 hx.symm)
  have hbl : Below w.heap.size W w' := ⟨k5.os, k5.tape, k5.output, k5.size, fun k hk => hsame k (by have := hB1.size; omega) (by omega) (by omega)⟩
  have hbA : Boxed w' (w.heap.size + 1) 56 (.slice a len cap) := (hsame _ bA1.lt (by omega) (by omega)).trans bA1
  refine ⟨⟨k5.size, fun k o hk1 hk2 hk3 => ?_⟩, ⟨hbl, fun u hu => ?_⟩, ⟨hcell, hbA⟩, hB1.trans hbl⟩
  ·by_cases e : k = Bx
   ·subst e
    rw [show W.heap[k]? = _ from bX] at hk2
    cases hk2
    cases hk3
   ·rw [hsame k (Array.getElem?_eq_some_iff.1 hk2).1 (by omega) e]
    exact hk2
  ·rw [bA1.cell] at hu
   cases hu
   exact hbA.cell
 case done =>
  rintro D ys W hD rfl ⟨⟨bS1, bA1⟩, hB1⟩ hK
  have cS := bS1.1
  gi_wp2
  refine ⟨by simp, .inl ⟨_, _, rfl, run_takeDeferred hK, ?_⟩⟩
  exact ⟨_, results_tmp rfl _ _ _, rfl, hB1.trans (belowK_b (w := w) (Nat.le_refl _) W D _ _ (by omega) hK rfl rfl)⟩
 case stop =>
  rintro D c pre W _ _ h _
  exact h.elim
theorem lD {H : List Ob} {μ : Mu} {w w' : World} (h : HSim H μ w) (hb : Below w.heap.size w w') : HGoes H μ w H μ w' :=
 ⟨h.world (fun id o m h1 h2 h3 => .of_heap (hb.block _ (live_lt h id o m h1 h2 h3))) hb.size, μ.le_refl, ⟨hb.size, fun b hb' _ => hb.block b hb', fun b h => .inl h, hb.os, hb.tape, hb.output, fun h => (show False from h).elim⟩, Lives.refl _ _ _⟩
noncomputable def iC (p : Str × Str) : DkE := if h : p.1.length ≤ 1048576 ∧ p.2.length ≤ 1048576 then ⟨(⟨p.1.toArray⟩, ⟨p.2.toArray⟩), by simpa [ByteArray.size] using h⟩ else default
theorem pV {p : Str × Str} (h : p.1.length ≤ 1048576 ∧ p.2.length ≤ 1048576) : (iC p).1 = (⟨p.1.toArray⟩, ⟨p.2.toArray⟩) := by unfold iC; rw [dif_pos h]
theorem lX : ∀ {cs : List V} {l : List (Str × Str)}, pairsOf cs = some l → ∀ (j : Nat) p, l[j]? = some p → cs[j * 2]? = some (.str p.1) ∧ cs[j * 2 + 1]? = some (.str p.2)
 | cs, l, h, j, p, hp => by
  unfold pairsOf at h
  split at h
  ·cases h; cases hp
  ·rename_i a v rest
   split at h
   ·rename_i l' hl'
    cases h
    cases j with
    | zero => cases hp; exact ⟨rfl, rfl⟩
    | succ j =>
     have ih := lX hl' j p (by simpa using hp)
     rw [show (j + 1) * 2 = j * 2 + 1 + 1 by omega]
     simpa using ih
   ·cases h
  ·cases h
theorem qZ (zs : List DkE) : (aQ zs zs.length).map Prod.snd = zs.reverse := by
 apply List.ext_getElem
 ·simp [aQ]
 ·intro i h1 h2
  simp only [List.length_reverse] at h2
  simp only [aQ, List.map_map, List.getElem_map, List.getElem_range, Function.comp, List.getElem_reverse]
  rw [getElem!_pos]
theorem pF : ∀ (l : List (Str × Str)) (s : ByteArray), fitsL l = true → ((l.map iC).foldl (fun s z => dS gU s (0, z)) s).data.toList = l.foldl keyStep s.data.toList
 | [], s, _ => rfl
 | p :: l, s, h => by
  simp only [fitsL, List.all_cons, Bool.and_eq_true, decide_eq_true_eq] at h
  have ih := pF l (dS gU s (0, iC p)) (by simpa [fitsL] using h.2)
  rw [List.map_cons, List.foldl_cons, List.foldl_cons, ih]
  congr 1
  simp only [dS, pV h.1, keyStep, gU]
  simp
theorem EQ {l : List (Str × Str)} (h : fitsL l = true) : (di gU (aQ (l.map iC) (l.map iC).length)).data.toList = keyL l := by
 have e : di gU (aQ (l.map iC) (l.map iC).length) = ((aQ (l.map iC) (l.map iC).length).map Prod.snd).foldl (fun s z => dS gU s (0, z)) .empty := by
  rw [List.foldl_map]
  rfl
 rw [e, qZ, ← List.map_reverse, pF _ _ (by unfold fitsL at h ⊢; rw [List.all_reverse]; exact h)]
 rfl
theorem dkPrim_ok (progOk : ProgOk Tryz.prog C) : PrimOk Tryz.prog 112 dkPrim := by
 intro args H r H' h μ w us hs hv
 have hent : ∀ us w, (callFunc 112 us).run Tryz.prog w = .ok (.enter 112 us) w := enters_of Tryz.func112 (by kernel_rfl) rfl
 unfold dkPrim at h
 split at h
 case h_2 => cases h
 rename_i p n
 obtain ⟨u, rfl, hu⟩ := hv.one
 refine .inr ⟨hent _ _, ?_⟩
 split at h
 ·rename_i hn
  subst hn
  cases h
  have : ∃ q c, u = .slice q 0 c := by
   cases p with
   | none => obtain ⟨rfl, _⟩ := hu.slcN_inv; exact ⟨_, _, rfl⟩
   | some p =>
    obtain ⟨id, off⟩ := p
    obtain ⟨m, _, ⟨c, _, _, _, rfl⟩ | ⟨_, _, a, rfl⟩⟩ := hu.slc_inv <;> exact ⟨_, _, rfl⟩
  obtain ⟨q, c, rfl⟩ := this
  refine (xm progOk q 0 c [] (by simp) w (.inl ⟨q, c, rfl, rfl⟩)).mono ?_
  rintro e w' ⟨rfl, hb⟩
  exact ⟨_, rfl, μ, lD hs hb, VR.str .empty⟩
 rename_i hn
 split at h
 case isFalse => cases h
 rename_i hn1
 split at h
 case h_2 => cases h
 rename_i id off
 split at h
 case h_2 => cases h
 rename_i own cells ho
 split at h
 case isFalse => cases h
 rename_i hlen
 split at h
 case h_2 => cases h
 rename_i l hl
 split at h
 case isFalse => cases h
 rename_i hf
 obtain ⟨hf, hln⟩ := hf
 cases h
 obtain ⟨m, hm, ⟨c, hc1, hc2, hc3, rfl⟩ | ⟨h0, _⟩⟩ := hu.slc_inv
 rotate_left
 ·exact absurd h0 hn
 obtain ⟨g1, g2, g3, g4, g5, g6⟩ := hs.obj id _ m ho hm
 have hfit : ∀ p ∈ l, p.1.length ≤ 1048576 ∧ p.2.length ≤ 1048576 := fun p hp => by
  have := List.all_eq_true.1 hf p hp
  simpa using this
 have hI : DkAt w.heap.size w (.slice (some ⟨m.blk, m.base + off, none⟩) n c) (l.map iC) := by
  refine .inr ⟨m.blk, m.base + off, c, by rw [List.length_map, hln], g5, fun j hj => ?_⟩
  rw [List.length_map] at hj
  have hpj : l[j]? = some l[j] := List.getElem?_eq_getElem hj
  obtain ⟨q1, q2⟩ := lX hl j _ hpj
  have hget : ∀ k, k < n * 2 → ((cells.drop off).take (n * 2))[k]? = cells[off + k]? := fun k hk => by rw [List.getElem?_take_of_lt hk, List.getElem?_drop]
  rw [hget _ (by omega)] at q1 q2
  obtain ⟨u1, a1, a2⟩ := g4 _ _ q1
  obtain ⟨u2, b1, b2⟩ := g4 _ _ q2
  obtain ⟨x1, rfl, ex1⟩ := a2.str_inv
  obtain ⟨x2, rfl, ex2⟩ := b2.str_inv
  have hz : (l.map iC)[j]! = iC l[j] := by rw [getElem!_pos _ _ (by simpa using hj)]; simp
  rw [hz, pV (hfit _ (List.getElem_mem hj))]
  have e1 : x1 = ⟨(l[j]).1.toArray⟩ := ByteArray.ext (by simp [ex1])
  have e2 : x2 = ⟨(l[j]).2.toArray⟩ := ByteArray.ext (by simp [ex2])
  rw [← Nat.add_assoc] at a1 b1
  rw [← Nat.add_assoc] at b1
  rw [a1, b1, e1, e2]
  exact ⟨rfl, rfl⟩
 refine (xm progOk _ n c (l.map iC) (by rw [List.length_map]; omega) w hI).mono ?_
 rintro e w' ⟨rfl, hb⟩
 refine ⟨_, rfl, μ, lD hs hb, ?_⟩
 rw [← EQ hf]
 exact .str _
end Go.Proofs.Try0
end
section
namespace Go.Proofs.Try1
open Go Go.Lite
theorem Gi : PrimOk Tryz.prog 112 dkPrim := Try0.dkPrim_ok Bc
end Go.Proofs.Try1
end
