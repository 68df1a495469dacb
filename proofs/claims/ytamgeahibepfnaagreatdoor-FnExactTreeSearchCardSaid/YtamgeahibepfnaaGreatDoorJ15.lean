/- Part 15 of the proof of a law: the interpreter, its soundness, and what functions of the program compute over it. Conditions: none but those that each theorem names. -/
import Derived.Test.YtamgeahibepfnaaGreatDoorJ14
import Derived.Test.YtamgeahibepfnaaGreatDoorJ09
import Derived.Test.YtamgeahibepfnaaGreatDoorJ13
import Derived.Test.YtamgeahibepfnaaGreatDoorJ11
import Derived.Test.YtamgeahibepfnaaGreatDoorJ10
import Derived.Test.YtamgeahibepfnaaGreatDoorJ12
import Derived.Test.YtamgeahibepfnaaGreatDoorJ05
import Derived.Laws.Externs
import Derived.CallsIn
import Derived.Sort.EncStr
import Derived.Sort.Grow
import Derived.Test.YtamgeahibepfnaaGreatDoorJ07
import Derived.WalkKit
import Derived.Test.YtamgeahibepfnaaGreatDoorJ06
import Derived.Test.YtamgeahibepfnaaGreatDoorProg
import Derived.KernelRfl
import Derived.Test.YtamgeahibepfnaaGreatDoorJ08

set_option linter.all false
set_option maxRecDepth 20000
set_option maxHeartbeats 40000000
section
namespace Go.Proofs.Try1
open Go Go.Lite
attribute [-simp] WP_region WP_cond
attribute [local simp] WP_regionF WP_condF ThenW_some ThenW_none CondW_true CondW_false
attribute [local simp low] CondW_bool
theorem s_FilterAttrs {H : List Ob} {v : V} {f : List PNode} (h : ANodes H v f) (hok : FilterOk f) :
  ∃ T w l', callW C 133 [v] H = some (w, H ++ T) ∧ AStrs (H ++ T) w l' ∧ (∀ y, y ∈ l' ↔ y ∈ attrsF f) := by
 suffices hs : Ret C 133 [v] H fun w H' => ∃ T l', H' = H ++ T ∧ AStrs (H ++ T) w l' ∧ (∀ y, y ∈ l' ↔ y ∈ attrsF f) by
  obtain ⟨q, H', hc, T, l', rfl, hr⟩ := hs
  exact ⟨T, q, l', hc, hr⟩
 rw [op133]
 have hone := h.one
 have hl := hok.1
 have hl4 : ¬ (400 : Int) < f.length := by omega
 have c0 := s_FilterRight (h.ext (T := [.mk true 1 []]))
 rw [dec_pos hok] at c0
 simp [code133, Tryz.f133, St.new, elemT, fillL, zerosL, h.len, hone, hl4, c0]
 have hinit : AStrs (H ++ [.mk true 1 []]) (.slc (some (H.length, 0)) 0) [] := (Gs.strs (l := []) Gs.init (by simp) (by simp)).1
 refine WP_loop (fun k σ => ∃ (i : Nat) (r : Nat → R) (T : List Ob) (w : V) (ks : List Str), i + k = f.length ∧ σ = ⟨r, 0, H ++ T⟩ ∧ r 0 = .val v ∧ r 3 = .val w ∧ r 4 = .val (.int .i64 i) ∧ AStrs (H ++ T) w ks ∧ (∀ y, y ∈ ks ↔ y ∈ attrsF (f.take i)) ∧ ks.length ≤ i) ?_ f.length _ ⟨0, _, _, _, [], by simp, rfl, by simp, by simp, by simp, hinit, by simp [attrsF], by simp⟩
 rintro k σ ⟨i, r, T, w, ks, hik, rfl, r0, r3, r4, hw, hmem, hlen⟩
 have hwo := hw.one
 have hfT : ANodes (H ++ T) v f := h.ext
 cases k with
 | zero =>
  have hi : i = f.length := by omega
  subst hi
  rw [List.take_length] at hmem
  obtain ⟨T', hg, hw'⟩ := hw.gc
  simp [r0, r3, r4, h.len, hwo, hg, regionL_none, regionL_some, List.lookup]
  exact ⟨ks, hw', hmem⟩
 | succ k =>
  have hi : i < f.length := by omega
  obtain ⟨p, hp⟩ : ∃ p, f[i]? = some p := ⟨f[i], by simp [hi]⟩
  have hw1 : IntKind.i64.wrap ((i : Int) + 1) = ((i : Int) + 1) := wrap_i64 (by omega) (by omega)
  obtain ⟨id, o, e1, l0, l3, ht, _⟩ := nodes_idx h hp
  have hidn : id < H.length := by
   obtain ⟨id2, o2, ow2, cl2, f1, f2, _, _⟩ := ASl.idx h hp (by decide)
   have t1 := e1 0 0 0 [] (fun _ => ⟨.str, 4, 0, []⟩) .i64 rfl
   have t2 := f1 0 0 0 [] (fun _ => ⟨.str, 4, 0, []⟩) .i64 rfl
   rw [t1] at t2
   cases t2
   exact (List.getElem?_eq_some_iff.1 f2).1
  have l0' := l0 T
  have l3' := l3 T
  have cI := s_Inner (n := p) (H := H ++ T)
  have hstep := attrsF_step hp
  by_cases g : p.Inner
  ·rw [dec_pos g] at cI
   rw [dec_pos g, if_pos rfl, List.append_nil] at hstep
   simp [r0, r3, r4, hi, h.len, e1, l3', cI, hw1, regionL_none, regionL_some, List.lookup]
   exact ⟨k, by omega, i + 1, by omega, _, T, ⟨rfl, rfl⟩, by simp [r0], w, by simp [r3], by simp, ks, hw, by rw [hstep]; exact hmem, by omega⟩
  rw [dec_neg g] at cI hstep
  simp only [Bool.false_eq_true, if_false] at hstep
  simp [r0, r3, r4, hi, h.len, e1, l3', cI, regionL_none, regionL_some, List.lookup]
  have hmx := hw.max
  refine WP.mono (Q := fun ex σ' => ∃ (m : Nat) (r : Nat → R), ex = .exit 2 ∧ σ' = ⟨r, 0, H ++ T⟩ ∧ r 0 = .val v ∧ r 3 = .val w ∧ r 4 = .val (.int .i64 i) ∧ r 5 = .val (.int .i64 m) ∧ m ≤ ks.length) ?_ ?_
  ·refine WP_loop (fun k σ => ∃ (m : Nat) (r : Nat → R), m + k = ks.length ∧ σ = ⟨r, 0, H ++ T⟩ ∧ r 0 = .val v ∧ r 3 = .val w ∧ r 4 = .val (.int .i64 i) ∧ r 5 = .val (.int .i64 m)) ?_ ks.length _ ⟨0, _, by simp, rfl, by simp [r0], by simp [r3], by simp [r4], by simp⟩
   clear r0 r3 r4 r
   rintro k σ ⟨m, r, hmk, rfl, r0, r3, r4, r5⟩
   cases k with
   | zero =>
    have hm : m = ks.length := by omega
    subst hm
    simp [r0, r3, r4, r5, hw.len, regionL_none, regionL_some, List.lookup]
    exact ⟨ks.length, rfl, Nat.le_refl _⟩
   | succ k =>
    have hm : m < ks.length := by omega
    obtain ⟨x, hx⟩ : ∃ c, ks[m]? = some c := ⟨ks[m], by simp [hm]⟩
    have hw2 : IntKind.i64.wrap ((m : Int) + 1) = ((m : Int) + 1) := wrap_i64 (by omega) (by omega)
    obtain ⟨id2, o2, f1, f0, _⟩ := strs_idx hw hx
    by_cases g : LtS x p.attr
    ·simp [r0, r3, r4, r5, hi, hm, hw.len, e1, l0', f1, f0, LtS_dec g, hw2, regionL_none, regionL_some, List.lookup]
     exact ⟨k, by omega, m + 1, by omega, by omega⟩
    ·simp [r0, r3, r4, r5, hi, hm, hw.len, e1, l0', f1, f0, LtS_no g, hw2, regionL_none, regionL_some, List.lookup]
     exact ⟨m, rfl, by omega⟩
  ·clear r0 r3 r4 r
   rintro ex σ' ⟨m, r, rfl, rfl, r0, r3, r4, r5, hml⟩
   by_cases gs : ∃ x, ks[m]? = some x ∧ x = p.attr
   ·obtain ⟨x, hx, hxp⟩ := gs
    have hm := (List.getElem?_eq_some_iff.1 hx).1
    obtain ⟨id2, o2, f1, f0, _⟩ := strs_idx hw hx
    simp [r0, r3, r4, r5, hi, hm, hw.len, e1, l0', f1, f0, hxp, hw1, regionL_none, regionL_some, List.lookup]
    refine ⟨k, by omega, i + 1, by omega, _, T, ⟨rfl, rfl⟩, by simp [r0], w, by simp [r3], by simp, ks, hw, fun y => ?_, by omega⟩
    rw [hstep, List.mem_append, List.mem_singleton, ← hmem y]
    exact ⟨.inl, fun hh => hh.elim (fun z => z) fun e => by rw [e, ← hxp]; exact List.mem_of_getElem? hx⟩
   obtain ⟨s1, s2, a1, a2, hcase⟩ := hw.cut hml
   have n1 := strs_new a1 (G := H ++ T ++ [.mk true 1 []]) ⟨_, rfl⟩
   have R0 : Gs (H ++ T) (H ++ T ++ [.mk true 1 []]) (.slc (some ((H ++ T).length, 0)) 0) (([] : List Str).map V.str) := Gs.init
   obtain ⟨x1, G1, p1, g1⟩ := R0.many (d := .str) (b := 16) (z := [.str []]) (n1 _ _ _) strs_ones (by simp; unfold maxMade; omega) (by decide) (by decide) rfl
   obtain ⟨x2, G2, p2, g2⟩ := g1.push (x := .str p.attr) (d := .str) (b := 16) (z := [.str []]) rfl (by simp; unfold maxMade; omega) (by decide) (by decide) rfl
   have n2 := strs_new a2 g2.ext
   obtain ⟨x3, G3, p3, g3⟩ := g2.many (d := .str) (b := 16) (z := [.str []]) (n2 _ _ _) strs_ones (by simp; unfold maxMade; omega) (by decide) (by decide) rfl
   have g3' : Gs (H ++ T) G3 x3 ((ks.take m ++ p.attr :: ks.drop m).map V.str) := by simpa using g3
   have hmem2 : ∀ y, y ∈ ks.take m ++ p.attr :: ks.drop m ↔ y ∈ attrsF (f.take (i + 1)) := fun y => by
    rw [hstep, List.mem_append (s := attrsF _), List.mem_singleton, ← hmem y]
    conv => rhs; rw [← List.take_append_drop m ks]
    simp only [List.mem_append, List.mem_cons]
    constructor
    ·rintro (h | h | h)
     ·exact .inl (.inl h)
     ·exact .inr h
     ·exact .inl (.inr h)
    ·rintro ((h | h) | h)
     ·exact .inl h
     ·exact .inr (.inr h)
     ·exact .inr (.inl h)
   have hat := (g3'.strs (by simp; unfold maxLen; omega) (fun s hs => by
    rcases List.mem_append.1 hs with hs | hs
    ·exact hmx s (List.mem_of_mem_take hs)
    ·rcases List.mem_cons.1 hs with rfl | hs
     ·exact ht
     ·exact hmx s (List.mem_of_mem_drop hs))).1
   obtain ⟨S1, hS1⟩ := g1.ext
   obtain ⟨S2, hS2⟩ := g2.ext
   obtain ⟨S3, hS3⟩ := g3'.ext
   have l1a : ∀ T : LT, T.one → ∀ r c, loadAt T ⟨r, c, G1⟩ (.hp id (o + 1)) = some (.str p.attr) := fun TT hT r c => by
    rw [hS1, List.append_assoc]; exact (l0 _ TT hT r c).2.1
   have o1 := g1.one
   have o2 := g2.one
   have o3 := g3'.one
   have hoA : isOne s1 = true ∧ cellsOf s1 = some [s1] := a1.one
   have hoB : isOne s2 = true ∧ cellsOf s2 = some [s2] := a2.one
   have fin : ∃ (T' : List Ob), G3 = H ++ T' ∧ AStrs (H ++ T') x3 (ks.take m ++ p.attr :: ks.drop m) := ⟨T ++ S3, by rw [hS3, List.append_assoc], by rw [← List.append_assoc, ← hS3]; exact hat⟩
   obtain ⟨T', hT', hat'⟩ := fin
   have hfin : (ks.take m ++ p.attr :: ks.drop m).length ≤ i + 1 := by simp; omega
   by_cases gi : m < ks.length
   ·obtain ⟨x, hx⟩ : ∃ c, ks[m]? = some c := ⟨ks[m], by simp [gi]⟩
    obtain ⟨id2, o2', f1, f0, _⟩ := strs_idx hw hx
    have hxt : ¬ x = p.attr := fun e => gs ⟨x, hx, e⟩
    rcases hcase with ⟨_, _, _, _, h0⟩ | ⟨ids, off, hv, hs1, hs2, hst⟩
    ·rw [h0] at gi; simp at gi
    have t1 := hst (H ++ T ++ [.mk true 1 []]) ⟨_, rfl⟩
    have t2 := hst G2 ⟨S2, hS2⟩
    rw [hv] at r3 f1
    have hwl := fun {e s b : Nat} {z : List V} => hw.len (e := e) (s := s) (b := b) (z := z)
    rw [hv] at hwl
    rw [hs1] at p1
    rw [hs2] at p3
    simp [Sh.size_str] at t1 t2 p1 p2 p3 hwl
    simp [r0, r3, r4, r5, hi, gi, hml, hwl, e1, l0', l1a, f1, f0, hxt, St.new, elemT, fillL, zerosL, t1, t2, p1, p2, p3, o1, o2, o3, hw1, regionL_none, regionL_some, List.lookup]
    exact ⟨k, by omega, i + 1, by omega, _, T', ⟨rfl, hT'⟩, by simp [r0], x3, by simp, by simp, _, hat', hmem2, hfin⟩
   ·have hin : m = ks.length := by omega
    rcases hcase with ⟨hv, hs1, hs2, hi0, h0⟩ | ⟨ids, off, hv, hs1, hs2, hst⟩
    ·rw [hv] at r3
     have hwl := fun {e s b : Nat} {z : List V} => hw.len (e := e) (s := s) (b := b) (z := z)
     rw [hv] at hwl
     rw [hs1] at p1
     rw [hs2] at p3
     subst h0
     simp at p1 p2 p3 hwl
     simp [r0, r3, r4, r5, hi, hi0, hwl, e1, l0', l1a, St.new, elemT, fillL, zerosL, p1, p2, p3, o1, o2, o3, hw1, regionL_none, regionL_some, List.lookup]
     exact ⟨k, by omega, i + 1, by omega, _, T', ⟨rfl, hT'⟩, by simp [r0], x3, by simp, by simp, _, hat', hmem2, hfin⟩
    ·have t1 := hst (H ++ T ++ [.mk true 1 []]) ⟨_, rfl⟩
     have t2 := hst G2 ⟨S2, hS2⟩
     rw [hv] at r3
     have hwl := fun {e s b : Nat} {z : List V} => hw.len (e := e) (s := s) (b := b) (z := z)
     rw [hv] at hwl
     rw [hs1] at p1
     rw [hs2] at p3
     simp [Sh.size_str] at t1 t2 p1 p2 p3 hwl
     simp [r0, r3, r4, r5, hi, gi, hml, hwl, e1, l0', l1a, St.new, elemT, fillL, zerosL, t1, t2, p1, p2, p3, o1, o2, o3, hw1, regionL_none, regionL_some, List.lookup]
     exact ⟨k, by omega, i + 1, by omega, _, T', ⟨rfl, hT'⟩, by simp [r0], x3, by simp, by simp, _, hat', hmem2, hfin⟩
def phoneS : Str := [112, 104, 111, 110, 101]
def FlowOk (f : PFlow) : Prop := DnOk f.base ∧ FilterOk f.filter ∧ ExprOk f.login ∧ ExprOk f.mail ∧ ExprOk f.phone ∧ (f.back = true → phoneS ∉ attrsF f.filter ∧ phoneS ∉ attrsX f.login ∧ phoneS ∉ attrsX f.mail)
theorem s_FlowRight {H : List Ob} {vb vf vl vm vp : V} {f : PFlow} (h1 : ARdns H vb f.base) (h2 : ANodes H vf f.filter) (h3 : AParts H vl f.login) (h4 : AParts H vm f.mail) (h5 : AParts H vp f.phone) :
  callW C 57 [.agg [vb, vf, vl, vm, vp, .bool f.back]] H = some (.bool (dec (FlowOk f)), H) := by
 apply Ret.dec
 rw [op57]
 have o1 := h1.one
 have o2 := h2.one
 have o3 := h3.one
 have o4 := h4.one
 have o5 := h5.one
 have c1 := s_Dn h1
 have c2 := s_FilterRight h2
 have c3 := s_ExprRight h3
 have c4 := s_ExprRight h4
 have c5 := s_ExprRight h5
 by_cases g1 : DnOk f.base
 rotate_left
 ·have hn : ¬ FlowOk f := fun h => g1 h.1
  rw [dec_neg g1] at c1
  simp [code57, Tryz.f57, o1, o2, o3, o4, o5, c1, c2, c3, c4, c5, hn, fillL, zerosL, regionL_none, regionL_some, List.lookup]
 rw [dec_pos g1] at c1
 by_cases g2 : FilterOk f.filter
 rotate_left
 ·have hn : ¬ FlowOk f := fun h => g2 h.2.1
  rw [dec_neg g2] at c2
  simp [code57, Tryz.f57, o1, o2, o3, o4, o5, c1, c2, c3, c4, c5, hn, fillL, zerosL, regionL_none, regionL_some, List.lookup]
 rw [dec_pos g2] at c2
 by_cases g3 : ExprOk f.login
 rotate_left
 ·have hn : ¬ FlowOk f := fun h => g3 h.2.2.1
  rw [dec_neg g3] at c3
  simp [code57, Tryz.f57, o1, o2, o3, o4, o5, c1, c2, c3, c4, c5, hn, fillL, zerosL, regionL_none, regionL_some, List.lookup]
 rw [dec_pos g3] at c3
 by_cases g4 : ExprOk f.mail
 rotate_left
 ·have hn : ¬ FlowOk f := fun h => g4 h.2.2.2.1
  rw [dec_neg g4] at c4
  simp [code57, Tryz.f57, o1, o2, o3, o4, o5, c1, c2, c3, c4, c5, hn, fillL, zerosL, regionL_none, regionL_some, List.lookup]
 rw [dec_pos g4] at c4
 by_cases g5 : ExprOk f.phone
 rotate_left
 ·have hn : ¬ FlowOk f := fun h => g5 h.2.2.2.2.1
  rw [dec_neg g5] at c5
  simp [code57, Tryz.f57, o1, o2, o3, o4, o5, c1, c2, c3, c4, c5, hn, fillL, zerosL, regionL_none, regionL_some, List.lookup]
 rw [dec_pos g5] at c5
 cases gb : f.back with
 | false =>
  have hy : FlowOk f := ⟨g1, g2, g3, g4, g5, fun h => by rw [gb] at h; cases h⟩
  simp [code57, Tryz.f57, o1, o2, o3, o4, o5, c1, c2, c3, c4, c5, hy, fillL, zerosL, regionL_none, regionL_some, List.lookup]
 | true =>
 obtain ⟨T1, w1, l1, d1, a1, m1⟩ := s_FilterAttrs h2 g2
 obtain ⟨K1, hK1⟩ : ∃ K, K = H ++ T1 := ⟨_, rfl⟩
 rw [← hK1] at d1 a1
 have e1 := s_Has (t := phoneS) a1
 have o6 := a1.one
 obtain ⟨T2, w2, l2, d2, a2, m2⟩ := s_L13Attrs (H := K1) (by rw [hK1]; exact h3.ext) g3.1
 obtain ⟨K2, hK2⟩ : ∃ K, K = K1 ++ T2 := ⟨_, rfl⟩
 rw [← hK2] at d2 a2
 have e2 := s_Has (t := phoneS) a2
 have o7 := a2.one
 obtain ⟨T3, w3, l3, d3, a3, m3⟩ := s_L13Attrs (H := K2) (by rw [hK2, hK1]; exact h4.ext.ext) g4.1
 obtain ⟨K3, hK3⟩ : ∃ K, K = K2 ++ T3 := ⟨_, rfl⟩
 rw [← hK3] at d3 a3
 have e3 := s_Has (t := phoneS) a3
 have o8 := a3.one
 have b1 : ∀ t, gcH H K1 (.bool t) = H := fun t => by rw [hK1, gcH_bool]
 have b2 : ∀ t, gcH H K2 (.bool t) = H := fun t => by rw [hK2, hK1, List.append_assoc, gcH_bool]
 have b3 : ∀ t, gcH H K3 (.bool t) = H := fun t => by rw [hK3, hK2, hK1, List.append_assoc, List.append_assoc, gcH_bool]
 by_cases q1 : phoneS ∈ attrsF f.filter
 ·have hn : ¬ FlowOk f := fun h => (h.2.2.2.2.2 gb).1 q1
  rw [dec_pos ((m1 _).2 q1)] at e1
  simp only [phoneS] at e1
  simp [code57, Tryz.f57, o1, o2, o3, o4, o5, c1, c2, c3, c4, c5, d1, e1, o6, b1, hn, fillL, zerosL, regionL_none, regionL_some, List.lookup]
 rw [dec_neg (fun h => q1 ((m1 _).1 h))] at e1
 simp only [phoneS] at e1
 by_cases q2 : phoneS ∈ attrsX f.login
 ·have hn : ¬ FlowOk f := fun h => (h.2.2.2.2.2 gb).2.1 q2
  rw [dec_pos ((m2 _).2 q2)] at e2
  simp only [phoneS] at e2
  simp [code57, Tryz.f57, o1, o2, o3, o4, o5, c1, c2, c3, c4, c5, d1, e1, d2, e2, o6, o7, b2, hn, fillL, zerosL, regionL_none, regionL_some, List.lookup]
 rw [dec_neg (fun h => q2 ((m2 _).1 h))] at e2
 simp only [phoneS] at e2
 by_cases q3 : phoneS ∈ attrsX f.mail
 ·have hn : ¬ FlowOk f := fun h => (h.2.2.2.2.2 gb).2.2 q3
  rw [dec_pos ((m3 _).2 q3)] at e3
  simp only [phoneS] at e3
  simp [code57, Tryz.f57, o1, o2, o3, o4, o5, c1, c2, c3, c4, c5, d1, e1, d2, e2, d3, e3, o6, o7, o8, b3, hn, fillL, zerosL, regionL_none, regionL_some, List.lookup]
 ·have hy : FlowOk f := ⟨g1, g2, g3, g4, g5, fun _ => ⟨q1, q2, q3⟩⟩
  rw [dec_neg (fun h => q3 ((m3 _).1 h))] at e3
  simp only [phoneS] at e3
  simp [code57, Tryz.f57, o1, o2, o3, o4, o5, c1, c2, c3, c4, c5, d1, e1, d2, e2, d3, e3, o6, o7, o8, b3, hy, fillL, zerosL, regionL_none, regionL_some, List.lookup]
theorem i_FlowRight {H : List Ob} {vb vf vl vm vp : V} {f : PFlow} (h1 : ARdns H vb f.base) (h2 : ANodes H vf f.filter) (h3 : AParts H vl f.login) (h4 : AParts H vm f.mail) (h5 : AParts H vp f.phone) :
  callW C 64 [.agg [vb, vf, vl, vm, vp, .bool f.back]] H = some (.bool (dec (FlowOk f)), H) := by
 apply Ret.dec
 rw [op64]
 have o1 := h1.one
 have o2 := h2.one
 have o3 := h3.one
 have o4 := h4.one
 have o5 := h5.one
 have c1 := i_Dn h1
 have c2 := i_FilterRight h2
 have c3 := i_ExprRight h3
 have c4 := i_ExprRight h4
 have c5 := i_ExprRight h5
 by_cases g1 : DnOk f.base
 rotate_left
 ·have hn : ¬ FlowOk f := fun h => g1 h.1
  rw [dec_neg g1] at c1
  simp [code64, Tryz.f64, o1, o2, o3, o4, o5, c1, c2, c3, c4, c5, hn, fillL, zerosL, regionL_none, regionL_some, List.lookup]
 rw [dec_pos g1] at c1
 by_cases g2 : FilterOk f.filter
 rotate_left
 ·have hn : ¬ FlowOk f := fun h => g2 h.2.1
  rw [dec_neg g2] at c2
  simp [code64, Tryz.f64, o1, o2, o3, o4, o5, c1, c2, c3, c4, c5, hn, fillL, zerosL, regionL_none, regionL_some, List.lookup]
 rw [dec_pos g2] at c2
 by_cases g3 : ExprOk f.login
 rotate_left
 ·have hn : ¬ FlowOk f := fun h => g3 h.2.2.1
  rw [dec_neg g3] at c3
  simp [code64, Tryz.f64, o1, o2, o3, o4, o5, c1, c2, c3, c4, c5, hn, fillL, zerosL, regionL_none, regionL_some, List.lookup]
 rw [dec_pos g3] at c3
 by_cases g4 : ExprOk f.mail
 rotate_left
 ·have hn : ¬ FlowOk f := fun h => g4 h.2.2.2.1
  rw [dec_neg g4] at c4
  simp [code64, Tryz.f64, o1, o2, o3, o4, o5, c1, c2, c3, c4, c5, hn, fillL, zerosL, regionL_none, regionL_some, List.lookup]
 rw [dec_pos g4] at c4
 by_cases g5 : ExprOk f.phone
 rotate_left
 ·have hn : ¬ FlowOk f := fun h => g5 h.2.2.2.2.1
  rw [dec_neg g5] at c5
  simp [code64, Tryz.f64, o1, o2, o3, o4, o5, c1, c2, c3, c4, c5, hn, fillL, zerosL, regionL_none, regionL_some, List.lookup]
 rw [dec_pos g5] at c5
 cases gb : f.back with
 | false =>
  have hy : FlowOk f := ⟨g1, g2, g3, g4, g5, fun h => by rw [gb] at h; cases h⟩
  simp [code64, Tryz.f64, o1, o2, o3, o4, o5, c1, c2, c3, c4, c5, hy, fillL, zerosL, regionL_none, regionL_some, List.lookup]
 | true =>
 obtain ⟨T1, w1, l1, d1, a1, m1, z1⟩ := i_filterAttrs h2 g2
 obtain ⟨K1, hK1⟩ : ∃ K, K = H ++ T1 := ⟨_, rfl⟩
 rw [← hK1] at d1 a1
 have o6 := a1.one
 obtain ⟨T2, w2, l2, d2, a2, m2, z2⟩ := i_exprAttrs (H := K1) (by rw [hK1]; exact h3.ext) g3.1
 obtain ⟨K2, hK2⟩ : ∃ K, K = K1 ++ T2 := ⟨_, rfl⟩
 rw [← hK2] at d2 a2
 have o7 := a2.one
 obtain ⟨T3, w3, l3, d3, a3, m3, z3⟩ := i_exprAttrs (H := K2) (by rw [hK2, hK1]; exact h4.ext.ext) g4.1
 obtain ⟨K3, hK3⟩ : ∃ K, K = K2 ++ T3 := ⟨_, rfl⟩
 rw [← hK3] at d3 a3
 have o8 := a3.one
 have hfl : fl [l1, l2, l3] 3 = l1 ++ l2 ++ l3 := by simp [fl]
 have a1' : AStrs (K3 ++ [.mk true 1 [w1, w2, w3]]) w1 l1 := by rw [hK3, hK2]; exact a1.ext.ext.ext
 have a2' : AStrs (K3 ++ [.mk true 1 [w1, w2, w3]]) w2 l2 := by rw [hK3]; exact a2.ext.ext
 have a3' : AStrs (K3 ++ [.mk true 1 [w1, w2, w3]]) w3 l3 := a3.ext
 have hlen : (l1 ++ l2 ++ l3).length ≤ 44 := by simp; omega
 obtain ⟨T4, w, d4, hown⟩ := l_Concat (H := K3 ++ [.mk true 1 [w1, w2, w3]]) (id := K3.length) (own := true) (ws := [w1, w2, w3]) (ls := [l1, l2, l3]) get_last rfl (fun i w l hw hl => by
  match i with
  | 0 => cases hw; cases hl; exact a1'
  | 1 => cases hw; cases hl; exact a2'
  | 2 => cases hw; cases hl; exact a3'
  | i + 3 => simp at hw) (by simp only [List.length_cons, List.length_nil]; rw [hfl]; omega) (by simp)
 simp only [List.length_cons, List.length_nil] at hown d4
 rw [hfl] at hown
 have a4 := Own.strs hown (by unfold maxLen; omega) (fun s hs => by
  rcases List.mem_append.1 hs with hs | hs
  ·rcases List.mem_append.1 hs with hs | hs
   ·exact a1.max s hs
   ·exact a2.max s hs
  ·exact a3.max s hs)
 have e4 := l_Contains (t := phoneS) a4
 have o9 := a4.one
 have b4 : ∀ t X, gcH H (K3 ++ X) (.bool t) = H := fun t X => by rw [hK3, hK2, hK1, List.append_assoc, List.append_assoc, List.append_assoc, gcH_bool]
 have hiff : phoneS ∈ l1 ++ l2 ++ l3 ↔ ¬ (phoneS ∉ attrsF f.filter ∧ phoneS ∉ attrsX f.login ∧ phoneS ∉ attrsX f.mail) := by
  rw [List.mem_append, List.mem_append, m1, m2, m3]
  by_cases q1 : phoneS ∈ attrsF f.filter <;> by_cases q2 : phoneS ∈ attrsX f.login <;> by_cases q3 : phoneS ∈ attrsX f.mail <;> simp [q1, q2, q3]
 simp only [List.append_assoc, List.cons_append, List.nil_append, Nat.zero_add, Nat.reduceAdd] at d4 e4
 by_cases q : phoneS ∈ l1 ++ l2 ++ l3
 ·have hn : ¬ FlowOk f := fun h => hiff.1 q (h.2.2.2.2.2 gb)
  simp only [List.append_assoc] at q
  rw [dec_pos q] at e4
  simp only [phoneS] at e4
  simp [code64, Tryz.f64, o1, o2, o3, o4, o5, c1, c2, c3, c4, c5, d1, d2, d3, d4, e4, o6, o7, o8, o9, b4, hn, St.new, elemT, fillL, zerosL, regionL_none, regionL_some, List.lookup]
 ·have hy : FlowOk f := ⟨g1, g2, g3, g4, g5, fun _ => Classical.byContradiction fun hh => q (hiff.2 hh)⟩
  simp only [List.append_assoc] at q
  rw [dec_neg q] at e4
  simp only [phoneS] at e4
  simp [code64, Tryz.f64, o1, o2, o3, o4, o5, c1, c2, c3, c4, c5, d1, d2, d3, d4, e4, o6, o7, o8, o9, b4, hy, St.new, elemT, fillL, zerosL, regionL_none, regionL_some, List.lookup]
end Go.Proofs.Try1
end
section
namespace Go.Proofs.Try1
open Go Go.Lite


theorem i_ManyR {H : List Ob} {v : V} {l : List PRdn} (h : ARdns H v l) : callW C 190 [v] H = some (.bool (decide (400 < l.length)), H) := by
 apply Ret.eq
 rw [op190]
 have hi : (400 : Int) < (l.length : Int) ↔ 400 < l.length := by omega
 simp [code190, Tryz.f190, h.len, hi]
theorem i_dnsCode1 {H : List Ob} {idd g : Nat} {b : List V} {vd : V} {dn : List PRdn} {rr : Bool} (hi : H[idd]? = some (.mk true 1 [vd])) (hd : ARdns H vd dn) (hr : callW C g b H = some (.bool rr, H)) :
  callW C 98 [.fn g [] b, .slc (some (idd, 0)) 1] H = some (.int .i64 (if 400 < dn.length then 2 else if dec (DnOk dn) = true ∧ rr = true then 0 else 1), H) := by
 apply Ret.eq
 rw [op98]
 have c1 := i_ManyR hd
 have c2 := i_Dn hd
 have ld := load1 (o := 0) (v := vd) hi rfl
 simp [code98, Tryz.f98]
 refine WP_loop (fun k σ => ∃ (i : Nat) (r : Nat → R), i + k = 1 ∧ (0 < i → ¬ 400 < dn.length) ∧ σ = ⟨r, 0, H⟩ ∧ r 0 = .val (.fn g [] b) ∧ r 1 = .val (.slc (some (idd, 0)) 1) ∧ r 9 = .val (.slc (some (idd, 0)) 1) ∧ r 10 = .val (.int .i64 1) ∧ r 11 = .val (.int .i64 i)) ?_ 1 _ ⟨0, _, by omega, by omega, rfl, by simp, by simp, by simp, by simp, by simp⟩
 rintro k σ ⟨i, r, hik, hlow, rfl, r0, r1, r9, r10, r11⟩
 cases k with
 | succ k =>
  obtain rfl : i = 0 := by omega
  obtain rfl : k = 0 := by omega
  by_cases g1 : 400 < dn.length
  ·simp [r0, r1, r9, r10, r11, ld, c1, g1]
  ·simp [r0, r1, r9, r10, r11, ld, c1, g1]
 | zero =>
  obtain rfl : i = 1 := by omega
  have g1 := hlow (by omega)
  simp [r0, r1, r9, r10, r11, g1]
  refine WP_loop (fun k σ => ∃ (i : Nat) (r : Nat → R), i + k = 1 ∧ (0 < i → DnOk dn) ∧ σ = ⟨r, 0, H⟩ ∧ r 0 = .val (.fn g [] b) ∧ r 1 = .val (.slc (some (idd, 0)) 1) ∧ r 18 = .val (.slc (some (idd, 0)) 1) ∧ r 19 = .val (.int .i64 1) ∧ r 20 = .val (.int .i64 i)) ?_ 1 _ ⟨0, _, by omega, by omega, rfl, by simp [r0], by simp [r1], by simp, by simp, by simp⟩
  clear r0 r1 r9 r10 r11 r
  rintro k σ ⟨i, r, hik, hdn, rfl, r0, r1, r18, r19, r20⟩
  cases k with
  | succ k =>
   obtain rfl : i = 0 := by omega
   obtain rfl : k = 0 := by omega
   by_cases g2 : DnOk dn
   ·rw [dec_pos g2] at c2
    simp [r0, r1, r18, r19, r20, ld, c2, g1]
    exact g2
   ·rw [dec_neg g2] at c2
    simp [r0, r1, r18, r19, r20, ld, c2, g1, dec_neg g2]
  | zero =>
   obtain rfl : i = 1 := by omega
   have g2 := hdn (by omega)
   cases rr with
   | true => simp [r0, r1, r18, r19, r20, hr, dec_pos g2]
   | false => simp [r0, r1, r18, r19, r20, hr, dec_pos g2]
theorem TreeOk.small {t : PTree} (h : TreeOk t) : SmallT t := by
 refine ⟨⟨by have := h.1.2; omega, fun c hc => ?_⟩, by have := h.2.1.1; omega, fun e he => EntryOk.small (TreeOk.dns h e he)⟩
 obtain ⟨j, hj, rfl⟩ := List.getElem_of_mem hc
 have hc := (h.1.1 j _ (List.getElem?_eq_getElem hj)).1
 exact ⟨by have := hc.l1; omega, by have := hc.l2; omega, by have := hc.l3; omega⟩
theorem TreeOk.rise {t : PTree} (h : TreeOk t) : t.entries.Pairwise fun a b => keyE a < keyE b := rise_pair (key := keyE) (fun j x hx => (h.2.1.2 j x hx).2.2)
theorem TOut.new {H : List Ob} {T : List Ob} {t : PTree} {w1 w2 : V} (hn : New H.length (H ++ T).length (H ++ T) shTree [w1, w2] t.u) : ∃ T' q, q = .agg [w1, w2, .slc none 0, .int .i64 0] ∧ gcH H (H ++ T) q = H ++ T' ∧ TOut H ⟨t, [], 0⟩ q (H ++ T') := by
 have h2 : New H.length (H ++ T).length (H ++ T) shTreeOut [w1, w2, .slc none 0, .int .i64 0] (PTreeOut.u ⟨t, [], 0⟩) := New.st (News.cons (c1 := [w1, w2]) (m := (H ++ T).length) hn (News.nilS (News.int (by decide) News.nil)) (by simp) (Nat.le_refl _))
 obtain ⟨T', h3, h4⟩ := h2.gcA
 exact ⟨T', _, rfl, h3, T', w1, w2, .slc none 0, rfl, rfl, h4⟩
theorem TOut.ones {H : List Ob} {o : PTreeOut} {q : V} {H' : List Ob} (h : TOut H o q H') : ∃ w1 w2 w3, q = .agg [w1, w2, w3, .int .i64 o.code] ∧ (isOne w1 = true ∧ cellsOf w1 = some [w1]) ∧ (isOne w2 = true ∧ cellsOf w2 = some [w2]) ∧ (isOne w3 = true ∧ cellsOf w3 = some [w3]) := by
 obtain ⟨T, w1, w2, w3, rfl, rfl, h3⟩ := h
 have := At.ones _ h3.at
 simp only [List.all_cons, List.all_nil, Bool.and_true, Bool.and_eq_true] at this
 exact ⟨w1, w2, w3, rfl, ⟨this.1, isOne_cells this.1⟩, ⟨this.2.1, isOne_cells this.2.1⟩, ⟨this.2.2.1, isOne_cells this.2.2.1⟩⟩
theorem TOut.gc {H : List Ob} {o : PTreeOut} {q : V} {H' : List Ob} (h : TOut H o q H') : TOut H o q (gcH H H' q) := by
 obtain ⟨T, w1, w2, w3, rfl, rfl, h3⟩ := h
 obtain ⟨T', h4, h5⟩ := h3.gcA
 exact ⟨T', w1, w2, w3, rfl, h4, h5⟩


theorem i_dnSame {H : List Ob} {v w : V} {a b : List PRdn} (h : ARdns H v a) (hb : ARdns H w b) (h1 : DnOk a) (h2 : DnOk b) (hl : a.length = b.length) :
  callW C 194 [v, w] H = some (.bool (dec (keyD a = keyD b)), H) := by
 apply Ret.dec
 rw [op194]
 have c1 := i_Key h h1
 have c2 := i_Key hb h2
 by_cases g : keyD a = keyD b
 ·simp [code194, Tryz.f194, h.len, hb.len, hl, c1, c2, g]
 ·simp [code194, Tryz.f194, h.len, hb.len, hl, c1, c2, g]
theorem i_dnUnder {H : List Ob} {v w : V} {dn base : List PRdn} (h : ARdns H v dn) (hb : ARdns H w base) (h1 : DnOk dn) (h2 : DnOk base) (hl : 0 < dn.length) :
  callW C 147 [v, w] H = some (.bool (dec (UnderOk dn base)), H) := by
 apply Ret.dec
 rw [op147]
 by_cases g : base.length ≤ dn.length
 rotate_left
 ·have g' : ¬ (base.length : Int) ≤ dn.length := by omega
  simp [code147, Tryz.f147, h.len, hb.len, g']
  exact fun h => g h.1
 have g' : (base.length : Int) ≤ dn.length := by omega
 have hw : IntKind.i64.wrap ((dn.length : Int) - base.length) = ((dn.length - base.length : Nat) : Int) := by
  have := h1.2
  rw [wrap_i64 (by omega) (by omega)]; omega
 obtain ⟨id, off, own, cells, hv, hcell, hd⟩ := rdns_drop h (k := dn.length - base.length) (by omega) hl
 have hst : strideIs H id 2 = true := by simp [strideIs, hcell]
 have c3 := i_dnSame hd hb (DnOk.drop h1 _) h2 (by simp; omega)
 have hle : dn.length - base.length ≤ dn.length := by omega
 rw [hv] at h ⊢
 by_cases gk : keyD (dn.drop (dn.length - base.length)) = keyD base
 ·rw [dec_pos gk] at c3
  simp [code147, Tryz.f147, h.len, hb.len, g', hw, hst, c3, hle]
  exact ⟨g, gk⟩
 ·rw [dec_neg gk] at c3
  simp [code147, Tryz.f147, h.len, hb.len, g', hw, hst, c3, hle]
  exact fun h => gk h.2
theorem search_first {l : List PEntry} {key : Str} {i : Nat} {ok : Bool} (hp : l.Pairwise fun a b => keyE a < keyE b) (hlo : ∀ q a, q < i → l[q]? = some a → LtS (keyE a) key) (hhi : ∀ q a, i ≤ q → l[q]? = some a → ¬ LtS (keyE a) key) (hok : ok = true ↔ ∃ a, l[i]? = some a ∧ keyE a = key) :
  (ok = false → firstOf keyE l key = none) ∧ (ok = true → ∃ x, l[i]? = some x ∧ keyE x = key ∧ firstOf keyE l key = some x) := by
 refine ⟨fun h => first_none fun y hy he => ?_, fun h => ?_⟩
 ·obtain ⟨j, hj, rfl⟩ := List.getElem_of_mem hy
  rcases Nat.lt_trichotomy j i with hh | hh | hh
  ·have := hlo j _ hh (List.getElem?_eq_getElem hj)
   rw [he] at this
   exact LtS_irrefl _ this
  ·subst hh
   have := hok.2 ⟨_, List.getElem?_eq_getElem hj, he⟩
   rw [h] at this; cases this
  ·have h1 := hhi i _ (Nat.le_refl _) (List.getElem?_eq_getElem (by omega))
   have h2 := List.pairwise_iff_getElem.1 hp i j (by omega) hj hh
   rw [he] at h2
   exact h1 ((LtS_iff _ _).2 h2)
 ·obtain ⟨x, hx, he⟩ := hok.1 h
  exact ⟨x, hx, he, first_uniq hp hx he⟩
end Go.Proofs.Try1
end
section
namespace Go.Proofs.Try1
open Go Go.Lite
attribute [-simp] WP_region WP_cond
attribute [local simp] WP_regionF WP_condF ThenW_some ThenW_none CondW_true CondW_false
attribute [local simp low] CondW_bool
def SaysTrue (f : List PNode) (az : List PAttr) (known : List Str) : Prop := ∃ j, fev f az known 5 0 = some (1, j)
theorem says_of {f : List PNode} (hf : FilterOk f) (az : List PAttr) (known : List Str) : ∃ q, fev f az known 5 0 = some q ∧ (q.1 = 1 ↔ SaysTrue f az known) := by
 obtain ⟨_, x, hx⟩ := hf
 obtain ⟨y, hy, _⟩ := fev_of (az := az) (known := known) 5 0 _ hx
 refine ⟨_, hy, ?_, ?_⟩
 ·intro h
  simp only at h
  subst h
  exact ⟨_, hy⟩
 ·rintro ⟨j, hj⟩
  rw [hy] at hj
  cases hj
  rfl
theorem leafI_congr {n : PNode} {az : List PAttr} {k1 k2 : List Str} (h : ∀ x, x ∈ k1 ↔ x ∈ k2) : leafI n az k1 = leafI n az k2 := by
 unfold leafI
 by_cases g : n.attr ∈ k1
 ·rw [dec_pos g, dec_pos ((h _).1 g)]
 ·rw [dec_neg g, dec_neg (fun h2 => g ((h _).2 h2))]
theorem fev_congr {f : List PNode} {az : List PAttr} {k1 k2 : List Str} (h : ∀ x, x ∈ k1 ↔ x ∈ k2) : ∀ d, fev f az k1 d = fev f az k2 d
 | 0 => rfl
 | d + 1 => by
  funext i
  unfold fev
  rw [fev_congr h d]
  cases f[i]? with
  | none => rfl
  | some n => simp only [leafI_congr h]
theorem says_congr {f : List PNode} {az : List PAttr} {k1 k2 : List Str} (h : ∀ x, x ∈ k1 ↔ x ∈ k2) : SaysTrue f az k1 ↔ SaysTrue f az k2 := by
 unfold SaysTrue
 rw [fev_congr h]
theorem i_dnSame2 {H : List Ob} {v w : V} {a b : List PRdn} (h : ARdns H v a) (hb : ARdns H w b) (h1 : DnOk a) (h2 : DnOk b) :
  callW C 194 [v, w] H = some (.bool (dec (a.length = b.length ∧ keyD a = keyD b)), H) := by
 by_cases hl : a.length = b.length
 ·rw [i_dnSame h hb h1 h2 hl]
  by_cases g : keyD a = keyD b
  ·rw [dec_pos g, dec_pos ⟨hl, g⟩]
  ·rw [dec_neg g, dec_neg (fun h => g h.2)]
 ·apply Ret.dec
  rw [op194]
  have hl' : ¬ (a.length : Int) = b.length := by omega
  simp [code194, Tryz.f194, h.len, hb.len, hl, hl', regionL_none, regionL_some, List.lookup]
def InOk (f : PFlow) (e : PEntry) (known : List Str) : Prop := SaysTrue f.filter e.attrs known ∧ UnderOk e.dn f.base
def InFlowOk (f : PFlow) (e : PEntry) (known : List Str) : Prop := known.length ≤ 400 ∧ FlowOk f ∧ EntryOk e ∧ NamesOk known ∧ InOk f e known
theorem s_In14 {H : List Ob} {vb vf vl vm vp vd va vk : V} {f : PFlow} {e : PEntry} {known : List Str} (h1 : ARdns H vb f.base) (h2 : ANodes H vf f.filter) (h3 : AParts H vl f.login) (h4 : AParts H vm f.mail) (h5 : AParts H vp f.phone)
  (hd : ARdns H vd e.dn) (ha : AAttrs H va e.attrs) (hk : AStrs H vk known) (hf : FlowOk f) (he : EntryOk e) :
  callW C 60 [.agg [vb, vf, vl, vm, vp, .bool f.back], .agg [vd, va], vk] H = some (.bool (dec (InOk f e known)), H) := by
 apply Ret.dec
 rw [op60]
 have o1 := h1.one
 have o2 := h2.one
 have o3 := h3.one
 have o4 := h4.one
 have o5 := h5.one
 have od := hd.one
 have oa := ha.one
 obtain ⟨q, hq, hs⟩ := says_of hf.2.1 e.attrs known
 have c1 := s_Eval h2 (by have := hf.2.1.1; omega) ha hk hd.one.2 hd.one.1 5 0 q hq
 have c2 := s_Under hd h1 he.2.1 hf.1 he.1
 simp only [Int.natCast_zero] at c1
 by_cases g1 : SaysTrue f.filter e.attrs known
 ·have e1 := hs.2 g1
  by_cases g2 : UnderOk e.dn f.base
  ·rw [dec_pos g2] at c2
   have hy : InOk f e known := ⟨g1, g2⟩
   simp [code60, Tryz.f60, o1, o2, o3, o4, o5, od, oa, c1, c2, e1, hy, fillL, zerosL, regionL_none, regionL_some, List.lookup]
  ·rw [dec_neg g2] at c2
   have hn : ¬ InOk f e known := fun h => g2 h.2
   simp [code60, Tryz.f60, o1, o2, o3, o4, o5, od, oa, c1, c2, e1, hn, fillL, zerosL, regionL_none, regionL_some, List.lookup]
 ·have e1 : ¬ q.1 = 1 := fun h => g1 (hs.1 h)
  have hn : ¬ InOk f e known := fun h => g1 h.1
  simp [code60, Tryz.f60, o1, o2, o3, o4, o5, od, oa, c1, e1, hn, fillL, zerosL, regionL_none, regionL_some, List.lookup]
theorem s_InFlow {H : List Ob} {vb vf vl vm vp vd va vk : V} {f : PFlow} {e : PEntry} {known : List Str} (h1 : ARdns H vb f.base) (h2 : ANodes H vf f.filter) (h3 : AParts H vl f.login) (h4 : AParts H vm f.mail) (h5 : AParts H vp f.phone)
  (hd : ARdns H vd e.dn) (ha : AAttrs H va e.attrs) (hk : AStrs H vk known) :
  callW C 12 [.agg [vb, vf, vl, vm, vp, .bool f.back], .agg [vd, va], vk] H = some (.bool (dec (InFlowOk f e known)), H) := by
 apply Ret.dec
 rw [op12]
 have o1 := h1.one
 have o2 := h2.one
 have o3 := h3.one
 have o4 := h4.one
 have o5 := h5.one
 have od := hd.one
 have oa := ha.one
 have c1 := s_FlowRight h1 h2 h3 h4 h5
 have c2 := s_Entry hd ha
 have c3 := s_Names hk
 by_cases g0 : known.length ≤ 400
 rotate_left
 ·have g0' : ¬ (known.length : Int) ≤ 400 := by omega
  have hn : ¬ InFlowOk f e known := fun h => g0 h.1
  simp [code12, Tryz.f12, hk.len, o1, o2, o3, o4, o5, od, oa, g0', hn, fillL, zerosL, regionL_none, regionL_some, List.lookup]
 have g0' : (known.length : Int) ≤ 400 := by omega
 by_cases g1 : FlowOk f
 rotate_left
 ·rw [dec_neg g1] at c1
  have hn : ¬ InFlowOk f e known := fun h => g1 h.2.1
  simp [code12, Tryz.f12, hk.len, o1, o2, o3, o4, o5, od, oa, g0', c1, hn, fillL, zerosL, regionL_none, regionL_some, List.lookup]
 rw [dec_pos g1] at c1
 by_cases g2 : EntryOk e
 rotate_left
 ·rw [dec_neg g2] at c2
  have hn : ¬ InFlowOk f e known := fun h => g2 h.2.2.1
  simp [code12, Tryz.f12, hk.len, o1, o2, o3, o4, o5, od, oa, g0', c1, c2, hn, fillL, zerosL, regionL_none, regionL_some, List.lookup]
 rw [dec_pos g2] at c2
 by_cases g3 : NamesOk known
 rotate_left
 ·rw [dec_neg g3] at c3
  have hn : ¬ InFlowOk f e known := fun h => g3 h.2.2.2.1
  simp [code12, Tryz.f12, hk.len, o1, o2, o3, o4, o5, od, oa, g0', c1, c2, c3, hn, fillL, zerosL, regionL_none, regionL_some, List.lookup]
 rw [dec_pos g3] at c3
 have c4 := s_In14 h1 h2 h3 h4 h5 hd ha hk g1 g2
 by_cases g4 : InOk f e known
 ·rw [dec_pos g4] at c4
  have hy : InFlowOk f e known := ⟨g0, g1, g2, g3, g4⟩
  simp [code12, Tryz.f12, hk.len, o1, o2, o3, o4, o5, od, oa, g0', c1, c2, c3, c4, hy, fillL, zerosL, regionL_none, regionL_some, List.lookup]
 ·rw [dec_neg g4] at c4
  have hn : ¬ InFlowOk f e known := fun h => g4 h.2.2.2.2
  simp [code12, Tryz.f12, hk.len, o1, o2, o3, o4, o5, od, oa, g0', c1, c2, c3, c4, hn, fillL, zerosL, regionL_none, regionL_some, List.lookup]
theorem i_inFlow {H : List Ob} {vb vf vl vm vp vd va vk : V} {f : PFlow} {e : PEntry} {known : List Str} {ide es : Nat} {own : Bool} (hp : H[ide]? = some (.mk own es [vd, va])) (h1 : ARdns H vb f.base) (h2 : ANodes H vf f.filter) (h3 : AParts H vl f.login) (h4 : AParts H vm f.mail) (h5 : AParts H vp f.phone)
  (hd : ARdns H vd e.dn) (ha : AAttrs H va e.attrs) (hk : AStrs H vk known) (hf : FlowOk f) (he : EntryOk e) :
  callW C 67 [.agg [vb, vf, vl, vm, vp, .bool f.back], .ptr (some (ide, 0)), vk] H = some (.bool (dec (InOk f e known)), H) := by
 apply Ret.dec
 rw [op67]
 have o1 := h1.one
 have o2 := h2.one
 have o3 := h3.one
 have o4 := h4.one
 have o5 := h5.one
 have ld := load1 (o := 0) (v := vd) hp rfl
 have hide : ide < H.length := (List.getElem?_eq_some_iff.1 hp).1
 obtain ⟨q, hq, hs⟩ := says_of hf.2.1 e.attrs known
 have c1 := i_eval (f := f.filter) (by have := hf.2.1.1; omega) (by have := he.2.2.2; omega) (EntryOk.rise he) 5 0 vf H q hq (by simpa using h2) hp ha hk
 have c2 := i_dnUnder hd h1 he.2.1 hf.1 he.1
 by_cases g2 : UnderOk e.dn f.base
 rotate_left
 ·rw [dec_neg g2] at c2
  have hn : ¬ InOk f e known := fun h => g2 h.2
  simp [code67, Tryz.f67, o1, o2, o3, o4, o5, ld, hide, c2, hn, fillL, zerosL, regionL_none, regionL_some, List.lookup]
 rw [dec_pos g2] at c2
 by_cases g1 : SaysTrue f.filter e.attrs known
 ·have e1 := hs.2 g1
  have hy : InOk f e known := ⟨g1, g2⟩
  simp [code67, Tryz.f67, o1, o2, o3, o4, o5, ld, hide, c1, c2, e1, hy, fillL, zerosL, regionL_none, regionL_some, List.lookup]
 ·have e1 : ¬ q.1 = 1 := fun h => g1 (hs.1 h)
  have hn : ¬ InOk f e known := fun h => g1 h.1
  simp [code67, Tryz.f67, o1, o2, o3, o4, o5, ld, hide, c1, c2, e1, hn, fillL, zerosL, regionL_none, regionL_some, List.lookup]
theorem i_InFlow {H : List Ob} {vb vf vl vm vp vd va vk : V} {f : PFlow} {e : PEntry} {known : List Str} (h1 : ARdns H vb f.base) (h2 : ANodes H vf f.filter) (h3 : AParts H vl f.login) (h4 : AParts H vm f.mail) (h5 : AParts H vp f.phone)
  (hd : ARdns H vd e.dn) (ha : AAttrs H va e.attrs) (hk : AStrs H vk known) :
  callW C 16 [.agg [vb, vf, vl, vm, vp, .bool f.back], .agg [vd, va], vk] H = some (.bool (dec (InFlowOk f e known)), H) := by
 apply Ret.dec
 rw [op16]
 have o1 := h1.one
 have o2 := h2.one
 have o3 := h3.one
 have o4 := h4.one
 have o5 := h5.one
 have od := hd.one
 have oa := ha.one
 obtain ⟨K, hK⟩ : ∃ K, K = H ++ [.mk true 2 [vd, va]] := ⟨_, rfl⟩
 have hp : K[H.length]? = some (.mk true 2 [vd, va]) := by rw [hK]; exact get_last
 have h1' : ARdns K vb f.base := by rw [hK]; exact h1.ext
 have h2' : ANodes K vf f.filter := by rw [hK]; exact h2.ext
 have h3' : AParts K vl f.login := by rw [hK]; exact h3.ext
 have h4' : AParts K vm f.mail := by rw [hK]; exact h4.ext
 have h5' : AParts K vp f.phone := by rw [hK]; exact h5.ext
 have hd' : ARdns K vd e.dn := by rw [hK]; exact hd.ext
 have ha' : AAttrs K va e.attrs := by rw [hK]; exact ha.ext
 have hk' : AStrs K vk known := by rw [hK]; exact hk.ext
 have ldN := loadN (o := 0) (n := 2) hp (by simp) (by decide) rfl
 simp at ldN
 have hg : ∀ b, gcH H K (.bool b) = H := fun b => by rw [hK]; exact gcH_bool
 have c0 := i_ManyS hk'
 have c1 := i_FlowRight h1' h2' h3' h4' h5'
 have c2 := i_Entry hd' ha'
 have c3 := i_Names hk'
 by_cases g0 : known.length ≤ 400
 rotate_left
 ·have g0' : 400 < known.length := by omega
  have hn : ¬ InFlowOk f e known := fun h => g0 h.1
  simp [code16, Tryz.f16, o1, o2, o3, o4, o5, od, oa, c0, g0', hn, strideOf, St.new, ← hK, hg, fillL, zerosL, regionL_none, regionL_some, List.lookup]
 have g0' : ¬ 400 < known.length := by omega
 by_cases g1 : FlowOk f
 rotate_left
 ·rw [dec_neg g1] at c1
  have hn : ¬ InFlowOk f e known := fun h => g1 h.2.1
  simp [code16, Tryz.f16, o1, o2, o3, o4, o5, od, oa, c0, g0', c1, hn, strideOf, St.new, ← hK, hg, fillL, zerosL, regionL_none, regionL_some, List.lookup]
 rw [dec_pos g1] at c1
 by_cases g2 : EntryOk e
 rotate_left
 ·rw [dec_neg g2] at c2
  have hn : ¬ InFlowOk f e known := fun h => g2 h.2.2.1
  simp [code16, Tryz.f16, o1, o2, o3, o4, o5, od, oa, c0, g0', c1, c2, ldN, hn, strideOf, St.new, ← hK, hg, fillL, zerosL, regionL_none, regionL_some, List.lookup]
 rw [dec_pos g2] at c2
 by_cases g3 : NamesOk known
 rotate_left
 ·rw [dec_neg g3] at c3
  have hn : ¬ InFlowOk f e known := fun h => g3 h.2.2.2.1
  simp [code16, Tryz.f16, o1, o2, o3, o4, o5, od, oa, c0, g0', c1, c2, c3, ldN, hn, strideOf, St.new, ← hK, hg, fillL, zerosL, regionL_none, regionL_some, List.lookup]
 rw [dec_pos g3] at c3
 have c4 := i_inFlow hp h1' h2' h3' h4' h5' hd' ha' hk' g1 g2
 by_cases g4 : InOk f e known
 ·rw [dec_pos g4] at c4
  have hy : InFlowOk f e known := ⟨g0, g1, g2, g3, g4⟩
  simp [code16, Tryz.f16, o1, o2, o3, o4, o5, od, oa, c0, g0', c1, c2, c3, c4, ldN, hy, strideOf, St.new, ← hK, hg, fillL, zerosL, regionL_none, regionL_some, List.lookup]
 ·rw [dec_neg g4] at c4
  have hn : ¬ InFlowOk f e known := fun h => g4 h.2.2.2.2
  simp [code16, Tryz.f16, o1, o2, o3, o4, o5, od, oa, c0, g0', c1, c2, c3, c4, ldN, hn, strideOf, St.new, ← hK, hg, fillL, zerosL, regionL_none, regionL_some, List.lookup]
end Go.Proofs.Try1
end
section
namespace Go.Proofs.Try1
open Go Go.Lite
theorem lawInFlow {H : List Ob} {vs : List V} {xs : List D} (h : IsArgs H [shFlow, shEntry, .slice .str] vs xs) : ∃ H', callW C 3 vs H = some (.bool true, H') := by
 rcases vs with _ | ⟨v1, _ | ⟨v2, _ | ⟨v3, _ | ⟨v4, vs⟩⟩⟩⟩ <;> rcases xs with _ | ⟨d1, _ | ⟨d2, _ | ⟨d3, _ | ⟨d4, xs⟩⟩⟩⟩ <;> first | (exfalso; simp [IsArgs] at h; done) | skip
 obtain ⟨⟨cs1, e1, l1, i1⟩, ⟨cs2, e2, l2, i2⟩, ⟨cs3, e3, l3, i3⟩, _⟩ := h
 subst e1; subst e2; subst e3
 have h1 := Is.at _ i1
 obtain ⟨f, hf⟩ := flow_typed h1
 rw [hf] at h1
 have h2 := Is.at _ i2
 obtain ⟨e, he⟩ := entry_typed h2
 rw [he] at h2
 have h3 := Is.at _ i3
 obtain ⟨v, l, rfl, hl, _⟩ := strs_typed h3
 rw [hl] at h3
 have key := ret_FnExactInFlow (rV := .bool (dec (InFlowOk f e l))) h1 h2 h3
  (fun G x0 x1 x2 a0 a1 a2 => by
   obtain ⟨w1, w2, w3, w4, w5, rfl, b1, b2, b3, b4, b5⟩ := flow_at.1 a0
   obtain ⟨w6, w7, rfl, b6, b7⟩ := entry_at.1 a1
   obtain ⟨y, rfl⟩ := list1 (At.len _ a2 : _ = 1)
   exact ⟨G, s_InFlow b1 b2 b3 b4 b5 b6 b7 a2, .refl⟩)
  (fun G x0 x1 x2 a0 a1 a2 => by
   obtain ⟨w1, w2, w3, w4, w5, rfl, b1, b2, b3, b4, b5⟩ := flow_at.1 a0
   obtain ⟨w6, w7, rfl, b6, b7⟩ := entry_at.1 a1
   obtain ⟨y, rfl⟩ := list1 (At.len _ a2 : _ = 1)
   exact ⟨G, i_InFlow b1 b2 b3 b4 b5 b6 b7 a2, .refl⟩)
 obtain ⟨r, H', hc, rfl⟩ := key ⟨_, rfl⟩
 exact ⟨H', hc⟩
end Go.Proofs.Try1
end
section
namespace Go.Lite
open Go
variable [Draws]
theorem VL.one {μ : Mu} {v : V} {us : Array Value} (h : VL μ [v] us.toList) : ∃ u, us = #[u] ∧ VR μ v u := by
 have hl := h.length
 match us, hl, h with
 | ⟨[u]⟩, _, h => exact ⟨u, rfl, h.get 0 v u rfl rfl⟩
theorem VL.two {μ : Mu} {v v' : V} {us : Array Value} (h : VL μ [v, v'] us.toList) : ∃ u u', us = #[u, u'] ∧ VR μ v u ∧ VR μ v' u' := by
 have hl := h.length
 match us, hl, h with
 | ⟨[u, u']⟩, _, h => exact ⟨u, u', rfl, h.get 0 v u rfl rfl, h.get 1 v' u' rfl rfl⟩
theorem cmpPrim_ok {P : Program} {g : FuncId} {fn : Func} (hf : P.funcs[g]? = some fn) (hname : (fn.name == "runtime.NumGoroutine") = false) (hb : fn.body.isNone = true) (hn : Extern.findNext fn = none) (he : Extern.find fn = some Extern.BytealgCompare.compare) : PrimOk P g cmpPrim := by
 intro args H r H' h μ w us hs hv
 unfold cmpPrim at h
 split at h
 ·rename_i a b
  cases h
  obtain ⟨u, u', rfl, h1, h2⟩ := hv.two
  obtain ⟨x, rfl, rfl⟩ := h1.str_inv
  obtain ⟨y, rfl, rfl⟩ := h2.str_inv
  refine .inl ⟨.int .i64 (Lib.compareBytes x.data.toList y.data.toList), w, ?_, μ, .refl hs, .int _ _⟩
  rw [run_callFunc_extern hf hname hb hn he, Lib.run_compareString]
  rfl
 ·cases h
theorem nonePrim_ok {P : Program} {g : FuncId} : PrimOk P g nonePrim := by
 intro args H r H' h
 cases h
theorem strsOf_get : ∀ {cs : List V} {l : List (List UInt8)}, strsOf cs = some l → cs = l.map V.str
 | [], l, h => by cases h; rfl
 | c :: cs, l, h => by
  unfold strsOf at h
  split at h
  ·rename_i he; cases he
  ·rename_i s vs he
   cases he
   split at h
   ·rename_i l' hl
    cases h
    rw [List.map_cons, ← strsOf_get hl]
   ·cases h
  ·cases h
theorem cells_get' {cells l : List V} {o n : Nat} (h : (cells.drop o).take n = l) {j : Nat} (hj : j < n) : cells[o + j]? = l[j]? := by
 subst h
 rw [List.getElem?_take_of_lt hj, List.getElem?_drop]
theorem HGoes.garbage {H : List Ob} {μ : Mu} {w : World} (h : HSim H μ w) (n : Nat) (os : Array Obj) : HGoes H μ w H μ (Sort.grow (Sort.ahead w n) os) := by
 have hsame : ∀ b, b < w.heap.size → (Sort.grow (Sort.ahead w n) os).heap[b]? = w.heap[b]? := fun b hb => by
  show (w.heap ++ os)[b]? = _
  rw [Array.getElem?_append_left hb]
 have hsz : w.heap.size ≤ (Sort.grow (Sort.ahead w n) os).heap.size := by
  show _ ≤ (w.heap ++ os).size
  rw [Array.size_append]; omega
 exact ⟨h.world (fun id o m h1 h2 h3 => .of_heap (hsame _ (live_lt h id o m h1 h2 h3))) hsz, μ.le_refl, ⟨hsz, fun b hb _ => hsame b hb, fun b hb => .inl hb, rfl, rfl, rfl, fun _ => Nat.le_add_right _ _⟩, Lives.refl _ _ _⟩
theorem putRow_wrote {w : World} {blk off : Nat} {d d' : Array (List UInt8)} (h0 : Sort.Holds Go.Proofs.encStr w blk off d) (hs : d'.size = d.size) : Wrote w (Sort.putRow Go.Proofs.encStr w blk off d') blk off (d'.toList.map Go.Proofs.encStr) where
 size := by simp
 os := rfl
 tape := rfl
 drawn := rfl
 output := rfl
 other b' hb := by
  show (w.heap.modify blk _)[b']? = _
  rw [Array.getElem?_modify, if_neg (fun e => hb e.symm)]
 cell j := by
  rw [List.length_map, Array.length_toList]
  split
  ·rename_i hj
   have := Sort.cell?_putRow Go.Proofs.encStr w blk off d d' h0 hs (j - off) (by omega)
   rw [show off + (j - off) = j by omega] at this
   rw [this, List.getElem?_map, Array.getElem?_toList, Array.getElem?_eq_getElem (by omega), getElem!_pos d' (j - off) (by omega)]
   rfl
  ·rename_i hj
   exact Sort.cell?_putRow_other Go.Proofs.encStr w blk off d' ⟨blk, j, none⟩ (by simp only; omega)
 frozen j := by simp
theorem sortPrim_ok {P : Program} {g : FuncId} (hcall : ∀ us w, (callFunc g us).run P w = .ok (.enter g us) w)
  (hsort : ∀ (blk off cap : Nat) (zs : List (List UInt8)) (w : World), Sort.Holds Go.Proofs.encStr w blk off zs.toArray → blk < w.heap.size → zs.length < 4611686018427387904 → Calls P g #[.slice (some ⟨blk, off, none⟩) zs.length cap] w fun e w' =>
   e = .returned (.tuple #[]) ∧ ∃ n os, w' = Sort.grow (Sort.putRow Go.Proofs.encStr (Sort.ahead w n) blk off (zs.mergeSort fun x y => decide (x ≤ y)).toArray) os)
  (hnone : ∀ (p : Option Addr) (cap : Nat) (w : World), Calls P g #[.slice p 0 cap] w fun e w' => e = .returned (.tuple #[]) ∧ w' = w) : PrimOk P g sortPrim := by
 intro args H r H' h μ w us hs hv
 have htup : ∀ μ : Mu, VR μ (.tup []) (.tuple #[]) := fun μ => VR.tup [] #[] rfl (fun i v u h _ => by simp at h)
 unfold sortPrim at h
 split at h
 case h_2 => cases h
 rename_i p n
 obtain ⟨u, rfl, hu⟩ := hv.one
 refine .inr ⟨hcall _ _, ?_⟩
 split at h
 ·rename_i hn
  subst hn
  cases h
  have : ∃ q c, u = .slice q 0 c := by
   cases p with
   | none => obtain ⟨rfl, _⟩ := hu.slcN_inv; exact ⟨_, _, rfl⟩
   | some p =>
    obtain ⟨id, off⟩ := p
    obtain ⟨m, _, ⟨c, _, _, _, rfl⟩ | ⟨_, _, a, rfl⟩⟩ := hu.slc_inv <;> exact ⟨_, _, rfl⟩
  obtain ⟨q, c, rfl⟩ := this
  refine (hnone q c w).mono ?_
  rintro e w' ⟨rfl, rfl⟩
  exact ⟨_, rfl, μ, .refl hs, htup μ⟩
 ·rename_i hn
  split at h
  case h_2 => cases h
  rename_i id off
  split at h
  case h_2 => cases h
  rename_i es cells ho
  split at h
  case isFalse => cases h
  rename_i hc
  obtain ⟨rfl, hlen, hmax⟩ := hc
  split at h
  case h_2 => cases h
  rename_i ss hss
  cases h
  have hcs := strsOf_get hss
  have hssl : ss.length = n := by
   have := congrArg List.length hcs
   simp at this
   omega
  obtain ⟨m, hm, ⟨c, hc1, hc2, hc3, rfl⟩ | ⟨h0, _⟩⟩ := hu.slc_inv
  rotate_left
  ·exact absurd h0 hn
  obtain ⟨g1, g2, g3, g4, g5, g6⟩ := hs.obj id _ m ho hm
  obtain ⟨g6, g7⟩ := g6 rfl
  have hget : ∀ j, j < ss.length → cells[off + j]? = some (.str ss[j]!) := fun j hj => by
   rw [cells_get' hcs (show j < n by omega), List.getElem?_map, List.getElem?_eq_getElem hj]
   simp [hj]
  have hH : Sort.Holds Go.Proofs.encStr w m.blk (m.base + off) ss.toArray := fun j hj => by
   simp only [List.size_toArray] at hj
   obtain ⟨u, hu1, hu2⟩ := g4 (off + j) _ (hget j hj)
   obtain ⟨b, rfl, hb⟩ := hu2.str_inv
   have hbe : Value.string b = Go.Proofs.encStr ss[j]! := by
    show _ = Value.string ⟨ss[j]!.toArray⟩
    rw [hb]
   refine ⟨?_, ?_⟩
   ·rw [Nat.add_assoc, hu1, hbe]
    congr 2
    simp [hj]
   ·exact (g7 (m.base + off + j) (by omega) (by omega)).2
  have hsort' := hsort m.blk (m.base + off) c ss w hH g5 (by omega)
  rw [hssl] at hsort'
  refine hsort'.mono ?_
  rintro e w' ⟨rfl, k, os, rfl⟩
  refine ⟨_, rfl, μ, ?_, htup μ⟩
  have hlen2 : (ss.mergeSort fun x y => decide (x ≤ y)).length = ss.length := List.length_mergeSort ss
  have hwr := putRow_wrote (d' := (ss.mergeSort fun x y => decide (x ≤ y)).toArray) hH (by simp [hlen2])
  have hvl : VL μ ((ss.mergeSort fun x y => decide (x ≤ y)).map V.str) (((ss.mergeSort fun x y => decide (x ≤ y)).toArray).toList.map Go.Proofs.encStr) := by
   refine VL.of_get (by simp) fun i v u h1 h2 => ?_
   simp only [List.getElem?_map] at h1 h2
   cases hx : (ss.mergeSort fun x y => decide (x ≤ y))[i]? with
   | none => rw [hx] at h1; cases h1
   | some s =>
    rw [hx] at h1 h2
    cases h1
    cases h2
    exact VR.str ⟨s.toArray⟩
  have hgo := HGoes.write hs ho hm hwr hvl (by rw [List.length_map, hlen2]; omega)
  rw [Sort.putRow_ahead]
  exact hgo.trans (HGoes.garbage hgo.sim k os)
end Go.Lite
end
section
namespace Go.Proofs.Try1
open Go Go.Lite
theorem calls_of_in {L : List Nat} {n : Nat} {P : Program} {f : FuncId} {args : Array Value} {w : World} {R : Ending → World → Prop} (h : ∀ D, CallsIn (Fence.list L (some D)) n P f args w R) : Calls P f args w R := fun cs =>
 let ⟨e, w', fr, r, s, x⟩ := (h (cs.length + 1 + n)).2 cs (fun d hd => by cases hd; omega)
 ⟨e, w', fr, r, s.comes, x⟩
theorem cmp_ok [Draws] : PrimOk Tryz.prog 382 cmpPrim :=
 cmpPrim_ok Tryz.func382 (by kernel_rfl) (by kernel_rfl) rfl rfl
theorem enters {g : Nat} {fn : Func} (h1 : Tryz.prog.funcs[g]? = some fn) (h2 : (fn.name == "runtime.NumGoroutine") = false) (h3 : fn.body.isNone = false) (us : Array Value) (w : World) : (callFunc g us).run Tryz.prog w = .ok (.enter g us) w := by
 simp [callFunc, h1, (by simpa using h2 : ¬ fn.name = "runtime.NumGoroutine")]
 intro hb
 rw [hb] at h3
 cases h3
end Go.Proofs.Try1
end
section
namespace Go.Proofs.Try0
open Go Go.Lite
def locTab : List (Nat × List Nat) := [(170, [3, 5])]
def ordTab : List (Nat × List (Nat × Hint)) := [(170, [(4, ⟨[0, 1, 2, 3, 4, 5, 6, 7, 8, 9, 10], [], [], [(0, 3), (2, 5), (6, 5), (10, 3)], [], []⟩)])]
def fids : List Nat := [77, 184, 207, 211, 238, 250, 289, 290, 313, 324, 338, 349, 359]
noncomputable def primTab : Nat → Option (List V → List Ob → Option (V × List Ob)) := fun f => if f = 382 then some cmpPrim else none
noncomputable def tabs : Tabs := { locs := fun f => (locTab.lookup f).getD [], ord := fun f id => ((ordTab.lookup f).getD []).lookup id, prim := primTab, fids := fids }
theorem mixed : Tryz.prog.follows .mixedOrders = true := rfl
theorem ok : progB Tryz.prog tabs = true := by decide +kernel
noncomputable def C : Ctx := ctxOf Tryz.prog tabs
@[simp] theorem ty3 : C.ty 3 = ⟨.int .i64, 1, 8, [.int .i64 0]⟩ := by kernel_rfl
@[simp] theorem ty4 : C.ty 4 = ⟨.bool, 1, 1, [.bool false]⟩ := by kernel_rfl
@[simp] theorem ty5 : C.ty 5 = ⟨.int .u8, 1, 1, [.int .u8 0]⟩ := by kernel_rfl
@[simp] theorem ty9 : C.ty 9 = ⟨.str, 1, 16, [.str []]⟩ := by kernel_rfl
@[simp] theorem ty35 : C.ty 35 = ⟨.slice 102, 1, 24, [.slc none 0]⟩ := by kernel_rfl
@[simp] theorem ty102 : C.ty 102 = ⟨.struct [(0, 9), (1, 9)], 2, 32, [.str [], .str []]⟩ := by kernel_rfl
@[simp] theorem ty242 : C.ty 242 = ⟨.slice 5, 1, 24, [.slc none 0]⟩ := by kernel_rfl
noncomputable def code77 : Code := match Tryz.f77.body with | some c => c | none => .skip
theorem fi77 : C.fids 77 = true := by kernel_rfl
theorem bo77 : Tryz.f77.body = some code77 := rfl
theorem pr77 : C.prim 77 = none := rfl
theorem fu77 : C.funcs 77 = some Tryz.f77 := Tryz.func77
theorem op77 {a : List V} {H : List Ob} {R : V → List Ob → Prop} : Ret C 77 a H R ↔ WP C 77 code77 ⟨initRegs a, 0, H⟩ (finQ C Tryz.f77 H R) := Ret_fn pr77 fi77 fu77 bo77
@[simp] theorem locs77 : C.locs 77 = [] := by kernel_rfl
noncomputable def code184 : Code := match Tryz.f184.body with | some c => c | none => .skip
theorem fi184 : C.fids 184 = true := by kernel_rfl
theorem bo184 : Tryz.f184.body = some code184 := rfl
theorem pr184 : C.prim 184 = none := rfl
theorem fu184 : C.funcs 184 = some Tryz.f184 := Tryz.func184
theorem op184 {a : List V} {H : List Ob} {R : V → List Ob → Prop} : Ret C 184 a H R ↔ WP C 184 code184 ⟨initRegs a, 0, H⟩ (finQ C Tryz.f184 H R) := Ret_fn pr184 fi184 fu184 bo184
@[simp] theorem locs184 : C.locs 184 = [] := by kernel_rfl
noncomputable def code207 : Code := match Tryz.f207.body with | some c => c | none => .skip
theorem fi207 : C.fids 207 = true := by kernel_rfl
theorem bo207 : Tryz.f207.body = some code207 := rfl
theorem pr207 : C.prim 207 = none := rfl
theorem fu207 : C.funcs 207 = some Tryz.f207 := Tryz.func207
theorem op207 {a : List V} {H : List Ob} {R : V → List Ob → Prop} : Ret C 207 a H R ↔ WP C 207 code207 ⟨initRegs a, 0, H⟩ (finQ C Tryz.f207 H R) := Ret_fn pr207 fi207 fu207 bo207
@[simp] theorem locs207 : C.locs 207 = [] := by kernel_rfl
noncomputable def code211 : Code := match Tryz.f211.body with | some c => c | none => .skip
theorem fi211 : C.fids 211 = true := by kernel_rfl
theorem bo211 : Tryz.f211.body = some code211 := rfl
theorem pr211 : C.prim 211 = none := rfl
theorem fu211 : C.funcs 211 = some Tryz.f211 := Tryz.func211
theorem op211 {a : List V} {H : List Ob} {R : V → List Ob → Prop} : Ret C 211 a H R ↔ WP C 211 code211 ⟨initRegs a, 0, H⟩ (finQ C Tryz.f211 H R) := Ret_fn pr211 fi211 fu211 bo211
@[simp] theorem locs211 : C.locs 211 = [] := by kernel_rfl
noncomputable def code238 : Code := match Tryz.f238.body with | some c => c | none => .skip
theorem fi238 : C.fids 238 = true := by kernel_rfl
theorem bo238 : Tryz.f238.body = some code238 := rfl
theorem pr238 : C.prim 238 = none := rfl
theorem fu238 : C.funcs 238 = some Tryz.f238 := Tryz.func238
theorem op238 {a : List V} {H : List Ob} {R : V → List Ob → Prop} : Ret C 238 a H R ↔ WP C 238 code238 ⟨initRegs a, 0, H⟩ (finQ C Tryz.f238 H R) := Ret_fn pr238 fi238 fu238 bo238
@[simp] theorem locs238 : C.locs 238 = [] := by kernel_rfl
noncomputable def code250 : Code := match Tryz.f250.body with | some c => c | none => .skip
theorem fi250 : C.fids 250 = true := by kernel_rfl
theorem bo250 : Tryz.f250.body = some code250 := rfl
theorem pr250 : C.prim 250 = none := rfl
theorem fu250 : C.funcs 250 = some Tryz.f250 := Tryz.func250
theorem op250 {a : List V} {H : List Ob} {R : V → List Ob → Prop} : Ret C 250 a H R ↔ WP C 250 code250 ⟨initRegs a, 0, H⟩ (finQ C Tryz.f250 H R) := Ret_fn pr250 fi250 fu250 bo250
@[simp] theorem locs250 : C.locs 250 = [] := by kernel_rfl
noncomputable def code289 : Code := match Tryz.f289.body with | some c => c | none => .skip
theorem fi289 : C.fids 289 = true := by kernel_rfl
theorem bo289 : Tryz.f289.body = some code289 := rfl
theorem pr289 : C.prim 289 = none := rfl
theorem fu289 : C.funcs 289 = some Tryz.f289 := Tryz.func289
theorem op289 {a : List V} {H : List Ob} {R : V → List Ob → Prop} : Ret C 289 a H R ↔ WP C 289 code289 ⟨initRegs a, 0, H⟩ (finQ C Tryz.f289 H R) := Ret_fn pr289 fi289 fu289 bo289
@[simp] theorem locs289 : C.locs 289 = [] := by kernel_rfl
noncomputable def code290 : Code := match Tryz.f290.body with | some c => c | none => .skip
theorem fi290 : C.fids 290 = true := by kernel_rfl
theorem bo290 : Tryz.f290.body = some code290 := rfl
theorem pr290 : C.prim 290 = none := rfl
theorem fu290 : C.funcs 290 = some Tryz.f290 := Tryz.func290
theorem op290 {a : List V} {H : List Ob} {R : V → List Ob → Prop} : Ret C 290 a H R ↔ WP C 290 code290 ⟨initRegs a, 0, H⟩ (finQ C Tryz.f290 H R) := Ret_fn pr290 fi290 fu290 bo290
@[simp] theorem locs290 : C.locs 290 = [] := by kernel_rfl
noncomputable def code313 : Code := match Tryz.f313.body with | some c => c | none => .skip
theorem fi313 : C.fids 313 = true := by kernel_rfl
theorem bo313 : Tryz.f313.body = some code313 := rfl
theorem pr313 : C.prim 313 = none := rfl
theorem fu313 : C.funcs 313 = some Tryz.f313 := Tryz.func313
theorem op313 {a : List V} {H : List Ob} {R : V → List Ob → Prop} : Ret C 313 a H R ↔ WP C 313 code313 ⟨initRegs a, 0, H⟩ (finQ C Tryz.f313 H R) := Ret_fn pr313 fi313 fu313 bo313
@[simp] theorem locs313 : C.locs 313 = [] := by kernel_rfl
noncomputable def code324 : Code := match Tryz.f324.body with | some c => c | none => .skip
theorem fi324 : C.fids 324 = true := by kernel_rfl
theorem bo324 : Tryz.f324.body = some code324 := rfl
theorem pr324 : C.prim 324 = none := rfl
theorem fu324 : C.funcs 324 = some Tryz.f324 := Tryz.func324
theorem op324 {a : List V} {H : List Ob} {R : V → List Ob → Prop} : Ret C 324 a H R ↔ WP C 324 code324 ⟨initRegs a, 0, H⟩ (finQ C Tryz.f324 H R) := Ret_fn pr324 fi324 fu324 bo324
@[simp] theorem locs324 : C.locs 324 = [] := by kernel_rfl
noncomputable def code338 : Code := match Tryz.f338.body with | some c => c | none => .skip
theorem fi338 : C.fids 338 = true := by kernel_rfl
theorem bo338 : Tryz.f338.body = some code338 := rfl
theorem pr338 : C.prim 338 = none := rfl
theorem fu338 : C.funcs 338 = some Tryz.f338 := Tryz.func338
theorem op338 {a : List V} {H : List Ob} {R : V → List Ob → Prop} : Ret C 338 a H R ↔ WP C 338 code338 ⟨initRegs a, 0, H⟩ (finQ C Tryz.f338 H R) := Ret_fn pr338 fi338 fu338 bo338
@[simp] theorem locs338 : C.locs 338 = [] := by kernel_rfl
noncomputable def code349 : Code := match Tryz.f349.body with | some c => c | none => .skip
theorem fi349 : C.fids 349 = true := by kernel_rfl
theorem bo349 : Tryz.f349.body = some code349 := rfl
theorem pr349 : C.prim 349 = none := rfl
theorem fu349 : C.funcs 349 = some Tryz.f349 := Tryz.func349
theorem op349 {a : List V} {H : List Ob} {R : V → List Ob → Prop} : Ret C 349 a H R ↔ WP C 349 code349 ⟨initRegs a, 0, H⟩ (finQ C Tryz.f349 H R) := Ret_fn pr349 fi349 fu349 bo349
@[simp] theorem locs349 : C.locs 349 = [] := by kernel_rfl
noncomputable def code359 : Code := match Tryz.f359.body with | some c => c | none => .skip
theorem fi359 : C.fids 359 = true := by kernel_rfl
theorem bo359 : Tryz.f359.body = some code359 := rfl
theorem pr359 : C.prim 359 = none := rfl
theorem fu359 : C.funcs 359 = some Tryz.f359 := Tryz.func359
theorem op359 {a : List V} {H : List Ob} {R : V → List Ob → Prop} : Ret C 359 a H R ↔ WP C 359 code359 ⟨initRegs a, 0, H⟩ (finQ C Tryz.f359 H R) := Ret_fn pr359 fi359 fu359 bo359
@[simp] theorem locs359 : C.locs 359 = [] := by kernel_rfl
noncomputable def code170 : Code := match Tryz.f170.body with | some c => c | none => .skip
@[simp] theorem locs170 : C.locs 170 = [3, 5] := by kernel_rfl
@[simp] theorem ord170_4 : C.ord 170 4 = some ⟨[0, 1, 2, 3, 4, 5, 6, 7, 8, 9, 10], [], [], [(0, 3), (2, 5), (6, 5), (10, 3)], [], []⟩ := by kernel_rfl
theorem s_Plain {t : Str} {H : List Ob} (ht : t.length ≤ 1000) : callW C 324 [.str t] H = some (.bool (dec (Plain t)), H) := by
 apply Ret.dec
 rw [op324]
 simp [code324, Tryz.f324]
 refine WP_loop (fun k σ => ∃ (i : Nat) (r : Nat → R), i + k = t.length ∧ σ = ⟨r, 0, H⟩ ∧ r 0 = .val (.str t) ∧ r 3 = .val (.int .i64 i) ∧ ∀ j, j < i → ∀ c, t[j]? = some c → PlainB c) ?_ t.length _ ⟨0, _, by simp, rfl, by simp, by simp, by simp⟩
 rintro k σ ⟨i, r, hik, rfl, r0, r3, hall⟩
 cases k with
 | zero =>
  have hi : i = t.length := by omega
  subst hi
  simp [r0, r3]
  intro j c hc
  exact hall j (List.getElem?_eq_some_iff.1 hc).1 c hc
 | succ k =>
  have hi : i < t.length := by omega
  obtain ⟨c, hc⟩ : ∃ c, t[i]? = some c := ⟨t[i], by simp [hi]⟩
  have hc' : t[i] = c := (List.getElem?_eq_some_iff.1 hc).2
  have hw : IntKind.i64.wrap ((i : Int) + 1) = ((i : Int) + 1) := wrap_i64 (by omega) (by omega)
  by_cases h1 : (c.toNat : Int) < 32
  ·simp [r0, r3, hi, hc', h1]
   intro hp
   have := (hp i c hc).1
   omega
  ·by_cases h2 : (c.toNat : Int) > 126
   ·simp [r0, r3, hi, hc', h1, h2]
    intro hp
    have := (hp i c hc).2
    omega
   ·simp [r0, r3, hi, hc', h1, h2, hw]
    exact ⟨k, by omega, i + 1, by omega, by omega, all_step (P := fun _ c => PlainB c) hall hc ⟨by omega, by omega⟩⟩
theorem i_Plain {t : Str} {H : List Ob} (ht : t.length ≤ 1000) : callW C 289 [.str t] H = some (.bool (dec (Plain t)), H) := by
 apply Ret.dec
 rw [op289]
 simp [code289, Tryz.f289]
 refine WP_loop (fun k σ => ∃ (i : Nat) (r : Nat → R), i + k = t.length ∧ σ = ⟨r, 0, H⟩ ∧ r 0 = .val (.str t) ∧ r 5 = .val (.int .i64 t.length) ∧ r 6 = .val (.int .i64 i) ∧ ∀ j, j < i → ∀ c, t[j]? = some c → PlainB c) ?_ t.length _ ⟨0, _, by simp, rfl, by simp, by simp, by simp, by simp⟩
 rintro k σ ⟨i, r, hik, rfl, r0, r5, r6, hall⟩
 cases k with
 | zero =>
  have hi : i = t.length := by omega
  subst hi
  simp [r0, r5, r6]
  intro j c hc
  exact hall j (List.getElem?_eq_some_iff.1 hc).1 c hc
 | succ k =>
  have hi : i < t.length := by omega
  obtain ⟨c, hc⟩ : ∃ c, t[i]? = some c := ⟨t[i], by simp [hi]⟩
  have hc' : t[i] = c := (List.getElem?_eq_some_iff.1 hc).2
  have hw : IntKind.i64.wrap ((i : Int) + 1) = ((i : Int) + 1) := wrap_i64 (by omega) (by omega)
  by_cases h1 : (c.toNat : Int) < 32
  ·simp [r0, r5, r6, hi, hc', h1]
   intro hp
   have := (hp i c hc).1
   omega
  ·by_cases h2 : (c.toNat : Int) > 126
   ·simp [r0, r5, r6, hi, hc', h1, h2]
    intro hp
    have := (hp i c hc).2
    omega
   ·simp [r0, r5, r6, hi, hc', h1, h2, hw]
    exact ⟨k, by omega, i + 1, by omega, by omega, all_step (P := fun _ c => PlainB c) hall hc ⟨by omega, by omega⟩⟩
theorem s_Name {t : Str} {H : List Ob} : callW C 77 [.str t] H = some (.bool (dec (NameOk t)), H) := by
 apply Ret.dec
 rw [op77]
 by_cases g1 : (t.length : Int) < 1
 ·have g2 : ¬ NameOk t := fun h => by have := h.1; omega
  simp [code77, Tryz.f77, g1, g2]
 by_cases g2 : (t.length : Int) > 20
 ·have g3 : ¬ NameOk t := fun h => by have := h.2.1; omega
  simp [code77, Tryz.f77, g1, g2, g3]
 simp [code77, Tryz.f77, g1, g2]
 refine WP_loop (fun k σ => ∃ (i : Nat) (r : Nat → R), i + k = t.length ∧ σ = ⟨r, 0, H⟩ ∧ r 0 = .val (.str t) ∧ r 3 = .val (.int .i64 i) ∧ ∀ j, j < i → ∀ c, t[j]? = some c → LowB c ∨ (0 < j ∧ (DigB c ∨ c.toNat = 95))) ?_ t.length _ ⟨0, _, by simp, rfl, by simp, by simp, by simp⟩
 rintro k σ ⟨i, r, hik, rfl, r0, r3, hall⟩
 cases k with
 | zero =>
  have hi : i = t.length := by omega
  subst hi
  have hok : NameOk t := ⟨by omega, by omega, fun j c hc => hall j (List.getElem?_eq_some_iff.1 hc).1 c hc⟩
  simp [r0, r3, hok]
 | succ k =>
  have hi : i < t.length := by omega
  obtain ⟨c, hc⟩ : ∃ c, t[i]? = some c := ⟨t[i], by simp [hi]⟩
  have hc' : t[i] = c := (List.getElem?_eq_some_iff.1 hc).2
  have hw : IntKind.i64.wrap ((i : Int) + 1) = ((i : Int) + 1) := wrap_i64 (by omega) (by omega)
  have hgo : LowB c ∨ (0 < i ∧ (DigB c ∨ c.toNat = 95)) → ∃ k', k' < k + 1 ∧ ∃ i', i' + k' = t.length ∧ (i : Int) + 1 = i' ∧ ∀ j, j < i' → ∀ c, t[j]? = some c → LowB c ∨ (0 < j ∧ (DigB c ∨ c.toNat = 95)) := fun h =>
   ⟨k, by omega, i + 1, by omega, by omega, all_step (P := fun j c => LowB c ∨ (0 < j ∧ (DigB c ∨ c.toNat = 95))) hall hc h⟩
  by_cases h1 : LowB c
  ·have h1a : (c.toNat : Int) ≥ 97 := by have := h1.1; omega
   have h1b : (c.toNat : Int) ≤ 122 := by have := h1.2; omega
   simp [r0, r3, hi, hc', h1a, h1b, hw]
   exact hgo (.inl h1)
  have hl : (¬ (c.toNat : Int) ≥ 97) ∨ ((c.toNat : Int) ≥ 97 ∧ ¬ (c.toNat : Int) ≤ 122) := by unfold LowB at h1; omega
  have hno : ¬ (0 < i ∧ (DigB c ∨ c.toNat = 95)) → ¬ NameOk t := fun h hk => (hk.2.2 i c hc).elim h1 h
  by_cases h2 : i = 0
  ·have hno := hno (by omega)
   subst h2
   rcases hl with hl | ⟨hl, hl2⟩
   ·simp [r0, r3, hi, hc', hl, hno]
   ·simp [r0, r3, hi, hc', hl, hl2, hno]
  have h2' : ¬ (i : Int) = 0 := by omega
  by_cases h3 : DigB c
  ·have h3a : (c.toNat : Int) ≥ 48 := by have := h3.1; omega
   have h3b : (c.toNat : Int) ≤ 57 := by have := h3.2; omega
   have h3c : ¬ (c.toNat : Int) ≥ 97 := by omega
   simp [r0, r3, hi, hc', h2, h3a, h3b, h3c, hw]
   exact hgo (.inr ⟨by omega, .inl h3⟩)
  have hd : (¬ (c.toNat : Int) ≥ 48) ∨ ((c.toNat : Int) ≥ 48 ∧ ¬ (c.toNat : Int) ≤ 57) := by unfold DigB at h3; omega
  by_cases h4 : c.toNat = 95
  ·have := hgo (.inr ⟨by omega, .inr h4⟩)
   simp [r0, r3, hi, hc', h2, h4, hw]
   exact this
  ·have h4' : ¬ (c.toNat : Int) = 95 := by omega
   have hno := hno (fun h => h.2.elim h3 h4)
   rcases hl with hl | ⟨hl, hl2⟩ <;> rcases hd with hd | ⟨hd, hd2⟩
   ·simp [r0, r3, hi, hc', h2, h4', hl, hd, hno]
   ·simp [r0, r3, hi, hc', h2, h4', hl, hd, hd2, hno]
   ·simp [r0, r3, hi, hc', h2, h4', hl, hl2, hd, hno]
   ·simp [r0, r3, hi, hc', h2, h4', hl, hl2, hd, hd2, hno]
theorem lowC_up {c : UInt8} (h1 : 65 ≤ c.toNat) (h2 : c.toNat ≤ 90) : IntKind.u8.wrap ((c.toNat : Int) + 32) = ((lowC c).toNat : Int) := by
 have : lowC c = c + 32 := by unfold lowC; rw [if_pos ⟨h1, h2⟩]
 rw [this]
 unfold IntKind.wrap
 simp [IntKind.bits, IntKind.signed, UInt8.toNat_add]
theorem lowC_up32 {c : UInt8} (h1 : 65 ≤ c.toNat) (h2 : c.toNat ≤ 90) : (lowC c).toNat = c.toNat + 32 := by
 have : lowC c = c + 32 := by unfold lowC; rw [if_pos ⟨h1, h2⟩]
 rw [this, UInt8.toNat_add]
 have : c.toNat + 32 < 256 := by omega
 simp
 omega
theorem lowC_no {c : UInt8} (h : ¬ (65 ≤ c.toNat ∧ c.toNat ≤ 90)) : lowC c = c := by unfold lowC; rw [if_neg h]
theorem u8_32 {c : UInt8} : c = 32 ↔ c.toNat = 32 := ⟨fun h => by rw [h]; rfl, fun h => UInt8.toNat_inj.1 h⟩
theorem foldl_step {t : Str} {i : Nat} {c : UInt8} (h : t[i]? = some c) (f : Str → UInt8 → Str) (b : Str) : (t.take (i + 1)).foldl f b = f ((t.take i).foldl f b) c := by
 rw [take_get h, List.foldl_append]
 rfl
theorem endSp_last {b : Str} {d : UInt8} (h : b.getLast? = some d) : endSp b = true ↔ d = 32 := by
 unfold endSp
 rw [h]
 simp
theorem last_some {b : Str} (h : b ≠ []) : ∃ d, b.getLast? = some d := ⟨b.getLast h, List.getLast?_eq_some_getLast h⟩
theorem s_Norm {t : Str} {H : List Ob} : callW C 250 [.str t] H = some (.str (norm t), H) := by
 apply Ret.eq
 rw [op250]
 by_cases g1 : (t.length : Int) > 100
 ·have : norm t = [] := by unfold norm; rw [if_neg (by omega)]
  simp [code250, Tryz.f250, g1, this]
 have hp := s_Plain (t := t) (H := H) (by omega)
 by_cases g2 : Plain t
 rotate_left
 ·rw [dec_neg g2] at hp
  have : norm t = [] := by unfold norm; rw [dec_neg g2]; simp
  simp [code250, Tryz.f250, g1, hp, this]
 rw [dec_pos g2] at hp
 have hn : norm t = nfin (t.foldl nstep []) := by unfold norm; rw [if_pos ⟨by omega, dec_pos g2⟩]
 have hbz : ∀ i, ((t.take i).foldl nstep []).length ≤ 100 := fun i => by
  have := foldl_len (t.take i) []
  simp at this
  omega
 simp [code250, Tryz.f250, g1, hp, elemT, fillL, zerosL, St.new]
 refine WP_loop (fun k σ => ∃ (i : Nat) (r : Nat → R) (G : List Ob) (v : V), i + k = t.length ∧ σ = ⟨r, 0, G⟩ ∧ r 0 = .val (.str t) ∧ r 3 = .val v ∧ r 4 = .val (.int .i64 i) ∧ Bs H G v ((t.take i).foldl nstep [])) ?_ t.length _ ⟨0, _, _, _, by simp, rfl, by simp, by simp, by simp, Bs.init⟩
 rintro k σ ⟨i, r, G, v, hik, rfl, r0, r3, r4, hB⟩
 have hbl := hbz i
 generalize hb : (t.take i).foldl nstep [] = b at hB hbl
 have hw1 : IntKind.i64.wrap ((b.length : Int) - 1) = (b.length : Int) - 1 := wrap_i64 (by omega) (by omega)
 cases k with
 | zero =>
  have hi : i = t.length := by omega
  subst hi
  rw [List.take_length] at hb
  rw [hb] at hn
  obtain ⟨TT, rfl⟩ := hB.ext
  by_cases hb0 : b = []
  ·subst hb0
   obtain ⟨id, rfl, hst, hsl⟩ := hB.cut (n := 0) (Nat.le_refl _)
   simp [r0, r3, r4, hsl, isByte, bys_mapM, hn, nfin, endSp]
  ·obtain ⟨d, hd⟩ := last_some hb0
   have hb1 : 0 < b.length := List.length_pos_iff.2 hb0
   have hb2 : 0 < (b.length : Int) := by omega
   have hb3 : (1 : Int) ≤ (b.length : Int) := by omega
   have hb5 : (b.length : Int) - 1 < (b.length : Int) := by omega
   have hb4 : ((b.length : Int) - 1).toNat = b.length - 1 := by omega
   obtain ⟨id, rfl, hld⟩ := hB.last hd
   by_cases hd32 : d = 32
   ·obtain ⟨_, hv, hst, hsl⟩ := hB.cut (n := b.length - 1) (by omega)
    cases hv
    have he : nfin b = b.take (b.length - 1) := by unfold nfin; rw [if_pos ((endSp_last hd).2 hd32), List.dropLast_eq_take]
    have hd' : (d.toNat : Int) = 32 := by rw [hd32]; rfl
    simp [r0, r3, r4, hb0, hb1, hb2, hb3, hb4, hb5, hw1, hld, hd', hst, hsl, isByte, bys_mapM, hn, he]
   ·obtain ⟨_, hv, hst, hsl⟩ := hB.cut (n := b.length) (Nat.le_refl _)
    cases hv
    have he : nfin b = b := by unfold nfin; rw [if_neg (fun h => hd32 ((endSp_last hd).1 h))]
    have hd' : ¬ (d.toNat : Int) = 32 := by have := mt u8_32.2 hd32; omega
    rw [List.take_length] at hsl
    simp [r0, r3, r4, hb0, hb1, hb2, hb3, hb4, hb5, hw1, hld, hd', hst, hsl, isByte, bys_mapM, hn, he]
 | succ k =>
  have hi : i < t.length := by omega
  obtain ⟨c, hc⟩ : ∃ c, t[i]? = some c := ⟨t[i], by simp [hi]⟩
  have hc' : t[i] = c := (List.getElem?_eq_some_iff.1 hc).2
  have hw : IntKind.i64.wrap ((i : Int) + 1) = ((i : Int) + 1) := wrap_i64 (by omega) (by omega)
  have hfs := foldl_step hc nstep []
  rw [hb] at hfs
  have hgo : ∀ G' v', Bs H G' v' (nstep b c) → ∃ k', k' < k + 1 ∧ ∃ i', i' + k' = t.length ∧ (i : Int) + 1 = i' ∧ Bs H G' v' ((t.take i').foldl nstep []) := fun G' v' h =>
   ⟨k, by omega, i + 1, by omega, by omega, by rw [hfs]; exact h⟩
  by_cases hup : 65 ≤ c.toNat ∧ c.toNat ≤ 90
  ·have hu1 : (c.toNat : Int) ≥ 65 := by omega
   have hu2 : (c.toNat : Int) ≤ 90 := by omega
   have hlw := lowC_up hup.1 hup.2
   have hl32 : ¬ ((lowC c).toNat : Int) = 32 := by rw [lowC_up32 hup.1 hup.2]; omega
   have hns : nstep b c = b ++ [lowC c] := by unfold nstep; rw [if_neg (fun h => hl32 (by rw [u8_32.1 h.1]; rfl))]
   obtain ⟨v', G', ha, hB'⟩ := hB.push (by omega) (c := lowC c) (d := .int .u8) (z := [.int .u8 0]) rfl
   rw [← hns] at hB'
   simp [r0, r3, r4, hi, hc', hu1, hu2, hlw, hl32, elemT, fillL, zerosL, St.new, badArg, ha, hw]
   obtain ⟨k', q1, i', q2, q3, q4⟩ := hgo G' v' hB'
   exact ⟨k', q1, i', q2, _, _, ⟨rfl, rfl⟩, by simp [r0], _, by simp [r3], by simp [q3], q4⟩
  have hlc := lowC_no hup
  have hu : (¬ (c.toNat : Int) ≥ 65) ∨ ((c.toNat : Int) ≥ 65 ∧ ¬ (c.toNat : Int) ≤ 90) := by omega
  by_cases h32 : c = 32
  ·have h32' : (c.toNat : Int) = 32 := by rw [h32]; rfl
   have hu1 : ¬ (c.toNat : Int) ≥ 65 := by omega
   by_cases hb0 : b = []
   ·have hns : nstep b c = b := by unfold nstep; rw [if_pos ⟨by rw [hlc, h32], .inl hb0⟩]
    rw [hns] at hgo
    have hbl0 : b.length = 0 := by rw [hb0]; rfl
    have := hgo G v hB
    simp [r0, r3, r4, hi, hc', h32', hB.len, hbl0, hw]
    obtain ⟨k', q1, i', q2, q3, q4⟩ := this
    exact ⟨k', q1, i', q2, _, _, ⟨rfl, rfl⟩, by simp [r0], _, by simp [r3], by simp [q3], q4⟩
   ·obtain ⟨d, hd⟩ := last_some hb0
    have hb1 : 0 < b.length := List.length_pos_iff.2 hb0
    have hb3 : (1 : Int) ≤ (b.length : Int) := by omega
    have hb5 : (b.length : Int) - 1 < (b.length : Int) := by omega
    have hb4 : ((b.length : Int) - 1).toNat = b.length - 1 := by omega
    obtain ⟨id, hv, hld⟩ := hB.last hd
    have hB0 := hB
    subst hv
    by_cases hd32 : d = 32
    ·have hns : nstep b c = b := by unfold nstep; rw [if_pos ⟨by rw [hlc, h32], .inr ((endSp_last hd).2 hd32)⟩]
     rw [hns] at hgo
     have hd' : (d.toNat : Int) = 32 := by rw [hd32]; rfl
     have := hgo G _ hB
     simp [r0, r3, r4, hi, hc', h32', hb0, hb1, hb3, hb4, hb5, hw1, hld, hd', hw]
     obtain ⟨k', q1, i', q2, q3, q4⟩ := this
     exact ⟨k', q1, i', q2, _, _, ⟨rfl, rfl⟩, by simp [r0], _, by simp [r3], by simp [q3], q4⟩
    ·have hns : nstep b c = b ++ [c] := by unfold nstep; rw [if_neg (fun h => h.2.elim hb0 (fun h => hd32 ((endSp_last hd).1 h))), hlc]
     have hd' : ¬ (d.toNat : Int) = 32 := by have := mt u8_32.2 hd32; omega
     obtain ⟨v', G', ha, hB'⟩ := hB.push (by omega) (c := c) (d := .int .u8) (z := [.int .u8 0]) rfl
     rw [← hns] at hB'
     rw [h32'] at ha
     simp [r0, r3, r4, hi, hc', h32', hb0, hb1, hb3, hb4, hb5, hw1, hld, hd', elemT, fillL, zerosL, St.new, badArg, ha, hw]
     obtain ⟨k', q1, i', q2, q3, q4⟩ := hgo G' v' hB'
     exact ⟨k', q1, i', q2, _, _, ⟨rfl, rfl⟩, by simp [r0], _, by simp [r3], by simp [q3], q4⟩
  ·have h32' : ¬ (c.toNat : Int) = 32 := by have := mt u8_32.2 h32; omega
   have hns : nstep b c = b ++ [c] := by unfold nstep; rw [if_neg (fun h => h32 (hlc ▸ h.1)), hlc]
   obtain ⟨v', G', ha, hB'⟩ := hB.push (by omega) (c := c) (d := .int .u8) (z := [.int .u8 0]) rfl
   rw [← hns] at hB'
   have := hgo G' v' hB'
   rcases hu with hu | ⟨hu, hu2⟩
   ·simp [r0, r3, r4, hi, hc', hu, h32', elemT, fillL, zerosL, St.new, badArg, ha, hw]
    obtain ⟨k', q1, i', q2, q3, q4⟩ := this
    exact ⟨k', q1, i', q2, _, _, ⟨rfl, rfl⟩, by simp [r0], _, by simp [r3], by simp [q3], q4⟩
   ·simp [r0, r3, r4, hi, hc', hu, hu2, h32', elemT, fillL, zerosL, St.new, badArg, ha, hw]
    obtain ⟨k', q1, i', q2, q3, q4⟩ := this
    exact ⟨k', q1, i', q2, _, _, ⟨rfl, rfl⟩, by simp [r0], _, by simp [r3], by simp [q3], q4⟩
def EndsWith (s w : Str) : Prop := w.length ≤ s.length ∧ s.drop (s.length - w.length) = w
theorem hasSuffix {s w : Str} {H : List Ob} (hs : s.length ≤ 1000000) (hw : w.length ≤ 1000000) : callW C 359 [.str s, .str w] H = some (.bool (dec (EndsWith s w)), H) := by
 apply Ret.dec
 rw [op359]
 by_cases h1 : (s.length : Int) ≥ w.length
 ·have hw1 : IntKind.i64.wrap ((s.length : Int) - w.length) = (s.length : Int) - w.length := wrap_i64 (by omega) (by omega)
  have h2 : (w.length : Int) ≤ (s.length : Int) := h1
  have h3 : ((s.length : Int) - w.length).toNat = s.length - w.length := by omega
  have h4 : (0 : Int) ≤ (s.length : Int) - w.length := by omega
  have h5 : w.length ≤ s.length := by omega
  by_cases h6 : s.drop (s.length - w.length) = w
  ·have hn : EndsWith s w := ⟨h5, h6⟩
   simp [code359, Tryz.f359, h1, h2, h3, h4, h5, hw1, h6, hn]
  ·have hn : ¬ EndsWith s w := fun h => h6 h.2
   simp [code359, Tryz.f359, h1, h2, h3, h4, h5, hw1, h6, hn]
 ·have hn : ¬ EndsWith s w := fun h => h1 (by have := h.1; omega)
  simp [code359, Tryz.f359, h1, hn]
noncomputable def trimEnd (s w : Str) : Str := if dec (EndsWith s w) = true then s.take (s.length - w.length) else s
theorem trimSuffixL {s w : Str} {H : List Ob} (hs : s.length ≤ 1000000) (hw : w.length ≤ 1000000) : callW C 338 [.str s, .str w] H = some (.str (trimEnd s w), H) := by
 apply Ret.eq
 rw [op338]
 have hc := hasSuffix (H := H) hs hw
 by_cases h : EndsWith s w
 ·rw [dec_pos h] at hc
  have h0 := h.1
  have hw1 : IntKind.i64.wrap ((s.length : Int) - w.length) = (s.length : Int) - w.length := wrap_i64 (by omega) (by omega)
  have h2 : (w.length : Int) ≤ (s.length : Int) := by omega
  have h3 : ((s.length : Int) - w.length).toNat = s.length - w.length := by omega
  have ht : trimEnd s w = s.take (s.length - w.length) := by unfold trimEnd; rw [dec_pos h]; rfl
  simp [code338, Tryz.f338, hc, hw1, h2, h3, ht]
 ·rw [dec_neg h] at hc
  have ht : trimEnd s w = s := by unfold trimEnd; rw [dec_neg h]; rfl
  simp [code338, Tryz.f338, hc, ht]
theorem trimEnd_sp {s : Str} : trimEnd s [32] = nfin s := by
 have he : EndsWith s [32] ↔ endSp s = true := by
  unfold EndsWith endSp
  cases hl : s.getLast? with
  | none =>
   have : s = [] := by simpa using hl
   subst this
   simp
  | some d =>
   have hne : s ≠ [] := by rintro rfl; simp at hl
   have h1 : 1 ≤ s.length := List.length_pos_iff.2 hne
   rw [List.getLast?_eq_getElem?] at hl
   have h2 : s.drop (s.length - 1) = [d] := by
    apply List.ext_getElem?
    intro j
    rw [List.getElem?_drop]
    cases j with
    | zero => simpa using hl
    | succ j => simp; omega
   simp [h1, h2]
 unfold trimEnd nfin
 by_cases h : endSp s = true
 ·rw [dec_pos (he.2 h), if_pos rfl, if_pos h, List.dropLast_eq_take]
  rfl
 ·rw [dec_neg (mt he.1 h), if_neg (by simp), if_neg h]
theorem trimSp {s : Str} {H : List Ob} (hs : s.length ≤ 1000000) : callW C 290 [.str s, .str [32]] H = some (.str (nfin s), H) := by
 apply Ret.eq
 rw [op290]
 have hc := trimSuffixL (H := H) hs (w := [32]) (by simp)
 rw [trimEnd_sp] at hc
 simp [code290, Tryz.f290, hc]
theorem i_Norm {t : Str} {H : List Ob} : callW C 211 [.str t] H = some (.str (norm t), H) := by
 apply Ret.eq
 rw [op211]
 by_cases g1 : (t.length : Int) > 100
 ·have : norm t = [] := by unfold norm; rw [if_neg (by omega)]
  simp [code211, Tryz.f211, g1, this]
 have hp := i_Plain (t := t) (H := H) (by omega)
 by_cases g2 : Plain t
 rotate_left
 ·rw [dec_neg g2] at hp
  have : norm t = [] := by unfold norm; rw [dec_neg g2]; simp
  simp [code211, Tryz.f211, g1, hp, this]
 rw [dec_pos g2] at hp
 have hn : norm t = nfin (t.foldl nstep []) := by unfold norm; rw [if_pos ⟨by omega, dec_pos g2⟩]
 have hbz : ∀ i, ((t.take i).foldl nstep []).length ≤ 100 := fun i => by
  have := foldl_len (t.take i) []
  simp at this
  omega
 simp [code211, Tryz.f211, g1, hp, elemT, fillL, zerosL, St.new]
 refine WP_loop (fun k σ => ∃ (i : Nat) (r : Nat → R) (G : List Ob) (v : V), i + k = t.length ∧ σ = ⟨r, 0, G⟩ ∧ r 0 = .val (.str t) ∧ r 3 = .val v ∧ r 16 = .val (.int .i64 t.length) ∧ r 17 = .val (.int .i64 i) ∧ Bs H G v ((t.take i).foldl nstep [])) ?_ t.length _ ⟨0, _, _, _, by simp, rfl, by simp, by simp, by simp, by simp, Bs.init⟩
 rintro k σ ⟨i, r, G, v, hik, rfl, r0, r3, r16, r17, hB⟩
 have hbl := hbz i
 generalize hb : (t.take i).foldl nstep [] = b at hB hbl
 have hw1 : IntKind.i64.wrap ((b.length : Int) - 1) = (b.length : Int) - 1 := wrap_i64 (by omega) (by omega)
 cases k with
 | zero =>
  have hi : i = t.length := by omega
  subst hi
  rw [List.take_length] at hb
  rw [hb] at hn
  obtain ⟨TT, rfl⟩ := hB.ext
  obtain ⟨id, rfl, hst, hsl⟩ := hB.cut (n := b.length) (Nat.le_refl _)
  rw [List.take_length] at hsl
  have hts := trimSp (s := b) (H := H ++ TT) (by omega)
  simp [r0, r3, r16, r17, hsl, isByte, bys_mapM, hn, hts]
 | succ k =>
  have hi : i < t.length := by omega
  obtain ⟨c, hc⟩ : ∃ c, t[i]? = some c := ⟨t[i], by simp [hi]⟩
  have hc' : t[i] = c := (List.getElem?_eq_some_iff.1 hc).2
  have hw : IntKind.i64.wrap ((i : Int) + 1) = ((i : Int) + 1) := wrap_i64 (by omega) (by omega)
  have hfs := foldl_step hc nstep []
  rw [hb] at hfs
  have hgo : ∀ G' v', Bs H G' v' (nstep b c) → ∃ k', k' < k + 1 ∧ ∃ i', i' + k' = t.length ∧ (i : Int) + 1 = i' ∧ Bs H G' v' ((t.take i').foldl nstep []) := fun G' v' h =>
   ⟨k, by omega, i + 1, by omega, by omega, by rw [hfs]; exact h⟩
  by_cases hup : 65 ≤ c.toNat ∧ c.toNat ≤ 90
  ·have hu1 : (c.toNat : Int) ≥ 65 := by omega
   have hu2 : (c.toNat : Int) ≤ 90 := by omega
   have hlw := lowC_up hup.1 hup.2
   have hl32 : ¬ ((lowC c).toNat : Int) = 32 := by rw [lowC_up32 hup.1 hup.2]; omega
   have hns : nstep b c = b ++ [lowC c] := by unfold nstep; rw [if_neg (fun h => hl32 (by rw [u8_32.1 h.1]; rfl))]
   obtain ⟨v', G', ha, hB'⟩ := hB.push (by omega) (c := lowC c) (d := .int .u8) (z := [.int .u8 0]) rfl
   rw [← hns] at hB'
   simp [r0, r3, r16, r17, hi, hc', hu1, hu2, hlw, hl32, elemT, fillL, zerosL, St.new, badArg, ha, hw]
   obtain ⟨k', q1, i', q2, q3, q4⟩ := hgo G' v' hB'
   exact ⟨k', q1, i', q2, _, _, ⟨rfl, rfl⟩, by simp [r0], _, by simp [r3], by simp [r16], by simp [q3], q4⟩
  have hlc := lowC_no hup
  have hu : (¬ (c.toNat : Int) ≥ 65) ∨ ((c.toNat : Int) ≥ 65 ∧ ¬ (c.toNat : Int) ≤ 90) := by omega
  by_cases h32 : c = 32
  ·have h32' : (c.toNat : Int) = 32 := by rw [h32]; rfl
   have hu1 : ¬ (c.toNat : Int) ≥ 65 := by omega
   by_cases hb0 : b = []
   ·have hns : nstep b c = b := by unfold nstep; rw [if_pos ⟨by rw [hlc, h32], .inl hb0⟩]
    rw [hns] at hgo
    have hbl0 : b.length = 0 := by rw [hb0]; rfl
    simp [r0, r3, r16, r17, hi, hc', h32', hB.len, hbl0, hw]
    obtain ⟨k', q1, i', q2, q3, q4⟩ := hgo G v hB
    exact ⟨k', q1, i', q2, _, _, ⟨rfl, rfl⟩, by simp [r0], _, by simp [r3], by simp [r16], by simp [q3], q4⟩
   ·obtain ⟨d, hd⟩ := last_some hb0
    have hb1 : 0 < b.length := List.length_pos_iff.2 hb0
    have hb3 : (1 : Int) ≤ (b.length : Int) := by omega
    have hb5 : (b.length : Int) - 1 < (b.length : Int) := by omega
    have hb4 : ((b.length : Int) - 1).toNat = b.length - 1 := by omega
    obtain ⟨id, hv, hld⟩ := hB.last hd
    subst hv
    by_cases hd32 : d = 32
    ·have hns : nstep b c = b := by unfold nstep; rw [if_pos ⟨by rw [hlc, h32], .inr ((endSp_last hd).2 hd32)⟩]
     rw [hns] at hgo
     have hd' : (d.toNat : Int) = 32 := by rw [hd32]; rfl
     simp [r0, r3, r16, r17, hi, hc', h32', hb0, hb1, hb3, hb4, hb5, hw1, hld, hd', hw]
     obtain ⟨k', q1, i', q2, q3, q4⟩ := hgo G _ hB
     exact ⟨k', q1, i', q2, _, _, ⟨rfl, rfl⟩, by simp [r0], _, by simp [r3], by simp [r16], by simp [q3], q4⟩
    ·have hns : nstep b c = b ++ [c] := by unfold nstep; rw [if_neg (fun h => h.2.elim hb0 (fun h => hd32 ((endSp_last hd).1 h))), hlc]
     have hd' : ¬ (d.toNat : Int) = 32 := by have := mt u8_32.2 hd32; omega
     obtain ⟨v', G', ha, hB'⟩ := hB.push (by omega) (c := c) (d := .int .u8) (z := [.int .u8 0]) rfl
     rw [← hns] at hB'
     rw [h32'] at ha
     simp [r0, r3, r16, r17, hi, hc', h32', hb0, hb1, hb3, hb4, hb5, hw1, hld, hd', elemT, fillL, zerosL, St.new, badArg, ha, hw]
     obtain ⟨k', q1, i', q2, q3, q4⟩ := hgo G' v' hB'
     exact ⟨k', q1, i', q2, _, _, ⟨rfl, rfl⟩, by simp [r0], _, by simp [r3], by simp [r16], by simp [q3], q4⟩
  ·have h32' : ¬ (c.toNat : Int) = 32 := by have := mt u8_32.2 h32; omega
   have hns : nstep b c = b ++ [c] := by unfold nstep; rw [if_neg (fun h => h32 (hlc ▸ h.1)), hlc]
   obtain ⟨v', G', ha, hB'⟩ := hB.push (by omega) (c := c) (d := .int .u8) (z := [.int .u8 0]) rfl
   rw [← hns] at hB'
   obtain ⟨k', q1, i', q2, q3, q4⟩ := hgo G' v' hB'
   rcases hu with hu | ⟨hu, hu2⟩
   ·simp [r0, r3, r16, r17, hi, hc', hu, h32', elemT, fillL, zerosL, St.new, badArg, ha, hw]
    exact ⟨k', q1, i', q2, _, _, ⟨rfl, rfl⟩, by simp [r0], _, by simp [r3], by simp [r16], by simp [q3], q4⟩
   ·simp [r0, r3, r16, r17, hi, hc', hu, hu2, h32', elemT, fillL, zerosL, St.new, badArg, ha, hw]
    exact ⟨k', q1, i', q2, _, _, ⟨rfl, rfl⟩, by simp [r0], _, by simp [r3], by simp [r16], by simp [q3], q4⟩
theorem s_Value {t : Str} {H : List Ob} : callW C 184 [.str t] H = some (.bool (dec (ValueOk t)), H) := by
 apply Ret.dec
 rw [op184]
 have hn := s_Norm (t := t) (H := H)
 by_cases g1 : (t.length : Int) ≥ 1
 ·by_cases g2 : (t.length : Int) ≤ 40
  ·by_cases g3 : norm t = []
   ·have hv : ¬ ValueOk t := fun h => h.2.2 g3
    simp [code184, Tryz.f184, g1, g2, hn, g3, hv]
   ·have hv : ValueOk t := ⟨by omega, by omega, g3⟩
    simp [code184, Tryz.f184, g1, g2, hn, g3, hv]
  ·have : ¬ ValueOk t := fun h => by have := h.2.1; omega
   simp [code184, Tryz.f184, g1, g2, this]
 ·have : ¬ ValueOk t := fun h => by have := h.1; omega
  simp [code184, Tryz.f184, g1, this]
theorem i_Value {t : Str} {H : List Ob} : callW C 207 [.str t] H = some (.bool (dec (ValueOk t)), H) := by
 apply Ret.dec
 rw [op207]
 have hn := i_Norm (t := t) (H := H)
 by_cases g1 : (t.length : Int) ≥ 1
 ·by_cases g2 : (t.length : Int) ≤ 40
  ·by_cases g3 : norm t = []
   ·have hv : ¬ ValueOk t := fun h => h.2.2 g3
    simp [code207, Tryz.f207, g1, g2, hn, g3, hv]
   ·have hv : ValueOk t := ⟨by omega, by omega, g3⟩
    simp [code207, Tryz.f207, g1, g2, hn, g3, hv]
  ·have : ¬ ValueOk t := fun h => by have := h.2.1; omega
   simp [code207, Tryz.f207, g1, g2, this]
 ·have : ¬ ValueOk t := fun h => by have := h.1; omega
  simp [code207, Tryz.f207, g1, this]
theorem prim_cmp {a b : Str} {H : List Ob} : callW C 382 [.str a, .str b] H = some (.int .i64 (Lib.compareBytes a b), H) :=
 callW_prim (pr := cmpPrim) rfl
theorem l_CompareString {a b : Str} {H : List Ob} : callW C 349 [.str a, .str b] H = some (.int .i64 (Lib.compareBytes a b), H) := by
 apply Ret.eq
 rw [op349]
 simp [code349, Tryz.f349, prim_cmp]
theorem l_Compare {a b : Str} {H : List Ob} : callW C 313 [.str a, .str b] H = some (.int .i64 (Lib.compareBytes a b), H) := by
 apply Ret.eq
 rw [op313]
 simp [code313, Tryz.f313, l_CompareString]
theorem i_byNorm {a b : Str} {H : List Ob} : callW C 238 [.str a, .str b] H = some (.int .i64 (Lib.compareBytes (norm a) (norm b)), H) := by
 apply Ret.eq
 rw [op238]
 have c1 := i_Norm (t := a) (H := H)
 have c2 := i_Norm (t := b) (H := H)
 simp [code238, Tryz.f238, c1, c2, l_Compare]
end Go.Proofs.Try0
end
section
namespace Go.Proofs.Try1
open Go Go.Lite
theorem progOk0 [Draws] : ProgOk Tryz.prog Try0.C := progB_sound Try0.mixed Try0.ok fun g pr h => by
 change Try0.primTab g = some pr at h
 unfold Try0.primTab at h
 split at h
 ·rename_i hg; subst hg; cases h; exact cmp_ok
 ·cases h
end Go.Proofs.Try1
end
section
namespace Go.Lite
open Go
variable [Draws]
theorem wpIn_count {ro : Option Nat} {n m : Nat} {P : Program} {c : Code} {Q : Exit → Act → World → Prop} {a : Act} {w : World} (h : c.wpIn (rf ro) n P Q a w) : c.wpIn (rf ro) m P Q a w :=
 fun b k cs h1 h2 _ => h b k cs h1 h2 (fun d hd => by cases hd)
theorem wp_round {P : Program} {C : Ctx} (hp : ProgOk P C) {f : Nat} {c : Code} {σ σ' : St} {μ : Mu} {β : List Nat} {a : Act} {w : World} {ex : Ex} {Q : Exit → Act → World → Prop} {ro : Option Nat} {n : Nat}
  (hs : Sim (C.locs f) σ μ β a w) (hc : CodeOk P C f a.tmps.size c) (h : execW C f c σ = some (ex, σ')) (hq : ∀ a' w', Leads (C.locs f) σ μ β a w σ' a' w' → Q (toExit ex) a' w') : c.wpIn (rf ro) n P Q a w := by
 obtain ⟨m, hm⟩ := execW_iff.1 h
 exact wpIn_count (exec_sound hp.ty (callN_ok hp m) c hs hc hm hq)
end Go.Lite
end
