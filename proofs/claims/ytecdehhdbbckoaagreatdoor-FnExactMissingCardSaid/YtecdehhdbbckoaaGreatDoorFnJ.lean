/- What functions of the program compute, over the interpreter. Conditions: none but those that each theorem names. -/
import Derived.Test.YtecdehhdbbckoaaGreatDoorFnI
import Derived.Test.YtecdehhdbbckoaaGreatDoorGen

namespace Go.Proofs.Try1
open Go Go.Lite
set_option linter.unusedSimpArgs false
set_option linter.unusedVariables false

/-! ### How many marks -/
theorem cnt_bound {l : List U} (h : ∀ u ∈ l, cntP u ≤ 2 + 2 * wt u) : cntPs l ≤ 2 * (l.length + wts l) := by
  induction l with
  | nil => simp [cntPs]
  | cons u us ih =>
    have h1 := h u List.mem_cons_self
    have h2 := ih fun w hw => h w (List.mem_cons_of_mem _ hw)
    simp only [cntPs, wts, List.length_cons]
    omega
theorem cnt_strs {l : List Str} : cntPs (l.map strU) = l.length := by
  induction l with
  | nil => rfl
  | cons s l ih => simp only [List.map_cons, cntPs, ih, List.length_cons, strU, cntP]; omega
theorem cnt_classes {l : List PClass} : cntV (.lst (l.map PClass.u)) ≤ 2 * wt (.lst (l.map PClass.u)) := by
  simp only [cntV, wt]
  refine cnt_bound fun u hu => ?_
  obtain ⟨c, _, rfl⟩ := List.mem_map.1 hu
  simp only [PClass.u, cntP, cntPs, cnt_strs, wt, wts, List.length_map]
  omega
theorem cnt_rdns {l : List PRdn} : cntV (.lst (l.map PRdn.u)) ≤ 2 * wt (.lst (l.map PRdn.u)) := by
  simp only [cntV, wt]
  refine cnt_bound fun u hu => ?_
  obtain ⟨c, _, rfl⟩ := List.mem_map.1 hu
  simp only [PRdn.u, cntP, cntPs, wt, wts]
  omega
theorem cnt_attrs {l : List PAttr} : cntV (.lst (l.map PAttr.u)) ≤ 2 * wt (.lst (l.map PAttr.u)) := by
  simp only [cntV, wt]
  refine cnt_bound fun u hu => ?_
  obtain ⟨c, _, rfl⟩ := List.mem_map.1 hu
  simp only [PAttr.u, cntP, cntPs, cnt_strs, wt, wts, List.length_map]
  omega
theorem cnt_entry {e : PEntry} : cntV e.u ≤ 2 * wt e.u := by
  have h1 := cnt_rdns (l := e.dn)
  have h2 := cnt_attrs (l := e.attrs)
  simp only [PEntry.u, cntV_st, cntVs_cons, cntVs_nil, wt_st, wts_cons, wts_nil]
  omega
theorem missing_len {l : List PClass} {e : PEntry} : (missingOf l e).length ≤ 10 := by
  unfold missingOf
  split
  · rename_i h
    have h := (dec_true.1 h).1
    split
    · rename_i c hc
      unfold lacks
      have h1 := List.length_filter_le (fun t => (firstOf PAttr.name e.attrs t).isNone) c.must
      have hm : c ∈ l := by
        unfold mineOf at hc
        split at hc
        · exact List.mem_of_find?_eq_some hc
        · cases hc
      obtain ⟨j, hj, rfl⟩ := List.getElem_of_mem hm
      have := (h.1 j _ (List.getElem?_eq_getElem hj)).1.l1
      omega
    · simp
  · simp

/-! ### The copies -/
theorem toC {H : List Ob} {v : V} {l : List PClass} (h : AClasses H v l) (hw : wt (.lst (l.map PClass.u)) ≤ 1048576) :
    ∃ G x F, callW C 10 [v] H = some (x, G) ∧ (∃ S, G = H ++ S) ∧ AtF G (.slice shClass) [x] (.lst (l.map PClass.u)) F ∧ F.Nodup ∧ (∀ q ∈ F, H.length ≤ q) ∧ isOne x = true ∧ cellsOf x = some [x] := by
  obtain ⟨S, cs, F, c1, a1, n1, g1⟩ := to_ClassS H [v] _ h hw
  have a2 := a1
  obtain ⟨x, _, rfl, _⟩ := AtF_slice.1 a2
  have ho := ASl.one (AtF.at _ a1 : AClasses _ _ _)
  exact ⟨_, x, F, c1, ⟨S, rfl⟩, a1, n1, g1, ho⟩
theorem toE {H : List Ob} {v w : V} {e : PEntry} (h : At H shEntry [v, w] e.u) (hw : wt e.u ≤ 1048576) :
    ∃ G x y F, callW C 11 [.agg [v, w]] H = some (.agg [x, y], G) ∧ (∃ S, G = H ++ S) ∧ AtF G shEntry [x, y] e.u F ∧ F.Nodup ∧ (∀ q ∈ F, H.length ≤ q) ∧ (isOne x = true ∧ cellsOf x = some [x]) ∧ (isOne y = true ∧ cellsOf y = some [y]) := by
  obtain ⟨S, cs, F, c1, a1, n1, g1⟩ := to_Entry H [v, w] _ h hw
  obtain ⟨x, y, rfl, h1, h2⟩ := entry_at.1 (AtF.at _ a1)
  exact ⟨_, x, y, F, c1, ⟨S, rfl⟩, a1, n1, g1, h1.one, h2.one⟩

set_option maxRecDepth 20000 in
set_option maxHeartbeats 20000000 in
theorem law_ret {H : List Ob} {vl vd va : V} {l : List PClass} {e : PEntry} (hl : AClasses H vl l) (he : At H shEntry [vd, va] e.u) : Ret C 3 [vl, .agg [vd, va]] H fun r _ => r = .bool true := by
  rw [op3]
  obtain ⟨vd', va', hcs, hd, ha⟩ := entry_at.1 he
  cases hcs
  have hod := hd.one
  have hoa := ha.one
  have b1 := sz_ClassS H [vl] _ 1048576 hl (by omega)
  simp only [valOf, List.headD_cons] at b1
  by_cases g1 : wt (.lst (l.map PClass.u)) ≤ 1048576
  rotate_left
  · rw [if_neg g1] at b1
    simp at b1
    simp [code3, Tryz.f3, b1, hod, hoa]
  rw [if_pos g1] at b1
  have b2 := sz_Entry H [vd, va] _ (1048576 - wt (.lst (l.map PClass.u))) he (by omega)
  simp only [valOf] at b2
  have g1' : ¬ (((1048576 - wt (.lst (l.map PClass.u)) : Nat) : Int) < 0) := by omega
  generalize hLL : 1048576 - wt (.lst (l.map PClass.u)) = LL at b1 b2 g1'
  by_cases g2 : wt e.u ≤ LL
  rotate_left
  · rw [if_neg g2] at b2
    simp at b1 b2
    simp [code3, Tryz.f3, b1, b2, g1', hod, hoa]
  rw [if_pos g2] at b2
  have g2' : ¬ (((LL - wt e.u : Nat) : Int) < 0) := by omega
  generalize LL - wt e.u = MM at b2 g2'
  have hwe : wt e.u ≤ 1048576 := by omega
  -- the specification
  obtain ⟨G1, x1, F1, c1, ⟨S1, hG1⟩, a1, _, _, o1⟩ := toC hl g1
  have he1 : At G1 shEntry [vd, va] e.u := by rw [hG1]; exact he.ext
  obtain ⟨G2, y1, y2, F2, c2, ⟨S2, hG2⟩, a2, _, _, o2, o2'⟩ := toE he1 hwe
  have hx1 : AClasses G2 x1 l := by rw [hG2]; exact At.ext (AtF.at _ a1)
  obtain ⟨_, _, hcs, hy1, hy2⟩ := entry_at.1 (AtF.at _ a2)
  cases hcs
  obtain ⟨S3, w0, c3, hw0⟩ := s_Missing hx1 hy1 hy2
  obtain ⟨G3, hG3⟩ : ∃ G, G = G2 ++ S3 := ⟨_, rfl⟩
  rw [← hG3] at c3 hw0
  have e03 : ∃ S, G3 = H ++ S := ⟨S1 ++ S2 ++ S3, by rw [hG3, hG2, hG1]; simp⟩
  -- the program's own
  have hl3 : AClasses G3 vl l := by obtain ⟨S, rfl⟩ := e03; exact hl.ext
  obtain ⟨G4, x0, F4, c4, ⟨S4, hG4⟩, a4, n4, m4, o4⟩ := toC hl3 g1
  have he4 : At G4 shEntry [vd, va] e.u := by obtain ⟨S, rfl⟩ := e03; rw [hG4]; exact he.ext.ext
  obtain ⟨G5, z1, z2, F5, c5, ⟨S5, hG5⟩, a5, n5, m5, o5, o5'⟩ := toE he4 hwe
  have hx0 : AClasses G5 x0 l := by rw [hG5]; exact At.ext (AtF.at _ a4)
  obtain ⟨_, _, hcs, hz1, hz2⟩ := entry_at.1 (AtF.at _ a5)
  cases hcs
  obtain ⟨S6, g0, c6, F6, a6, n6, m6⟩ := i_Missing hx0 hz1 hz2
  obtain ⟨G6, hG6⟩ : ∃ G, G = G5 ++ S6 := ⟨_, rfl⟩
  rw [← hG6] at c6 a6
  have hw6 : AStrs G6 w0 (missingOf l e) := by rw [hG6, hG5, hG4]; exact hw0.ext.ext.ext
  obtain ⟨t7, ht7, c7⟩ := eq_StringS G6 [g0] [w0] _ _ (AtF.at _ a6) hw6
  obtain rfl := ht7.2 rfl
  simp only [valOf, List.headD_cons] at c7
  have e06 : ∃ S, G6 = H ++ S := by obtain ⟨S, hS⟩ := e03; exact ⟨S ++ S4 ++ S5 ++ S6, by rw [hG6, hG5, hG4, hS]; simp⟩
  have hl6 : AClasses G6 vl l := by obtain ⟨S, rfl⟩ := e06; exact hl.ext
  obtain ⟨G7, x7, F7, c8, ⟨S7, hG7⟩, a7, _, _, o7⟩ := toC hl6 g1
  have hx07 : AClasses G7 x0 l := by rw [hG7, hG6]; exact hx0.ext.ext
  obtain ⟨t9, ht9, c9⟩ := eq_ClassS G7 [x0] [x7] _ _ hx07 (AtF.at _ a7)
  obtain rfl := ht9.2 rfl
  simp only [valOf, List.headD_cons] at c9
  have he7 : At G7 shEntry [vd, va] e.u := by obtain ⟨S, rfl⟩ := e06; rw [hG7]; exact he.ext.ext
  obtain ⟨G8, u1, u2, F8, c10, ⟨S8, hG8⟩, a8, _, _, o8, o8'⟩ := toE he7 hwe
  have hz8 : At G8 shEntry [z1, z2] e.u := by rw [hG8, hG7, hG6]; exact (AtF.at _ a5).ext.ext.ext
  obtain ⟨t11, ht11, c11⟩ := eq_Entry G8 [z1, z2] [u1, u2] _ _ hz8 (AtF.at _ a8)
  obtain rfl := ht11.2 rfl
  simp only [valOf] at c11
  -- the marks
  have a4' : AtF G8 (.slice shClass) [x0] (.lst (l.map PClass.u)) F4 := by rw [hG8, hG7, hG6, hG5]; exact a4.ext.ext.ext.ext
  have a5' : AtF G8 shEntry [z1, z2] e.u F5 := by rw [hG8, hG7, hG6]; exact a5.ext.ext.ext
  have a6' : AtF G8 (.slice .str) [g0] (.lst ((missingOf l e).map strU)) F6 := by rw [hG8, hG7]; exact a6.ext.ext
  have hw8 : AStrs G3 w0 (missingOf l e) := hw0
  have hk1 := cnt_classes (l := l)
  have hk2 := cnt_entry (e := e)
  obtain ⟨G9, c12, l9, f9, a9⟩ := mk_ClassS G8 [x0] _ F4 1 a4' n4 (by omega)
  simp only [valOf, List.headD_cons] at c12
  have f4lt : ∀ q ∈ F4, q < G4.length := AtF.mem _ a4
  have f5lt : ∀ q ∈ F5, q < G5.length := AtF.mem _ a5
  have f6lt : ∀ q ∈ F6, q < G6.length := AtF.mem _ a6
  have a5'' : AtF G9 shEntry [z1, z2] e.u F5 := AtF.frame _ (fun q hq => f9 q fun h => by have := f4lt q h; have := m5 q hq; omega) a5'
  obtain ⟨G10, c13, l10, f10, a10⟩ := mk_Entry G9 [z1, z2] _ F5 (1 + cntV (.lst (l.map PClass.u))) a5'' n5 (by omega)
  simp only [valOf] at c13
  have l45 : G4.length ≤ G5.length := by rw [hG5]; simp
  have l34 : G3.length ≤ G4.length := by rw [hG4]; simp
  have l56 : G5.length ≤ G6.length := by rw [hG6]; simp
  have h810 : ∀ q, q ∉ F4 → q ∉ F5 → G10[q]? = G8[q]? := fun q h1 h2 => by rw [f10 q h2, f9 q h1]
  have a6'' : AtF G10 (.slice .str) [g0] (.lst ((missingOf l e).map strU)) F6 := AtF.frame _ (fun q hq => h810 q (fun h => by have := f4lt q h; have := m6 q hq; omega) (fun h => by have := f5lt q h; have := m6 q hq; omega)) a6'
  have e38 : ∃ S, G8 = G3 ++ S := ⟨S4 ++ S5 ++ S6 ++ S7 ++ S8, by rw [hG8, hG7, hG6, hG5, hG4]; simp⟩
  have up10 : ∀ (q : Nat) o, G3[q]? = some o → G10[q]? = some o := fun q o hq => by
    have hql := (List.getElem?_eq_some_iff.1 hq).1
    rw [h810 q (fun h => by have := m4 q h; omega) (fun h => by have := m5 q h; omega)]
    obtain ⟨S, hS⟩ := e38
    rw [hS]
    exact up_append _ _ hq
  obtain ⟨t14, ht14, c14⟩ := eq_StringS G10 [g0] [w0] _ _ (AtF.at _ a6'') (hw0.up up10)
  obtain rfl := ht14.2 rfl
  simp only [valOf, List.headD_cons] at c14
  have hlen := missing_len (l := l) (e := e)
  have hcv : cntV (.lst ((missingOf l e).map strU)) = (missingOf l e).length := by simp only [cntV, cnt_strs]
  obtain ⟨G11, c15, l11, f11, a11⟩ := mk_StringS G10 [g0] _ F6 1 a6'' n6 (by omega)
  have c16 := held_StringS G11 [g0] _ 1 (AtF.at _ a11) (by omega)
  simp only [valOf, List.headD_cons] at c15 c16
  -- the second call
  have up11 : ∀ (q : Nat) o, G3[q]? = some o → G11[q]? = some o := fun q o hq => by
    have hql := (List.getElem?_eq_some_iff.1 hq).1
    rw [f11 q (fun h => by have := m6 q h; omega)]
    exact up10 q o hq
  have upH : ∀ (q : Nat) o, H[q]? = some o → G11[q]? = some o := fun q o hq => up11 q o (by obtain ⟨S, rfl⟩ := e03; exact up_append _ _ hq)
  obtain ⟨G12, x12, F12, c17, ⟨S12, hG12⟩, a12, _, _, o12⟩ := toC (hl.up upH) g1
  have he12 : At G12 shEntry [vd, va] e.u := by rw [hG12]; exact (he.up upH).ext
  obtain ⟨G13, y13, z13, F13, c18, ⟨S13, hG13⟩, a13, _, _, o13, o13'⟩ := toE he12 hwe
  have hx13 : AClasses G13 x12 l := by rw [hG13]; exact At.ext (AtF.at _ a12)
  obtain ⟨_, _, hcs, hy13, hz13⟩ := entry_at.1 (AtF.at _ a13)
  cases hcs
  obtain ⟨S14, h0, c19, F14, a14, _, _⟩ := i_Missing hx13 hy13 hz13
  obtain ⟨G14, hG14⟩ : ∃ G, G = G13 ++ S14 := ⟨_, rfl⟩
  rw [← hG14] at c19 a14
  have hw14 : AStrs G14 w0 (missingOf l e) := by rw [hG14, hG13, hG12]; exact (hw0.up up11).ext.ext.ext
  obtain ⟨t20, ht20, c20⟩ := eq_StringS G14 [h0] [w0] _ _ (AtF.at _ a14) hw14
  obtain rfl := ht20.2 rfl
  simp only [valOf, List.headD_cons] at c20
  have a11' := (AtF.at _ a11)
  have c21 := held_StringS G14 [g0] _ 1 (by rw [hG14, hG13, hG12]; exact a11'.ext.ext.ext) (show 1 + cntV (.lst ((missingOf l e).map strU)) ≤ 50000000 by omega)
  simp only [valOf, List.headD_cons] at c21
  -- all together
  generalize hk3 : 1 + cntV (.lst (l.map PClass.u)) + cntV e.u = K3 at c13
  generalize hk4 : 1 + cntV (.lst (l.map PClass.u)) = K4 at c12 c13
  generalize hk5 : 1 + cntV (.lst ((missingOf l e).map strU)) = K5 at c15 c16 c21
  have p3 : ¬ ((K3 : Int) < 0) := by omega
  have p5 : ¬ ((K5 : Int) < 0) := by omega
  clear hG1 hG2 hG3 hG4 hG5 hG6 hG7 hG8 hG12 hG13 hG14 e03 e06 e38 up10 up11 upH f9 f10 f11
  simp at b1 b2 c12 c15 c16 c21
  simp [code3, Tryz.f3, b1, b2, g1', g2', hod, hoa, c1, c2, c3, c4, c5, c6, c7, c8, c9, c10, c11, c12, c13, c14, c15, c16, c17, c18, c19, c20, c21, p3, p5, o5, o5', regionL_some, List.lookup]
end Go.Proofs.Try1

namespace Go.Proofs.Try1
open Go Go.Lite

/-- The law: for all arguments the call says 'true'. -/
theorem lawMissing {H : List Ob} {vs : List V} {xs : List D} (h : IsArgs H [.slice shClass, shEntry] vs xs) : ∃ H', callW C 3 vs H = some (.bool true, H') := by
  rcases vs with _ | ⟨v1, _ | ⟨v2, _ | ⟨v3, vs⟩⟩⟩ <;> rcases xs with _ | ⟨d1, _ | ⟨d2, _ | ⟨d3, xs⟩⟩⟩ <;> first | (exfalso; simp [IsArgs] at h; done) | skip
  obtain ⟨⟨cs1, e1, l1, i1⟩, ⟨cs2, e2, l2, i2⟩, _⟩ := h
  subst e1; subst e2
  obtain ⟨v, l, rfl, hu, hl⟩ := ASl.typed (f := PClass.u) (fun _ _ => class_typed) (Is.at _ i1)
  have h2 := Is.at _ i2
  obtain ⟨e, he⟩ := entry_typed h2
  rw [he] at h2
  obtain ⟨vd, va, rfl, _⟩ := entry_at.1 h2
  obtain ⟨r, H', hc, rfl⟩ := law_ret hl h2
  exact ⟨H', hc⟩
end Go.Proofs.Try1
