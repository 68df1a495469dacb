/- What functions of the program compute, over the interpreter. Conditions: none but those that each theorem names. -/
import Derived.Test.YtecdehhdbbckoaaGreatDoorFnH

namespace Go.Proofs.Try1
open Go Go.Lite
set_option linter.unusedSimpArgs false
set_option linter.unusedVariables false

theorem setRange_take {cells xs : List V} {i : Nat} (h : i ≤ cells.length) : (setRange cells i xs).take i = cells.take i := by
  unfold setRange
  rw [List.append_assoc, List.take_append_of_le_length (by simp; omega), List.take_take, Nat.min_self]
theorem obj_strs {G : List Ob} {id : Nat} {l : List Str} (h : G[id]? = some (.mk true 1 (l.map V.str))) (hl : l.length ≤ 1000000) (hs : ∀ s ∈ l, s.length ≤ maxLen) : AStrs G (.slc (some (id, 0)) l.length) l := by
  have := (Gs.strs (H := []) (G := G) (v := .slc (some (id, 0)) (l.map V.str).length) (l := l) ⟨G, id, rfl, by simp, h, rfl⟩ (by unfold maxLen; omega) hs).1
  simpa using this

set_option maxRecDepth 10000 in
set_option maxHeartbeats 8000000 in
theorem l_Delete {G0 : List Ob} {id : Nat} {l : List Str} {g : Nat} {a b : List V} (p : Str → Bool) (h : G0[id]? = some (.mk true 1 (l.map V.str))) (hl : l.length ≤ 1000) (hs : ∀ s ∈ l, s.length ≤ maxLen)
    (hg : ∀ G' : List Ob, G'.length = G0.length → (∀ q, q ≠ id → G'[q]? = G0[q]?) → ∀ x, callW C g (a ++ ([.str x] ++ b)) G' = some (.bool (p x), G')) :
    ∃ G' k cs, callW C 106 [.slc (some (id, 0)) l.length, .fn g a b] G0 = some (.slc (some (id, 0)) k, G') ∧ G'.length = G0.length ∧ (∀ q, q ≠ id → G'[q]? = G0[q]?) ∧
      G'[id]? = some (.mk true 1 cs) ∧ cs.length = l.length ∧ k = (l.filter fun x => !p x).length ∧ cs.take k = (l.filter fun x => !p x).map V.str := by
  suffices hs : Ret C 106 [.slc (some (id, 0)) l.length, .fn g a b] G0 fun w G' => ∃ k cs, w = .slc (some (id, 0)) k ∧ G'.length = G0.length ∧ (∀ q, q ≠ id → G'[q]? = G0[q]?) ∧
      G'[id]? = some (.mk true 1 cs) ∧ cs.length = l.length ∧ k = (l.filter fun x => !p x).length ∧ cs.take k = (l.filter fun x => !p x).map V.str by
    obtain ⟨w, G', hc, k, cs, rfl, h1⟩ := hs
    exact ⟨G', k, cs, hc, h1⟩
  rw [op106]
  obtain ⟨r, c1, hr⟩ := l_IndexFunc (obj_strs h (by omega) hs) p (fun x _ => hg G0 rfl (fun _ _ => rfl) x)
  rcases hr with ⟨k0, x0, hx0, hp0, hlt0, rfl⟩ | ⟨hn, rfl⟩
  rotate_left
  · have hf : (l.filter fun x => !p x) = l := by
      rw [List.filter_eq_self]
      intro x hx
      obtain ⟨j, hj, rfl⟩ := List.getElem_of_mem hx
      rw [hn j _ (List.getElem?_eq_getElem hj)]
      rfl
    rw [hf]
    simp [code106, Tryz.f106, c1]
    exact ⟨l.map V.str, h, by simp, by rw [List.take_of_length_le (by simp)]⟩
  have hk0 : k0 < l.length := (List.getElem?_eq_some_iff.1 hx0).1
  have hm1 : ¬ ((k0 : Int) = -1) := by omega
  have hw0 : IntKind.i64.wrap ((k0 : Int) + 1) = (k0 : Int) + 1 := wrap_i64 (by omega) (by omega)
  have hpre : (l.take (k0 + 1)).filter (fun x => !p x) = l.take k0 := by
    rw [take_get hx0, List.filter_append]
    have : (l.take k0).filter (fun x => !p x) = l.take k0 := by
      rw [List.filter_eq_self]
      intro x hx
      obtain ⟨j, hj, rfl⟩ := List.getElem_of_mem hx
      simp at hj
      rw [List.getElem_take, hlt0 j _ (by omega) (List.getElem?_eq_getElem (by omega))]
      rfl
    rw [this]
    simp [hp0]
  simp [code106, Tryz.f106, c1, hm1, hw0]
  refine WP_loop (fun m σ => ∃ (i j : Nat) (r : Nat → R) (G : List Ob) (cs : List Str), j + m = l.length ∧ σ = ⟨r, 0, G⟩ ∧ r 0 = .val (.slc (some (id, 0)) l.length) ∧ r 1 = .val (.fn g a b) ∧ r 5 = .val (.int .i64 i) ∧ r 6 = .val (.int .i64 j) ∧ i < j ∧ G.length = G0.length ∧ (∀ q, q ≠ id → G[q]? = G0[q]?) ∧
    G[id]? = some (.mk true 1 (cs.map V.str)) ∧ cs.length = l.length ∧ i = ((l.take j).filter fun x => !p x).length ∧ cs.take i = (l.take j).filter (fun x => !p x) ∧ cs.drop j = l.drop j) ?_ (l.length - (k0 + 1)) _
    ⟨k0, k0 + 1, _, G0, l, by omega, rfl, by simp, by simp, by simp, by simp, by omega, rfl, fun _ _ => rfl, h, rfl, by rw [hpre]; simp; omega, by rw [hpre], rfl⟩
  clear hm1 hw0
  rintro m σ ⟨i, j, r, G, cs, hjm, rfl, r0, r1, r5, r6, hij, hG1, hG2, hG3, hcs, hi, htk, hdr⟩
  have hid : id < G.length := (List.getElem?_eq_some_iff.1 hG3).1
  have hst : strideIs G id 1 = true := by simp [strideIs, hG3]
  cases m with
  | zero =>
    have hj : j = l.length := by omega
    subst hj
    rw [List.take_length] at hi htk
    have hil : i ≤ l.length := by omega
    have hnz : ¬ (l.length - i = 0) := by omega
    have hwa : ∀ r c, writeAt ⟨r, c, G⟩ (.hp id i) (zerosL LTstr (l.length - i)) = some ⟨r, c, G.set id (.mk true 1 (setRange (cs.map V.str) i (zerosL LTstr (l.length - i))))⟩ := by
      intro r c
      simp only [writeAt, hG3]
      rw [if_pos (by rw [zerosL_str, List.length_map]; omega)]
    have hst2 : ∀ o, strideIs (G.set id (.mk true 1 o)) id 1 = true := fun o => by simp [strideIs, hid]
    have hgl : ∀ o w, gcH G0 (G.set id o) w = G.set id o := fun o w => gcH_leq (by rw [List.length_set]; exact hG1)
    simp [r0, r1, r5, r6, hil, hst, elemT, hnz, hwa, hst2, hgl, -setRange]
    refine ⟨hG1, fun q hq => by rw [List.getElem?_set_ne (Ne.symm hq)]; exact hG2 q hq, setRange (cs.map V.str) i (zerosL LTstr (l.length - i)), by simp [hid, -setRange], by rw [setRange_len (by rw [zerosL_str, List.length_map]; omega), List.length_map, hcs], hi, ?_⟩
    rw [setRange_take (by rw [List.length_map]; omega), ← List.map_take, htk]
  | succ m =>
    have hj : j < l.length := by omega
    obtain ⟨x, hx⟩ : ∃ x, l[j]? = some x := ⟨l[j], List.getElem?_eq_getElem hj⟩
    have hxc : cs[j]? = some x := by
      have := congrArg (fun l => l[0]?) hdr
      simpa [hx] using this
    have ld := load1 (o := j) (v := .str x) hG3 (by simp [hxc])
    have c2 := hg G hG1 hG2 x
    simp only [List.singleton_append] at c2
    have hw : IntKind.i64.wrap ((j : Int) + 1) = (j : Int) + 1 := wrap_i64 (by omega) (by omega)
    have hw2 : IntKind.i64.wrap ((i : Int) + 1) = (i : Int) + 1 := wrap_i64 (by omega) (by omega)
    have hil : i < l.length := by omega
    have hdr' : cs.drop (j + 1) = l.drop (j + 1) := by
      have := congrArg (List.drop 1) hdr
      simpa [List.drop_drop, Nat.add_comm] using this
    have hft := filter_take hx fun x => !p x
    cases hp : p x with
    | true =>
      rw [hp] at c2 hft
      simp at hft
      simp [r0, r1, r5, r6, hj, ld, c2, hw]
      exact ⟨m, by omega, i, j + 1, by omega, _, G, ⟨rfl, rfl⟩, by simp [r0], by simp [r1], by simp [r5], by simp, by omega, hG1, hG2, cs, hG3, hcs, by rw [hft]; exact hi, by rw [hft]; exact htk, hdr'⟩
    | false =>
      rw [hp] at c2 hft
      simp at hft
      have st := store1 (v := .str x) (o := i) hG3 (by simp; omega) rfl rfl
      simp [r0, r1, r5, r6, hj, hil, ld, c2, hw, hw2, st]
      refine ⟨m, by omega, i + 1, j + 1, by omega, _, _, ⟨rfl, rfl⟩, by simp [r0], by simp [r1], by simp, by simp, by omega, by simpa using hG1, fun q hq => by rw [List.getElem?_set_ne (Ne.symm hq)]; exact hG2 q hq, cs.set i x, by rw [List.getElem?_set_self hid, List.map_set], by simpa using hcs, ?_, ?_, ?_⟩
      · rw [hft, List.length_append, ← hi]; rfl
      · rw [hft, ← htk, List.take_add_one, List.getElem?_set_self (by omega), List.take_set, List.set_eq_of_length_le (by simp; omega)]
        rfl
      · rw [List.drop_set_of_lt (by omega)]; exact hdr'
end Go.Proofs.Try1

namespace Go.Proofs.Try1
open Go Go.Lite
set_option linter.unusedSimpArgs false
set_option linter.unusedVariables false

theorem prefix_F {G : List Ob} {id k : Nat} {cs : List V} {l : List Str} (h : G[id]? = some (.mk true 1 cs)) (hk : k = l.length) (hc : cs.take k = l.map V.str) (hl : l.length ≤ maxLen) (hs : ∀ s ∈ l, s.length ≤ maxLen) : AtF G (.slice .str) [.slc (some (id, 0)) k] (.lst (l.map strU)) [id] := by
  have hlen : k ≤ cs.length := by
    have := congrArg List.length hc
    simp at this
    omega
  refine AtF_slice.2 ⟨_, _, rfl, rfl, by simpa using hl, .inr ⟨id, 0, cs, List.replicate l.length [], by simp [hk], h, by simp; omega, by simp, by simp, fun i x F hx hF => ?_⟩⟩
  rw [List.getElem?_map] at hx
  obtain ⟨s, hs', rfl⟩ := Option.map_eq_some_iff.1 hx
  have hi : i < l.length := (List.getElem?_eq_some_iff.1 hs').1
  rw [List.getElem?_replicate, if_pos hi] at hF
  cases hF
  refine AtF_str.2 ⟨⟨s, ?_, rfl, hs s (List.mem_of_getElem? hs')⟩, rfl⟩
  have h1 : cs[i]? = some (.str s) := by
    have := congrArg (fun l => l[i]?) hc
    simp only [List.getElem?_take_of_lt (show i < k by omega), List.getElem?_map, hs'] at this
    exact this
  obtain ⟨hi2, h1⟩ := List.getElem?_eq_some_iff.1 h1
  rw [Sh.size_str, Nat.zero_add, Nat.mul_one, List.drop_eq_getElem_cons hi2, h1]
  rfl

/-- A list of texts that a call hands back, in memory of its own. -/
def Back (H G : List Ob) (w : V) (l : List Str) : Prop := ∃ F, AtF G (.slice .str) [w] (.lst (l.map strU)) F ∧ F.Nodup ∧ ∀ q ∈ F, H.length ≤ q
theorem Back.nil {H G : List Ob} : Back H G (.slc none 0) [] := ⟨[], AtF_slice.2 ⟨_, _, rfl, rfl, by simp, .inl ⟨rfl, rfl, rfl⟩⟩, by simp, by simp⟩

set_option maxRecDepth 10000 in
set_option maxHeartbeats 4000000 in
theorem i_missing {H : List Ob} {ide : Nat} {own : Bool} {es : Nat} {vd va w1 w2 w3 : V} {c : PClass} {as' : List PAttr} (he : H[ide]? = some (.mk own es [vd, va])) (h : AAttrs H va as') (hl : as'.length ≤ 1000) (hp : as'.Pairwise fun a b => a.name < b.name)
    (h1 : AStrs H w1 c.must) (o2 : isOne w2 = true ∧ cellsOf w2 = some [w2]) (o3 : isOne w3 = true ∧ cellsOf w3 = some [w3]) (hm : c.must.length ≤ 1000) :
    ∃ T w, callW C 52 [.agg [.str c.name, w1, w2, w3], .ptr (some (ide, 0))] H = some (w, H ++ T) ∧ Back H (H ++ T) w (c.must.filter fun t => !decide (0 < (valsOf as' t).length)) := by
  suffices hs : Ret C 52 [.agg [.str c.name, w1, w2, w3], .ptr (some (ide, 0))] H fun q H' => ∃ T, H' = H ++ T ∧ Back H (H ++ T) q (c.must.filter fun t => !decide (0 < (valsOf as' t).length)) by
    obtain ⟨q, H', hc, T, rfl, hr⟩ := hs
    exact ⟨T, q, hc, hr⟩
  rw [op52]
  have hide : ide < H.length := (List.getElem?_eq_some_iff.1 he).1
  obtain ⟨T, w, c1, hown⟩ := l_Clone (h1.ext (T := [.mk true 1 [.ptr (some (ide, 0))]])) (by omega)
  rcases hown with ⟨rfl, hm0⟩ | ⟨T', id', hT, g1, g2, rfl⟩
  · have c2 : callW C 106 [.slc none 0, .fn 107 [] [.ptr (some (H.length, 0))]] (H ++ [.mk true 1 [.ptr (some (ide, 0))]] ++ T) = some (.slc none 0, H ++ [.mk true 1 [.ptr (some (ide, 0))]] ++ T) := by
      obtain ⟨r, c3, hr⟩ := l_IndexFunc (H := H ++ [.mk true 1 [.ptr (some (ide, 0))]] ++ T) (v := .slc none 0) (l := []) (g := 107) (a := []) (b := [.ptr (some (H.length, 0))]) (At_slice.2 ⟨_, _, rfl, rfl, by simp, .inl ⟨rfl, rfl⟩⟩) (fun _ => false) (fun x hx => by cases hx)
      have hr1 : r = -1 := by
        rcases hr with ⟨k, x, hx, _⟩ | ⟨_, rfl⟩
        · simp at hx
        · rfl
      subst hr1
      simp only [List.append_assoc, List.cons_append, List.nil_append] at c3 ⊢
      apply Ret.eq
      rw [op106]
      simp [code106, Tryz.f106, c3]
    simp only [List.append_assoc, List.cons_append, List.nil_append] at c1 c2
    have hgn : gcH H (H ++ .mk true 1 [.ptr (some (ide, 0))] :: T) (.slc none 0) = H := gcH_low trivial
    simp [code52, Tryz.f52, strideOf, c1, c2, h1.one, o2, o3, hm0, hgn]
    exact Back.nil
  · have hT' := List.append_cancel_left hT
    subst hT'
    rw [List.length_map] at c1
    have hob : (H ++ [.mk true 1 [.ptr (some (ide, 0))]] ++ T)[H.length]? = some (.mk true 1 [.ptr (some (ide, 0))]) := by rw [List.append_assoc]; simp
    have hg1 : H.length + 1 ≤ id' := by simpa using g1
    obtain ⟨G', k, cs, c2, k1, k2, k3, k4, k5, k6⟩ := l_Delete (g := 107) (a := []) (b := [.ptr (some (H.length, 0))]) (fun t => decide (0 < (valsOf as' t).length)) g2 hm (strs_max h1) (fun G' e1 e2 x => by
      have hup : ∀ (q : Nat) o, H[q]? = some o → G'[q]? = some o := fun q o hq => by
        have := (List.getElem?_eq_some_iff.1 hq).1
        rw [e2 q (by omega), List.append_assoc]
        exact up_append _ _ hq
      exact i_hasIt (hup _ _ he) (by rw [e2 _ (by omega)]; exact hob) (h.up hup) hl hp)
    obtain ⟨T2, rfl⟩ : ∃ T2, G' = H ++ T2 := keep_append (fun q hq => by
      rw [k2 q (by omega), List.append_assoc, List.getElem?_append_left hq]) (by rw [k1, List.append_assoc]; simp)
    have hgc : ∀ n, gcH H (H ++ T2) (.slc (some (id', 0)) n) = H ++ T2 := fun n => by
      unfold gcH
      rw [if_neg]
      rintro ⟨_, own, es, cells, h⟩
      have := (List.getElem?_eq_some_iff.1 h).1
      omega
    have hF := prefix_F k3 k5 k6 (by have := List.length_filter_le (fun t => !decide (0 < (valsOf as' t).length)) c.must; unfold maxLen; omega) (fun s hs => strs_max h1 s (List.mem_filter.1 hs).1)
    simp only [List.append_assoc, List.cons_append, List.nil_append] at c1 c2
    simp [code52, Tryz.f52, strideOf, c1, c2, h1.one, o2, o3, hgc]
    exact ⟨_, by simpa using hF, by simp, by simp; omega⟩
end Go.Proofs.Try1

namespace Go.Proofs.Try1
open Go Go.Lite
set_option linter.unusedSimpArgs false
set_option linter.unusedVariables false

theorem lacks_eq {l : List PAttr} (h : AttrsOk l) (must : List Str) : (must.filter fun t => !decide (0 < (valsOf l t).length)) = must.filter fun t => (firstOf PAttr.name l t).isNone := by
  congr 1
  funext t
  unfold valsOf
  cases hf : firstOf PAttr.name l t with
  | none => rfl
  | some a =>
    have hm := List.mem_of_find?_eq_some hf
    obtain ⟨j, hj, rfl⟩ := List.getElem_of_mem hm
    have := (h.1 j _ (List.getElem?_eq_getElem hj)).2.2.2.1
    simp
    omega

theorem Back.up {H G : List Ob} {X : List Ob} {w : V} {l : List Str} (h : Back (H ++ X) G w l) : Back H G w l := by
  obtain ⟨F, h1, h2, h3⟩ := h
  exact ⟨F, h1, h2, fun q hq => by have := h3 q hq; simp at this; omega⟩
theorem back_gc {H T : List Ob} {w : V} {l : List Str} (h : Back H (H ++ T) w l) : ∃ T', gcH H (H ++ T) w = H ++ T' ∧ Back H (H ++ T') w l := by
  by_cases hl : lowV H w
  · refine ⟨[], by rw [gcH_low hl, List.append_nil], ?_⟩
    obtain ⟨F, h1, h2, h3⟩ := h
    have hF : F = [] := AtF.cut _ h1 h3 (by simp only [lowVs, and_true]; exact hl)
    subst hF
    exact ⟨[], AtF.frame _ (fun q hq => by cases hq) h1, by simp, by simp⟩
  · refine ⟨T, ?_, h⟩
    unfold gcH
    rw [if_neg fun h => hl h.2]

set_option maxRecDepth 10000 in
set_option maxHeartbeats 4000000 in
theorem i_Missing {H : List Ob} {vl vd va : V} {l : List PClass} {e : PEntry} (hl : AClasses H vl l) (hd : ARdns H vd e.dn) (ha : AAttrs H va e.attrs) :
    ∃ T w, callW C 12 [vl, .agg [vd, va]] H = some (w, H ++ T) ∧ Back H (H ++ T) w (missingOf l e) := by
  suffices hs : Ret C 12 [vl, .agg [vd, va]] H fun q H' => ∃ T, H' = H ++ T ∧ Back H (H ++ T) q (missingOf l e) by
    obtain ⟨q, H', hc, T, rfl, hr⟩ := hs
    exact ⟨T, q, hc, hr⟩
  rw [op12]
  have hod := hd.one
  have hoa := ha.one
  have c1 := i_Schema (hl.ext (T := [.mk true 2 [vd, va]]))
  have c2 := i_Entry (hd.ext (T := [.mk true 2 [vd, va]])) (ha.ext (T := [.mk true 2 [vd, va]]))
  have hgn : ∀ X, gcH H (H ++ X) (.slc none 0) = H := fun X => gcH_low trivial
  have ld := loadN (H := H ++ [.mk true 2 [vd, va]]) (o := 0) (n := 2) get_last (by simp) (by decide) rfl
  simp at ld
  by_cases g1 : SchemaOk l
  rotate_left
  · rw [dec_neg g1] at c1
    have hm : missingOf l e = [] := by unfold missingOf; rw [dec_neg (fun h => g1 h.1)]; rfl
    simp [code12, Tryz.f12, c1, hod, hoa, strideOf, hgn, hm]
    exact Back.nil
  rw [dec_pos g1] at c1
  by_cases g2 : EntryOk e
  rotate_left
  · rw [dec_neg g2] at c2
    have hm : missingOf l e = [] := by unfold missingOf; rw [dec_neg (fun h => g2 h.2)]; rfl
    simp [code12, Tryz.f12, c1, c2, ld, hod, hoa, strideOf, hgn, hm]
    exact Back.nil
  rw [dec_pos g2] at c2
  have hm : missingOf l e = match mineOf l e.attrs with
    | some c => lacks c e.attrs
    | none => [] := by unfold missingOf; rw [dec_pos ⟨g1, g2⟩]; rfl
  have hpw : e.attrs.Pairwise fun a b => a.name < b.name := rise_pair (fun j x hx => (g2.2.2.1 j x hx).2.1)
  have hal : e.attrs.length ≤ 1000 := by have := g2.2.2.2; omega
  have hcl : ∀ c ∈ l, c.must.length ≤ 1000 ∧ c.may.length ≤ 1000 ∧ c.single.length ≤ 1000 := fun c hc => by
    obtain ⟨j, hj, rfl⟩ := List.getElem_of_mem hc
    have := (g1.1 j _ (List.getElem?_eq_getElem hj)).1
    have h1 := this.l1; have h2 := this.l2; have h3 := this.l3
    omega
  obtain ⟨T1, cs, ok, c3, hres⟩ := i_ofEntry (H := H ++ [.mk true 2 [vd, va]]) (ide := H.length) get_last ha.ext hal hpw hl.ext hcl
  rcases hres with ⟨rfl, c, w1, w2, w3, h1, rfl, q1, q2, q3⟩ | ⟨rfl, h1, rfl⟩
  rotate_left
  · rw [h1] at hm
    simp only at hm
    simp only [List.append_assoc, List.cons_append, List.nil_append] at c3
    simp [code12, Tryz.f12, c1, c2, c3, ld, hod, hoa, strideOf, hgn, hm]
    exact Back.nil
  rw [h1] at hm
  simp only at hm
  have hc : c ∈ l := by
    unfold mineOf at h1
    split at h1
    · exact List.mem_of_find?_eq_some h1
    · cases h1
  obtain ⟨T2, w, c4, hb⟩ := i_missing (H := H ++ [.mk true 2 [vd, va]] ++ T1) (ide := H.length) (own := true) (es := 2) (vd := vd) (va := va) (by rw [List.append_assoc]; simp) (ha.ext.ext (T := T1) (H := H ++ [.mk true 2 [vd, va]])) hal hpw q1 q2.one q3.one (hcl c hc).1
  rw [lacks_eq g2.2.2] at hb
  have hb2 : Back H (H ++ ([.mk true 2 [vd, va]] ++ (T1 ++ T2))) w (missingOf l e) := by
    rw [hm]
    have := hb
    simp only [List.append_assoc] at this
    exact Back.up this
  obtain ⟨T', hg, hb3⟩ := back_gc hb2
  simp only [List.append_assoc, List.cons_append, List.nil_append] at c3 c4 hg
  simp [code12, Tryz.f12, c1, c2, c3, c4, ld, hod, hoa, strideOf, q1.one, q2.one, q3.one, hg]
  exact hb3
end Go.Proofs.Try1
