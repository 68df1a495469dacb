/- What functions of the program compute, over the interpreter. Conditions: none but those that each theorem names. -/
import Derived.Test.YtecdehhdbbckoaaGreatDoorFnF

namespace Go.Proofs.Try1
open Go Go.Lite
set_option linter.unusedSimpArgs false
set_option linter.unusedVariables false

theorem strsOf_map : ∀ (l : List Str), strsOf (l.map V.str) = some l
  | [] => rfl
  | s :: l => by simp only [List.map_cons, strsOf, strsOf_map l]

def sorted (l : List Str) : List Str := l.mergeSort fun x y => decide (x ≤ y)
theorem sorted_len {l : List Str} : (sorted l).length = l.length := List.length_mergeSort l
theorem sorted_perm {l : List Str} : (sorted l).Perm l := List.mergeSort_perm l _

theorem prim_sort {G : List Ob} {id : Nat} {l : List Str} (h : G[id]? = some (.mk true 1 (l.map V.str))) (h0 : 0 < l.length) (hl : l.length ≤ 1000000) :
    callW C 173 [.slc (some (id, 0)) l.length] G = some (.tup [], G.set id (.mk true 1 ((sorted l).map V.str))) := by
  rw [callW_prim (pr := sortPrim) rfl]
  simp only [sortPrim, if_neg (show ¬ l.length = 0 by omega), h]
  rw [if_pos ⟨trivial, by simp, hl⟩]
  rw [List.drop_zero, List.take_of_length_le (by simp), strsOf_map]
  simp only
  congr 4
  unfold setRange
  simp [sorted]

/-- No two neighbours are the same. -/
def Apart (l : List Str) : Prop := ∀ (i : Nat) x, l[i]? = some x → l[i + 1]? ≠ some x

theorem keep_append {H G : List Ob} (h : ∀ q, q < H.length → G[q]? = H[q]?) (hl : H.length ≤ G.length) : ∃ T, G = H ++ T := by
  refine ⟨G.drop H.length, ?_⟩
  apply List.ext_getElem?
  intro q
  by_cases hq : q < H.length
  · rw [h q hq, List.getElem?_append_left hq]
  · rw [List.getElem?_append_right (by omega), List.getElem?_drop]
    congr 1
    omega

theorem gcH_leq {H H' : List Ob} {r : V} (h : H'.length = H.length) : gcH H H' r = H' := by
  unfold gcH
  split
  · rename_i hc
    obtain ⟨⟨T, rfl⟩, _⟩ := hc
    simp at h
    rw [h, List.append_nil]
  · rfl

set_option maxRecDepth 10000 in
set_option maxHeartbeats 8000000 in
theorem l_Compact {G0 : List Ob} {id : Nat} {l : List Str} (h : G0[id]? = some (.mk true 1 (l.map V.str))) (hl : l.length ≤ 1000) :
    ∃ G' k, callW C 174 [.slc (some (id, 0)) l.length] G0 = some (.slc (some (id, 0)) k, G') ∧ G'.length = G0.length ∧ (∀ q, q ≠ id → G'[q]? = G0[q]?) ∧ (k = l.length ↔ Apart l) := by
  suffices hs : Ret C 174 [.slc (some (id, 0)) l.length] G0 fun w G' => ∃ k, w = .slc (some (id, 0)) k ∧ G'.length = G0.length ∧ (∀ q, q ≠ id → G'[q]? = G0[q]?) ∧ (k = l.length ↔ Apart l) by
    obtain ⟨w, G', hc, k, rfl, h1, h2, h3⟩ := hs
    exact ⟨G', k, hc, h1, h2, h3⟩
  rw [op174]
  by_cases hl2 : (l.length : Int) < 2
  · have ha : Apart l := fun i x _ hx => by
      have := (List.getElem?_eq_some_iff.1 hx).1
      omega
    simp [code174, Tryz.f174, hl2, ha]
  simp [code174, Tryz.f174, hl2]
  refine WP_loop (fun m σ => ∃ (k : Nat) (r : Nat → R), k + m = l.length ∧ σ = ⟨r, 0, G0⟩ ∧ r 0 = .val (.slc (some (id, 0)) l.length) ∧ r 3 = .val (.int .i64 k) ∧ 1 ≤ k ∧ ∀ i x, i + 1 < k → l[i]? = some x → l[i + 1]? ≠ some x) ?_ (l.length - 1) _ ⟨1, _, by omega, rfl, by simp, by simp, by omega, fun i x h => by omega⟩
  rintro m σ ⟨k, r, hkm, rfl, r0, r3, hk1, hall⟩
  cases m with
  | zero =>
    have hk : k = l.length := by omega
    subst hk
    have ha : Apart l := fun i x hx hx' => hall i x (List.getElem?_eq_some_iff.1 hx').1 hx hx'
    simp [r0, r3, ha]
  | succ m =>
    have hk : k < l.length := by omega
    have hkI : (k : Int) < l.length := by omega
    obtain ⟨x, hx⟩ : ∃ c, l[k]? = some c := ⟨l[k], by simp [hk]⟩
    obtain ⟨y, hy⟩ : ∃ c, l[k - 1]? = some c := ⟨l[k - 1]'(by omega), by simp⟩
    have hw : IntKind.i64.wrap ((k : Int) + 1) = ((k : Int) + 1) := wrap_i64 (by omega) (by omega)
    have hw1 : IntKind.i64.wrap ((k : Int) - 1) = ((k - 1 : Nat) : Int) := by rw [wrap_i64 (by omega) (by omega)]; omega
    have hk' : ((k - 1 : Nat) : Int) < l.length := by omega
    have hk'' : k - 1 < l.length := by omega
    have ldx := load1 (o := k) (v := .str x) h (by simp [hx])
    have ldy := load1 (o := k - 1) (v := .str y) h (by simp [hy])
    by_cases hxy : x = y
    rotate_left
    · simp [r0, r3, hk, hk'', ldx, ldy, hw, hw1, hxy, regionL_none]
      refine ⟨m, by omega, k + 1, by omega, by omega, by omega, fun i z hi hz => ?_⟩
      by_cases hik : i + 1 = k
      · have : i = k - 1 := by omega
        subst this
        rw [hy] at hz
        cases hz
        rw [hik, hx]
        simpa using hxy
      · exact hall i z (by omega) hz
    have hna : ¬ Apart l := fun ha => ha (k - 1) y hy (by rw [show k - 1 + 1 = k by omega, hx, hxy])
    have hst : strideIs G0 id 1 = true := by simp [strideIs, h]
    have hle : k ≤ l.length := by omega
    simp [r0, r3, hk, hk'', hle, ldx, ldy, hw1, hxy, hst, regionL_none]
    refine WP_loop (fun m σ => ∃ (k2 k' : Nat) (r : Nat → R) (G : List Ob) (cs : List Str), k2 + m = l.length - k ∧ σ = ⟨r, 0, G⟩ ∧ r 0 = .val (.slc (some (id, 0)) l.length) ∧ r 3 = .val (.int .i64 k') ∧ r 4 = .val (.slc (some (id, k)) (l.length - k)) ∧ r 5 = .val (.int .i64 k2) ∧ 1 ≤ k2 ∧ k' + 1 ≤ k + k2 ∧
      G.length = G0.length ∧ (∀ q, q ≠ id → G[q]? = G0[q]?) ∧ G[id]? = some (.mk true 1 (cs.map V.str)) ∧ cs.length = l.length) ?_ (l.length - k - 1) _ ⟨1, k, _, G0, l, by omega, rfl, by simp [r0], by simp [r3], by simp, by simp, by omega, by omega, rfl, fun _ _ => rfl, h, rfl⟩
    clear r0 r3 r hst
    rintro m2 σ ⟨k2, k', r, G, cs, hkm2, rfl, r0, r3, r4, r5, hk2, hkk, hG1, hG2, hG3, hcs⟩
    have hst : strideIs G id 1 = true := by simp [strideIs, hG3]
    have hid : id < G.length := (List.getElem?_eq_some_iff.1 hG3).1
    cases m2 with
    | zero =>
      have hk2' : ((l.length - k : Nat) : Int) = k2 := by omega
      have hk2'' : l.length - k = k2 := by omega
      have hlt : k' < l.length := by omega
      have hle' : k' ≤ l.length := by omega
      have hnz : ¬ (l.length - k' = 0) := by omega
      have hwa : ∀ r c, writeAt ⟨r, c, G⟩ (.hp id k') (zerosL LTstr (l.length - k')) = some ⟨r, c, G.set id (.mk true 1 (setRange (cs.map V.str) k' (zerosL LTstr (l.length - k'))))⟩ := by
        intro r c
        simp only [writeAt, hG3]
        rw [if_pos (by rw [zerosL_str, List.length_map]; omega)]
      have hst2 : ∀ o, strideIs (G.set id (.mk true 1 o)) id 1 = true := fun o => by simp [strideIs, hid]
      have hne : ¬ (k' = l.length) := by omega
      have hgl : ∀ o w, gcH G0 (G.set id o) w = G.set id o := fun o w => gcH_leq (by rw [List.length_set]; exact hG1)
      simp [r0, r3, r4, r5, hk2'', hle', hst, elemT, hnz, hwa, hst2, hgl, -setRange]
      refine ⟨hG1, fun q hq => ?_, fun h => absurd h hne, fun h => absurd h hna⟩
      rw [List.getElem?_set_ne (Ne.symm hq)]
      exact hG2 q hq
    | succ m2 =>
      have hlt : k2 < l.length - k := by omega
      obtain ⟨a, ha⟩ : ∃ c, cs[k + k2]? = some c := ⟨cs[k + k2]'(by omega), by simp⟩
      obtain ⟨b, hb⟩ : ∃ c, cs[k + (k2 - 1)]? = some c := ⟨cs[k + (k2 - 1)]'(by omega), by simp⟩
      have ld1 := load1 (o := k + k2) (v := .str a) hG3 (by simp [ha])
      have ld2 := load1 (o := k + (k2 - 1)) (v := .str b) hG3 (by simp [hb])
      have hw2 : IntKind.i64.wrap ((k2 : Int) - 1) = ((k2 - 1 : Nat) : Int) := by rw [wrap_i64 (by omega) (by omega)]; omega
      have hw3 : IntKind.i64.wrap ((k2 : Int) + 1) = ((k2 : Int) + 1) := wrap_i64 (by omega) (by omega)
      have hw4 : IntKind.i64.wrap ((k' : Int) + 1) = ((k' : Int) + 1) := wrap_i64 (by omega) (by omega)
      have hlt2 : k2 - 1 < l.length - k := by omega
      have hlt3 : k' < l.length := by omega
      by_cases hab : a = b
      · simp [r0, r3, r4, r5, hlt, hlt2, ld1, ld2, hw2, hw3, hab, regionL_none]
        exact ⟨m2, by omega, k2 + 1, by omega, k', _, G, ⟨rfl, rfl⟩, by simp [r0], by simp [r3], by simp [r4], by simp, by omega, by omega, hG1, hG2, cs, hG3, hcs⟩
      · have st := store1 (v := .str a) (o := k') hG3 (by simp; omega) rfl rfl
        simp [r0, r3, r4, r5, hlt, hlt2, hlt3, ld1, ld2, hw2, hw3, hw4, hab, regionL_none, st]
        exact ⟨m2, by omega, k2 + 1, by omega, k' + 1, _, _, ⟨rfl, rfl⟩, by simp [r0], by simp, by simp [r4], by simp, by omega, by omega, by simpa using hG1, fun q hq => by rw [List.getElem?_set_ne (Ne.symm hq)]; exact hG2 q hq, cs.set k' a, by rw [List.getElem?_set_self hid, List.map_set], by simpa using hcs⟩
end Go.Proofs.Try1

namespace Go.Proofs.Try1
open Go Go.Lite
set_option linter.unusedSimpArgs false
set_option linter.unusedVariables false

theorem str_lt_irrefl (l : Str) : ¬ l < l := List.lt_irrefl l
theorem nodup_apart {l : List Str} (h : l.Pairwise fun a b => a ≤ b) : Apart l ↔ l.Nodup := by
  constructor
  · intro ha
    induction l with
    | nil => exact List.nodup_nil
    | cons x l ih =>
      rw [List.pairwise_cons] at h
      rw [List.nodup_cons]
      have ha' : Apart l := fun i y hy => ha (i + 1) y (by simpa using hy)
      refine ⟨fun hx => ?_, ih h.2 ha'⟩
      cases l with
      | nil => cases hx
      | cons y l =>
        have hxy : x ≠ y := fun he => ha 0 x rfl (by simp [he])
        have h1 : x ≤ y := h.1 y List.mem_cons_self
        rcases List.mem_cons.1 hx with rfl | hx
        · exact hxy rfl
        · have h2 : y ≤ x := (List.pairwise_cons.1 h.2).1 x hx
          exact hxy (List.le_antisymm h1 h2)
  · intro hn i x h1 h2
    obtain ⟨hi, h1⟩ := List.getElem?_eq_some_iff.1 h1
    obtain ⟨hi2, h2⟩ := List.getElem?_eq_some_iff.1 h2
    exact List.pairwise_iff_getElem.1 hn i (i + 1) hi hi2 (by omega) (h1.trans h2.symm)

theorem sorted_pair {l : List Str} : (sorted l).Pairwise fun a b => a ≤ b := by
  have := List.pairwise_mergeSort (le := fun x y : Str => decide (x ≤ y)) (fun a b c h1 h2 => by simp at h1 h2 ⊢; exact List.le_trans h1 h2) (fun a b => by simp; exact List.le_total a b) l
  exact this.imp fun h => by simpa using h

set_option maxRecDepth 10000 in
set_option maxHeartbeats 4000000 in
theorem i_union {H : List Ob} {id : Nat} {own : Bool} {va : V} {l : List Str} (h0 : H[id]? = some (.mk own 1 [va])) (hw : AStrs H va l) (hb : l.length ≤ 1000) :
    ∃ T p n, callW C 141 [.slc (some (id, 0)) 1] H = some (.slc p n, H ++ T) ∧ (n = l.length ↔ l.Nodup) := by
  suffices hs : Ret C 141 [.slc (some (id, 0)) 1] H fun q H' => ∃ T p n, q = .slc p n ∧ H' = H ++ T ∧ (n = l.length ↔ l.Nodup) by
    obtain ⟨q, H', hc, T, p, n, rfl, rfl, hr⟩ := hs
    exact ⟨T, p, n, hc, hr⟩
  rw [op141]
  have hfl : fl [l] 1 = l := by simp [fl]
  obtain ⟨T, w, c1, hown⟩ := l_Concat (ls := [l]) h0 rfl (fun i w l' h1 h2 => by
    cases i with
    | zero => cases h1; cases h2; exact hw
    | succ i => simp at h1) (by simp only [List.length_singleton, hfl]; exact hb) (by simp)
  simp only [List.length_singleton, hfl] at c1 hown
  rcases hown with ⟨rfl, rfl⟩ | hgs
  · have c2 : callW C 173 [.slc none 0] (H ++ T) = some (.tup [], H ++ T) := callW_prim (pr := sortPrim) rfl
    have c3 : callW C 174 [.slc none 0] (H ++ T) = some (.slc none 0, H ++ T) := by
      apply Ret.eq
      rw [op174]
      simp [code174, Tryz.f174]
    simp [code141, Tryz.f141, c1, c2, c3]
    exact ⟨[], by simp [gcH, ext_append, lowV]⟩
  · obtain ⟨T', id', hT, h1, h2, rfl⟩ := hgs
    have hT' := List.append_cancel_left hT
    subst hT'
    rw [List.length_map] at c1
    have hid : id' < (H ++ T).length := (List.getElem?_eq_some_iff.1 h2).1
    by_cases hl0 : l.length = 0
    · have : l = [] := List.length_eq_zero_iff.1 hl0
      subst this
      have c2 : callW C 173 [.slc (some (id', 0)) 0] (H ++ T) = some (.tup [], H ++ T) := callW_prim (pr := sortPrim) rfl
      have c3 : callW C 174 [.slc (some (id', 0)) 0] (H ++ T) = some (.slc (some (id', 0)) 0, H ++ T) := by
        apply Ret.eq
        rw [op174]
        simp [code174, Tryz.f174]
      have hgc : gcH H (H ++ T) (.slc (some (id', 0)) 0) = H ++ T := Gs.gc ⟨T, id', rfl, h1, h2, rfl⟩
      simp at c1
      simp [code141, Tryz.f141, c1, c2, c3, hgc]
    · have c2 := prim_sort h2 (by omega) (by omega)
      obtain ⟨G', k, c3, k1, k2, k3⟩ := l_Compact (l := sorted l) (G0 := (H ++ T).set id' (.mk true 1 ((sorted l).map V.str))) (id := id') (by rw [List.getElem?_set_self hid]) (by rw [sorted_len]; exact hb)
      rw [sorted_len] at c3 k3
      rw [List.length_set] at k1
      obtain ⟨T2, hT2⟩ : ∃ T2, G' = H ++ T2 := keep_append (fun q hq => by
        rw [k2 q (by omega), List.getElem?_set_ne (by omega), List.getElem?_append_left hq]) (by rw [k1]; simp)
      subst hT2
      have hgc : ∀ n, gcH H (H ++ T2) (.slc (some (id', 0)) n) = H ++ T2 := fun n => by
        unfold gcH
        rw [if_neg]
        rintro ⟨_, own, es, cells, h⟩
        have := (List.getElem?_eq_some_iff.1 h).1
        omega
      have hnd : k = l.length ↔ l.Nodup := by
        rw [k3, nodup_apart sorted_pair]
        exact sorted_perm.nodup_iff
      simp [code141, Tryz.f141, c1, c2, c3, hgc]
      exact ⟨T2, _, _, ⟨rfl, rfl⟩, rfl, hnd⟩
end Go.Proofs.Try1

namespace Go.Proofs.Try1
open Go Go.Lite
set_option linter.unusedSimpArgs false
set_option linter.unusedVariables false

theorem Own.strs {H G : List Ob} {w : V} {l : List Str} (h : Own H G w l) (hl : l.length ≤ maxLen) (hs : ∀ s ∈ l, s.length ≤ maxLen) : AStrs G w l := by
  rcases h with ⟨rfl, rfl⟩ | h
  · exact At_slice.2 ⟨_, _, rfl, rfl, by simp, .inl ⟨rfl, rfl⟩⟩
  · exact (h.strs hl hs).1
theorem strs_max {H : List Ob} {v : V} {l : List Str} (h : AStrs H v l) : ∀ s ∈ l, s.length ≤ maxLen := fun s hs => by
  obtain ⟨j, hj, rfl⟩ := List.getElem_of_mem hs
  obtain ⟨_, _, _, _, h⟩ := strs_idx h (List.getElem?_eq_getElem hj)
  exact h
theorem Keep_both {H X Y : List Ob} : Keep H.length (H ++ X) (H ++ Y) := fun id hid => by rw [List.getElem?_append_left hid, List.getElem?_append_left hid]
theorem Keep_one {H Y : List Ob} : Keep H.length H (H ++ Y) := fun id hid => by rw [List.getElem?_append_left hid]
theorem Own.one {H G : List Ob} {w : V} {l : List Str} (h : Own H G w l) : isOne w = true ∧ cellsOf w = some [w] := by
  rcases h with ⟨rfl, rfl⟩ | h
  · exact ⟨rfl, rfl⟩
  · exact h.one

theorem LtS_iff : ∀ (a b : Str), LtS a b ↔ a < b
  | a, [] => by simp [LtS, Op.bytesLess]
  | [], b :: bs => by simp [LtS, Op.bytesLess]
  | a :: as', b :: bs => by
    have := LtS_iff as' bs
    unfold LtS at this ⊢
    simp [Op.bytesLess, List.cons_lt_cons_iff, this]
theorem names_pair : ∀ {l : List Str}, NamesOk l → l.Pairwise fun a b => a < b
  | [], _ => .nil
  | [x], _ => by simp
  | x :: y :: l, h => by
    have h' : NamesOk (y :: l) := fun j z hz => by
      obtain ⟨h1, h2⟩ := h (j + 1) z (by simpa using hz)
      refine ⟨h1, fun v hj hv => h2 v (by omega) ?_⟩
      rw [show j + 1 - 1 = (j - 1) + 1 by omega]
      simpa using hv
    have ih := names_pair h'
    have hxy : x < y := (LtS_iff x y).1 ((h 1 y rfl).2 x (by omega) rfl)
    rw [List.pairwise_cons]
    refine ⟨fun z hz => ?_, ih⟩
    rcases List.mem_cons.1 hz with rfl | hz
    · exact hxy
    · exact List.lt_trans hxy ((List.pairwise_cons.1 ih).1 z hz)
theorem names_nodup {l : List Str} (h : NamesOk l) : l.Nodup := (names_pair h).imp fun h e => by subst e; exact List.lt_irrefl _ h

set_option maxRecDepth 10000 in
set_option maxHeartbeats 8000000 in
theorem i_Class {H : List Ob} {w1 w2 w3 : V} {c : PClass} (h1 : AStrs H w1 c.must) (h2 : AStrs H w2 c.may) (h3 : AStrs H w3 c.single) : callW C 102 [.agg [.str c.name, w1, w2, w3]] H = some (.bool (dec (ClassOk c)), H) := by
  apply Ret.dec
  rw [op102]
  simp [code102, Tryz.f102, h1.one, h2.one, h3.one, elemT, fillL, zerosL, St.new]
  refine WP_loop (fun k σ => ∃ (i : Nat) (r : Nat → R), i + k = 3 ∧ σ = ⟨r, 1, H ++ [.mk true 1 [w1, w2, w3]]⟩ ∧ r 1 = .box 0 [.str c.name, w1, w2, w3] ∧ r 12 = .val (.slc (some (H.length, 0)) 3) ∧ r 13 = .val (.int .i64 3) ∧ r 14 = .val (.int .i64 i) ∧ ∀ j l, j < i → [c.must, c.may, c.single][j]? = some l → l.length ≤ 10 ∧ NamesOk l) ?_ 3 _ ⟨0, _, by simp, rfl, by simp, by simp, by simp, by simp, by simp⟩
  rintro k σ ⟨i, r, hik, rfl, r1, r12, r13, r14, hall⟩
  cases k with
  | succ k =>
    have hi : i < 3 := by omega
    have hiI : (i : Int) < 3 := by omega
    obtain ⟨l, w, hli, hwi, hs, hcl⟩ : ∃ l w, [c.must, c.may, c.single][i]? = some l ∧ [w1, w2, w3][i]? = some w ∧ AStrs H w l ∧ (ClassOk c → l.length ≤ 10 ∧ NamesOk l) := by
      match i, hi with
      | 0, _ => exact ⟨_, _, rfl, rfl, h1, fun h => ⟨h.l1, h.n1⟩⟩
      | 1, _ => exact ⟨_, _, rfl, rfl, h2, fun h => ⟨h.l2, h.n2⟩⟩
      | 2, _ => exact ⟨_, _, rfl, rfl, h3, fun h => ⟨h.l3, h.n3⟩⟩
    have ld := load1 (H := H ++ [.mk true 1 [w1, w2, w3]]) (o := i) get_last hwi
    have hw : IntKind.i64.wrap ((i : Int) + 1) = ((i : Int) + 1) := wrap_i64 (by omega) (by omega)
    have c1 := i_Names (hs.ext (T := [.mk true 1 [w1, w2, w3]]))
    by_cases g1 : (l.length : Int) > 10
    · have hn : ¬ ClassOk c := fun h => by have := (hcl h).1; omega
      simp [r1, r12, r13, r14, hiI, hi, ld, (hs.ext (T := [.mk true 1 [w1, w2, w3]])).len, g1, hn]
    by_cases g2 : NamesOk l
    · rw [dec_pos g2] at c1
      simp [r1, r12, r13, r14, hiI, hi, ld, (hs.ext (T := [.mk true 1 [w1, w2, w3]])).len, g1, c1, hw]
      exact ⟨k, by omega, i + 1, by omega, by omega, at_step (P := fun j (l : List Str) => l.length ≤ 10 ∧ NamesOk l) hall hli ⟨by omega, g2⟩⟩
    · rw [dec_neg g2] at c1
      have hn : ¬ ClassOk c := fun h => g2 (hcl h).2
      simp [r1, r12, r13, r14, hiI, hi, ld, (hs.ext (T := [.mk true 1 [w1, w2, w3]])).len, g1, c1, hn]
  | zero =>
  have hi : i = 3 := by omega
  subst hi
  obtain ⟨m1, m2⟩ := hall 0 c.must (by omega) rfl
  obtain ⟨m3, m4⟩ := hall 1 c.may (by omega) rfl
  obtain ⟨m5, m6⟩ := hall 2 c.single (by omega) rfl
  have hfl : fl [c.must, c.may] 2 = c.must ++ c.may := by simp [fl]
  obtain ⟨T, w, c1, hown⟩ := l_Concat (H := H ++ [.mk true 1 [w1, w2, w3]] ++ [.mk true 1 [w1, w2]]) (id := H.length + 1) (ls := [c.must, c.may]) (ws := [w1, w2]) (own := true) (by rw [List.getElem?_append_right (by simp)]; simp) rfl (fun i v l g1 g2 => by
    match i with
    | 0 => cases g1; cases g2; exact h1.ext.ext
    | 1 => cases g1; cases g2; exact h2.ext.ext
    | i + 2 => simp at g1) (by simp only [List.length_cons, List.length_nil, Nat.reduceAdd, hfl, List.length_append]; omega) (by simp)
  simp only [List.length_cons, List.length_nil, Nat.reduceAdd, hfl, List.append_assoc, List.cons_append, List.nil_append] at c1 hown
  have how := hown.one
  have st := store1 (H := H ++ .mk true 1 [w1, w2, w3] :: .mk true 1 [w1, w2] :: (T ++ [.mk true 1 [.slc none 0]])) (id := H.length + (T.length + 1 + 1)) (es := 1) (cells := [.slc none 0]) (v := w) (o := 0) (by rw [List.getElem?_append_right (by omega)]; simp) (by simp) how.2 how.1
  have hmem : (H ++ Ob.mk true 1 [w1, w2, w3] :: Ob.mk true 1 [w1, w2] :: (T ++ [Ob.mk true 1 [V.slc none 0]])).length = H.length + (T.length + 1 + 1) + 1 := by simp; omega
  have hold : ∀ (q : Nat) o, (H ++ Ob.mk true 1 [w1, w2, w3] :: Ob.mk true 1 [w1, w2] :: T)[q]? = some o → ((H ++ Ob.mk true 1 [w1, w2, w3] :: Ob.mk true 1 [w1, w2] :: (T ++ [Ob.mk true 1 [V.slc none 0]])).set (H.length + (T.length + 1 + 1)) (Ob.mk true 1 ([V.slc none 0].set 0 w)))[q]? = some o := fun q o hq => by
    have hql := (List.getElem?_eq_some_iff.1 hq).1
    simp at hql
    rw [List.getElem?_set_ne (by omega), show H ++ Ob.mk true 1 [w1, w2, w3] :: Ob.mk true 1 [w1, w2] :: (T ++ [Ob.mk true 1 [V.slc none 0]]) = (H ++ Ob.mk true 1 [w1, w2, w3] :: Ob.mk true 1 [w1, w2] :: T) ++ [Ob.mk true 1 [V.slc none 0]] by simp]
    exact up_append _ _ hq
  have hobj : ((H ++ Ob.mk true 1 [w1, w2, w3] :: Ob.mk true 1 [w1, w2] :: (T ++ [Ob.mk true 1 [V.slc none 0]])).set (H.length + (T.length + 1 + 1)) (Ob.mk true 1 ([V.slc none 0].set 0 w)))[H.length + (T.length + 1 + 1)]? = some (Ob.mk true 1 [w]) := by
    rw [List.getElem?_set_self (by omega)]
    rfl
  obtain ⟨H3, hH3⟩ : ∃ H3, H3 = (H ++ Ob.mk true 1 [w1, w2, w3] :: Ob.mk true 1 [w1, w2] :: (T ++ [Ob.mk true 1 [V.slc none 0]])).set (H.length + (T.length + 1 + 1)) (Ob.mk true 1 ([V.slc none 0].set 0 w)) := ⟨_, rfl⟩
  rw [← hH3] at st hobj hold
  obtain ⟨T3, hT3⟩ : ∃ T3, H3 = H ++ T3 := by
    refine ⟨(Ob.mk true 1 [w1, w2, w3] :: Ob.mk true 1 [w1, w2] :: (T ++ [Ob.mk true 1 [V.slc none 0]])).set (T.length + 1 + 1) (Ob.mk true 1 ([V.slc none 0].set 0 w)), ?_⟩
    rw [hH3, List.set_append_right _ _ (by omega), Nat.add_sub_cancel_left]
  simp [r1, r12, r13, r14, h1.one, h2.one, h3.one, elemT, fillL, zerosL, St.new, c1, strideOf, st, -regionL_some]
  generalize H.length + (T.length + 1 + 1) = id5 at hobj
  have hall3 : AStrs H3 w (c.must ++ c.may) := (hown.strs (by rw [List.length_append]; unfold maxLen; omega) (fun s hs => by
    rcases List.mem_append.1 hs with hs | hs
    · exact strs_max h1 s hs
    · exact strs_max h2 s hs)).up hold
  have hid5 : id5 < H3.length := (List.getElem?_eq_some_iff.1 hobj).1
  have h33 : AStrs H3 w3 c.single := by rw [hT3]; exact h3.ext
  have hgc1 : ∀ b, gcH H H3 (.bool b) = H := fun b => by rw [hT3]; exact gcH_bool
  have hgc2 : ∀ b X, gcH H (H3 ++ X) (.bool b) = H := fun b X => by rw [hT3, List.append_assoc]; exact gcH_bool
  clear hH3 hold hT3 st c1 hown hmem
  have ld := load1 (o := 0) hobj rfl
  have c2 := i_Name (t := c.name) (H := H3)
  have hok : ClassOk c ↔ NameOk c.name ∧ (c.must ++ c.may).Nodup ∧ classT ∉ c.must ++ c.may ∧ ∀ t ∈ c.single, t ∈ c.must ++ c.may := by
    constructor
    · intro h
      refine ⟨h.name, ?_, ?_, ?_⟩
      · rw [List.nodup_append]
        exact ⟨names_nodup h.n1, names_nodup h.n2, fun a ha b hb hab => h.apart a ha (hab ▸ hb)⟩
      · rw [List.mem_append]; exact fun h' => h'.elim h.noMust h.noMay
      · intro t ht; rw [List.mem_append]; exact (h.known t ht).symm
    · rintro ⟨k1, k2, k3, k4⟩
      rw [List.nodup_append] at k2
      rw [List.mem_append] at k3
      exact ⟨k1, m1, m3, m5, m2, m4, m6, fun t ht ht' => k2.2.2 t ht t ht' rfl, fun t ht => (List.mem_append.1 (k4 t ht)).symm, fun h => k3 (.inl h), fun h => k3 (.inr h)⟩
  by_cases g1 : NameOk c.name
  rotate_left
  · rw [dec_neg g1] at c2
    have hn : ¬ ClassOk c := fun h => g1 h.name
    simp [r1, hid5, c2, hn, hgc1, hgc2, List.lookup]
  rw [dec_pos g1] at c2
  obtain ⟨T4, p, n, c3, hn⟩ := i_union (H := H3 ++ [Ob.mk true 1 [w]]) (id := H3.length) get_last hall3.ext (by rw [List.length_append]; omega)
  simp only [List.append_assoc, List.cons_append, List.nil_append] at c3
  have hln := fun {e s b : Nat} {z : List V} => hall3.len (e := e) (s := s) (b := b) (z := z)
  by_cases g2 : (n : Int) = (c.must ++ c.may).length
  rotate_left
  · have hno : ¬ ClassOk c := fun h => g2 (by have := hn.2 (hok.1 h).2.1; omega)
    simp only [List.length_append, Int.natCast_add] at g2 hln
    simp [r1, hid5, c2, c3, ld, hln, g2, elemT, fillL, zerosL, St.new, Keep_both, Keep_one, hall3.one, hno, hgc1, hgc2, List.lookup]
  have c4 : callW C 142 [w, .str [99, 108, 97, 115, 115]] (H3 ++ Ob.mk true 1 [w] :: T4) = some (.bool (dec (classT ∈ c.must ++ c.may)), H3 ++ Ob.mk true 1 [w] :: T4) := l_Contains hall3.ext
  have ld2 := load1 (H := H3 ++ Ob.mk true 1 [w] :: T4) (o := 0) (v := w) (up_append _ _ hobj) rfl
  have g2' : (c.must ++ c.may).Nodup := hn.1 (by omega)
  by_cases g3 : classT ∈ c.must ++ c.may
  · rw [dec_pos g3] at c4
    have hno : ¬ ClassOk c := fun h => (hok.1 h).2.2.1 g3
    simp only [List.length_append, Int.natCast_add] at g2 hln
    simp [r1, hid5, c2, c3, c4, ld, ld2, hln, g2, elemT, fillL, zerosL, St.new, Keep_both, Keep_one, hall3.one, hno, hgc1, hgc2, List.lookup]
  rw [dec_neg g3] at c4
  have c5 := l_ContainsFunc (H := H3 ++ Ob.mk true 1 [w] :: T4) (g := 143) (a := []) (b := [.ptr (some (id5, 0))]) h33.ext (fun x => !dec (x ∈ c.must ++ c.may)) (fun x _ => i_noName (up_append _ _ hobj) hall3.ext)
  by_cases g4 : ∃ x ∈ c.single, (!dec (x ∈ c.must ++ c.may)) = true
  · rw [dec_pos g4] at c5
    have hno : ¬ ClassOk c := fun h => by
      obtain ⟨x, hx, hd⟩ := g4
      rw [dec_pos ((hok.1 h).2.2.2 x hx)] at hd
      cases hd
    simp only [List.length_append, Int.natCast_add] at g2 hln
    simp [r1, hid5, c2, c3, c4, c5, ld, ld2, hln, g2, elemT, fillL, zerosL, St.new, Keep_both, Keep_one, hall3.one, hno, hgc1, hgc2, List.lookup, h3.one]
  · rw [dec_neg g4] at c5
    have hyes : ClassOk c := hok.2 ⟨g1, g2', g3, fun t ht => Classical.byContradiction fun h => g4 ⟨t, ht, by rw [dec_neg h]; rfl⟩⟩
    simp only [List.length_append, Int.natCast_add] at g2 hln
    simp [r1, hid5, c2, c3, c4, c5, ld, ld2, hln, g2, elemT, fillL, zerosL, St.new, Keep_both, Keep_one, hall3.one, hyes, hgc1, hgc2, List.lookup, h3.one]
end Go.Proofs.Try1
