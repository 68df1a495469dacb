/- Part 10 of the proof of a law: the interpreter, its soundness, and what functions of the program compute over it. Conditions: none but those that each theorem names. -/
import Derived.Test.YtglbhjmpemiijaaGreatDoorV09
import Derived.Test.YtglbhjmpemiijaaGreatDoorV07
import Derived.Test.YtglbhjmpemiijaaGreatDoorV05

section
namespace Go.Proofs.Try1
open Go Go.Lite
set_option linter.unusedSimpArgs false
set_option linter.unusedVariables false

theorem Own.strs {H G : List Ob} {w : V} {l : List Str} (h : Own H G w l) (hl : l.length ≤ maxLen) (hs : ∀ s ∈ l, s.length ≤ maxLen) : AStrs G w l := by
  rcases h with ⟨rfl, rfl⟩ | h
  · exact At_slice.2 ⟨_, _, rfl, rfl, by simp, .inl ⟨rfl, rfl⟩⟩
  · exact (h.strs hl hs).1
theorem strs_max {H : List Ob} {v : V} {l : List Str} (h : AStrs H v l) : ∀ s ∈ l, s.length ≤ maxLen := fun s hs => by
  obtain ⟨j, hj, rfl⟩ := List.getElem_of_mem hs
  obtain ⟨_, _, _, _, h⟩ := strs_idx h (List.getElem?_eq_getElem hj)
  exact h
theorem Keep_both {H X Y : List Ob} : Keep H.length (H ++ X) (H ++ Y) := fun id hid => by rw [List.getElem?_append_left hid, List.getElem?_append_left hid]
theorem Keep_one {H Y : List Ob} : Keep H.length H (H ++ Y) := fun id hid => by rw [List.getElem?_append_left hid]
theorem Own.one {H G : List Ob} {w : V} {l : List Str} (h : Own H G w l) : isOne w = true ∧ cellsOf w = some [w] := by
  rcases h with ⟨rfl, rfl⟩ | h
  · exact ⟨rfl, rfl⟩
  · exact h.one

theorem LtS_iff : ∀ (a b : Str), LtS a b ↔ a < b
  | a, [] => by simp [LtS, Op.bytesLess]
  | [], b :: bs => by simp [LtS, Op.bytesLess]
  | a :: as', b :: bs => by
    have := LtS_iff as' bs
    unfold LtS at this ⊢
    simp [Op.bytesLess, List.cons_lt_cons_iff, this]
theorem names_pair : ∀ {l : List Str}, NamesOk l → l.Pairwise fun a b => a < b
  | [], _ => .nil
  | [x], _ => by simp
  | x :: y :: l, h => by
    have h' : NamesOk (y :: l) := fun j z hz => by
      obtain ⟨h1, h2⟩ := h (j + 1) z (by simpa using hz)
      refine ⟨h1, fun v hj hv => h2 v (by omega) ?_⟩
      rw [show j + 1 - 1 = (j - 1) + 1 by omega]
      simpa using hv
    have ih := names_pair h'
    have hxy : x < y := (LtS_iff x y).1 ((h 1 y rfl).2 x (by omega) rfl)
    rw [List.pairwise_cons]
    refine ⟨fun z hz => ?_, ih⟩
    rcases List.mem_cons.1 hz with rfl | hz
    · exact hxy
    · exact List.lt_trans hxy ((List.pairwise_cons.1 ih).1 z hz)
theorem names_nodup {l : List Str} (h : NamesOk l) : l.Nodup := (names_pair h).imp fun h e => by subst e; exact List.lt_irrefl _ h

set_option maxRecDepth 10000 in
set_option maxHeartbeats 8000000 in
theorem i_Class {H : List Ob} {w1 w2 w3 : V} {c : PClass} (h1 : AStrs H w1 c.must) (h2 : AStrs H w2 c.may) (h3 : AStrs H w3 c.single) : callW C 149 [.agg [.str c.name, w1, w2, w3]] H = some (.bool (dec (ClassOk c)), H) := by
  apply Ret.dec
  rw [op149]
  simp [code149, Tryz.f149, h1.one, h2.one, h3.one, elemT, fillL, zerosL, St.new]
  refine WP_loop (fun k σ => ∃ (i : Nat) (r : Nat → R), i + k = 3 ∧ σ = ⟨r, 1, H ++ [.mk true 1 [w1, w2, w3]]⟩ ∧ r 1 = .box 0 [.str c.name, w1, w2, w3] ∧ r 12 = .val (.slc (some (H.length, 0)) 3) ∧ r 13 = .val (.int .i64 3) ∧ r 14 = .val (.int .i64 i) ∧ ∀ j l, j < i → [c.must, c.may, c.single][j]? = some l → l.length ≤ 10 ∧ NamesOk l) ?_ 3 _ ⟨0, _, by simp, rfl, by simp, by simp, by simp, by simp, by simp⟩
  rintro k σ ⟨i, r, hik, rfl, r1, r12, r13, r14, hall⟩
  cases k with
  | succ k =>
    have hi : i < 3 := by omega
    have hiI : (i : Int) < 3 := by omega
    obtain ⟨l, w, hli, hwi, hs, hcl⟩ : ∃ l w, [c.must, c.may, c.single][i]? = some l ∧ [w1, w2, w3][i]? = some w ∧ AStrs H w l ∧ (ClassOk c → l.length ≤ 10 ∧ NamesOk l) := by
      match i, hi with
      | 0, _ => exact ⟨_, _, rfl, rfl, h1, fun h => ⟨h.l1, h.n1⟩⟩
      | 1, _ => exact ⟨_, _, rfl, rfl, h2, fun h => ⟨h.l2, h.n2⟩⟩
      | 2, _ => exact ⟨_, _, rfl, rfl, h3, fun h => ⟨h.l3, h.n3⟩⟩
    have ld := load1 (H := H ++ [.mk true 1 [w1, w2, w3]]) (o := i) get_last hwi
    have hw : IntKind.i64.wrap ((i : Int) + 1) = ((i : Int) + 1) := wrap_i64 (by omega) (by omega)
    have c1 := i_Names (hs.ext (T := [.mk true 1 [w1, w2, w3]]))
    by_cases g1 : (l.length : Int) > 10
    · have hn : ¬ ClassOk c := fun h => by have := (hcl h).1; omega
      simp [r1, r12, r13, r14, hiI, hi, ld, (hs.ext (T := [.mk true 1 [w1, w2, w3]])).len, g1, hn]
    by_cases g2 : NamesOk l
    · rw [dec_pos g2] at c1
      simp [r1, r12, r13, r14, hiI, hi, ld, (hs.ext (T := [.mk true 1 [w1, w2, w3]])).len, g1, c1, hw]
      exact ⟨k, by omega, i + 1, by omega, by omega, at_step (P := fun j (l : List Str) => l.length ≤ 10 ∧ NamesOk l) hall hli ⟨by omega, g2⟩⟩
    · rw [dec_neg g2] at c1
      have hn : ¬ ClassOk c := fun h => g2 (hcl h).2
      simp [r1, r12, r13, r14, hiI, hi, ld, (hs.ext (T := [.mk true 1 [w1, w2, w3]])).len, g1, c1, hn]
  | zero =>
  have hi : i = 3 := by omega
  subst hi
  obtain ⟨m1, m2⟩ := hall 0 c.must (by omega) rfl
  obtain ⟨m3, m4⟩ := hall 1 c.may (by omega) rfl
  obtain ⟨m5, m6⟩ := hall 2 c.single (by omega) rfl
  have hfl : fl [c.must, c.may] 2 = c.must ++ c.may := by simp [fl]
  obtain ⟨T, w, c1, hown⟩ := l_Concat (H := H ++ [.mk true 1 [w1, w2, w3]] ++ [.mk true 1 [w1, w2]]) (id := H.length + 1) (ls := [c.must, c.may]) (ws := [w1, w2]) (own := true) (by rw [List.getElem?_append_right (by simp)]; simp) rfl (fun i v l g1 g2 => by
    match i with
    | 0 => cases g1; cases g2; exact h1.ext.ext
    | 1 => cases g1; cases g2; exact h2.ext.ext
    | i + 2 => simp at g1) (by simp only [List.length_cons, List.length_nil, Nat.reduceAdd, hfl, List.length_append]; omega) (by simp)
  simp only [List.length_cons, List.length_nil, Nat.reduceAdd, hfl, List.append_assoc, List.cons_append, List.nil_append] at c1 hown
  have how := hown.one
  have st := store1 (H := H ++ .mk true 1 [w1, w2, w3] :: .mk true 1 [w1, w2] :: (T ++ [.mk true 1 [.slc none 0]])) (id := H.length + (T.length + 1 + 1)) (es := 1) (cells := [.slc none 0]) (v := w) (o := 0) (by rw [List.getElem?_append_right (by omega)]; simp) (by simp) how.2 how.1
  have hmem : (H ++ Ob.mk true 1 [w1, w2, w3] :: Ob.mk true 1 [w1, w2] :: (T ++ [Ob.mk true 1 [V.slc none 0]])).length = H.length + (T.length + 1 + 1) + 1 := by simp; omega
  have hold : ∀ (q : Nat) o, (H ++ Ob.mk true 1 [w1, w2, w3] :: Ob.mk true 1 [w1, w2] :: T)[q]? = some o → ((H ++ Ob.mk true 1 [w1, w2, w3] :: Ob.mk true 1 [w1, w2] :: (T ++ [Ob.mk true 1 [V.slc none 0]])).set (H.length + (T.length + 1 + 1)) (Ob.mk true 1 ([V.slc none 0].set 0 w)))[q]? = some o := fun q o hq => by
    have hql := (List.getElem?_eq_some_iff.1 hq).1
    simp at hql
    rw [List.getElem?_set_ne (by omega), show H ++ Ob.mk true 1 [w1, w2, w3] :: Ob.mk true 1 [w1, w2] :: (T ++ [Ob.mk true 1 [V.slc none 0]]) = (H ++ Ob.mk true 1 [w1, w2, w3] :: Ob.mk true 1 [w1, w2] :: T) ++ [Ob.mk true 1 [V.slc none 0]] by simp]
    exact up_append _ _ hq
  have hobj : ((H ++ Ob.mk true 1 [w1, w2, w3] :: Ob.mk true 1 [w1, w2] :: (T ++ [Ob.mk true 1 [V.slc none 0]])).set (H.length + (T.length + 1 + 1)) (Ob.mk true 1 ([V.slc none 0].set 0 w)))[H.length + (T.length + 1 + 1)]? = some (Ob.mk true 1 [w]) := by
    rw [List.getElem?_set_self (by omega)]
    rfl
  obtain ⟨H3, hH3⟩ : ∃ H3, H3 = (H ++ Ob.mk true 1 [w1, w2, w3] :: Ob.mk true 1 [w1, w2] :: (T ++ [Ob.mk true 1 [V.slc none 0]])).set (H.length + (T.length + 1 + 1)) (Ob.mk true 1 ([V.slc none 0].set 0 w)) := ⟨_, rfl⟩
  rw [← hH3] at st hobj hold
  obtain ⟨T3, hT3⟩ : ∃ T3, H3 = H ++ T3 := by
    refine ⟨(Ob.mk true 1 [w1, w2, w3] :: Ob.mk true 1 [w1, w2] :: (T ++ [Ob.mk true 1 [V.slc none 0]])).set (T.length + 1 + 1) (Ob.mk true 1 ([V.slc none 0].set 0 w)), ?_⟩
    rw [hH3, List.set_append_right _ _ (by omega), Nat.add_sub_cancel_left]
  simp [r1, r12, r13, r14, h1.one, h2.one, h3.one, elemT, fillL, zerosL, St.new, c1, strideOf, st, -regionL_some]
  generalize H.length + (T.length + 1 + 1) = id5 at hobj
  have hall3 : AStrs H3 w (c.must ++ c.may) := (hown.strs (by rw [List.length_append]; unfold maxLen; omega) (fun s hs => by
    rcases List.mem_append.1 hs with hs | hs
    · exact strs_max h1 s hs
    · exact strs_max h2 s hs)).up hold
  have hid5 : id5 < H3.length := (List.getElem?_eq_some_iff.1 hobj).1
  have h33 : AStrs H3 w3 c.single := by rw [hT3]; exact h3.ext
  have hgc1 : ∀ b, gcH H H3 (.bool b) = H := fun b => by rw [hT3]; exact gcH_bool
  have hgc2 : ∀ b X, gcH H (H3 ++ X) (.bool b) = H := fun b X => by rw [hT3, List.append_assoc]; exact gcH_bool
  clear hH3 hold hT3 st c1 hown hmem
  have ld := load1 (o := 0) hobj rfl
  have c2 := i_Name (t := c.name) (H := H3)
  have hok : ClassOk c ↔ NameOk c.name ∧ (c.must ++ c.may).Nodup ∧ classT ∉ c.must ++ c.may ∧ ∀ t ∈ c.single, t ∈ c.must ++ c.may := by
    constructor
    · intro h
      refine ⟨h.name, ?_, ?_, ?_⟩
      · rw [List.nodup_append]
        exact ⟨names_nodup h.n1, names_nodup h.n2, fun a ha b hb hab => h.apart a ha (hab ▸ hb)⟩
      · rw [List.mem_append]; exact fun h' => h'.elim h.noMust h.noMay
      · intro t ht; rw [List.mem_append]; exact (h.known t ht).symm
    · rintro ⟨k1, k2, k3, k4⟩
      rw [List.nodup_append] at k2
      rw [List.mem_append] at k3
      exact ⟨k1, m1, m3, m5, m2, m4, m6, fun t ht ht' => k2.2.2 t ht t ht' rfl, fun t ht => (List.mem_append.1 (k4 t ht)).symm, fun h => k3 (.inl h), fun h => k3 (.inr h)⟩
  by_cases g1 : NameOk c.name
  rotate_left
  · rw [dec_neg g1] at c2
    have hn : ¬ ClassOk c := fun h => g1 h.name
    simp [r1, hid5, c2, hn, hgc1, hgc2, List.lookup]
  rw [dec_pos g1] at c2
  obtain ⟨T4, p, n, c3, hn⟩ := i_union (H := H3 ++ [Ob.mk true 1 [w]]) (id := H3.length) get_last hall3.ext (by rw [List.length_append]; omega)
  simp only [List.append_assoc, List.cons_append, List.nil_append] at c3
  have hln := fun {e s b : Nat} {z : List V} => hall3.len (e := e) (s := s) (b := b) (z := z)
  by_cases g2 : (n : Int) = (c.must ++ c.may).length
  rotate_left
  · have hno : ¬ ClassOk c := fun h => g2 (by have := hn.2 (hok.1 h).2.1; omega)
    simp only [List.length_append, Int.natCast_add] at g2 hln
    simp [r1, hid5, c2, c3, ld, hln, g2, elemT, fillL, zerosL, St.new, Keep_both, Keep_one, hall3.one, hno, hgc1, hgc2, List.lookup]
  have c4 : callW C 245 [w, .str [99, 108, 97, 115, 115]] (H3 ++ Ob.mk true 1 [w] :: T4) = some (.bool (dec (classT ∈ c.must ++ c.may)), H3 ++ Ob.mk true 1 [w] :: T4) := l_Contains hall3.ext
  have ld2 := load1 (H := H3 ++ Ob.mk true 1 [w] :: T4) (o := 0) (v := w) (up_append _ _ hobj) rfl
  have g2' : (c.must ++ c.may).Nodup := hn.1 (by omega)
  by_cases g3 : classT ∈ c.must ++ c.may
  · rw [dec_pos g3] at c4
    have hno : ¬ ClassOk c := fun h => (hok.1 h).2.2.1 g3
    simp only [List.length_append, Int.natCast_add] at g2 hln
    simp [r1, hid5, c2, c3, c4, ld, ld2, hln, g2, elemT, fillL, zerosL, St.new, Keep_both, Keep_one, hall3.one, hno, hgc1, hgc2, List.lookup]
  rw [dec_neg g3] at c4
  have c5 := l_ContainsFunc (H := H3 ++ Ob.mk true 1 [w] :: T4) (g := 255) (a := []) (b := [.ptr (some (id5, 0))]) h33.ext (fun x => !dec (x ∈ c.must ++ c.may)) (fun x _ => i_noName (up_append _ _ hobj) hall3.ext)
  by_cases g4 : ∃ x ∈ c.single, (!dec (x ∈ c.must ++ c.may)) = true
  · rw [dec_pos g4] at c5
    have hno : ¬ ClassOk c := fun h => by
      obtain ⟨x, hx, hd⟩ := g4
      rw [dec_pos ((hok.1 h).2.2.2 x hx)] at hd
      cases hd
    simp only [List.length_append, Int.natCast_add] at g2 hln
    simp [r1, hid5, c2, c3, c4, c5, ld, ld2, hln, g2, elemT, fillL, zerosL, St.new, Keep_both, Keep_one, hall3.one, hno, hgc1, hgc2, List.lookup, h3.one]
  · rw [dec_neg g4] at c5
    have hyes : ClassOk c := hok.2 ⟨g1, g2', g3, fun t ht => Classical.byContradiction fun h => g4 ⟨t, ht, by rw [dec_neg h]; rfl⟩⟩
    simp only [List.length_append, Int.natCast_add] at g2 hln
    simp [r1, hid5, c2, c3, c4, c5, ld, ld2, hln, g2, elemT, fillL, zerosL, St.new, Keep_both, Keep_one, hall3.one, hyes, hgc1, hgc2, List.lookup, h3.one]
end Go.Proofs.Try1
end

section
namespace Go.Proofs.Try1
open Go Go.Lite
set_option linter.unusedSimpArgs false
set_option linter.unusedVariables false

set_option maxRecDepth 10000 in
set_option maxHeartbeats 4000000 in
theorem i_Schema {H : List Ob} {v : V} {l : List PClass} (h : AClasses H v l) : callW C 47 [v] H = some (.bool (dec (SchemaOk l)), H) := by
  apply Ret.dec
  rw [op47]
  have hb : l.length ≤ 9223372036854775807 := h.bound
  by_cases g0 : (l.length : Int) > 6
  · have hn : ¬ SchemaOk l := fun h => by have := h.2; omega
    simp [code47, Tryz.f47, h.len, g0, hn]
  simp [code47, Tryz.f47, h.len, g0]
  refine WP_loop (fun k σ => ∃ (i n : Nat) (r : Nat → R), i + k = l.length ∧ σ = ⟨r, n, H⟩ ∧ r 0 = .val v ∧ r 8 = .val v ∧ r 9 = .val (.int .i64 l.length) ∧ r 10 = .val (.int .i64 i) ∧ ∀ j x, j < i → l[j]? = some x → ClassOk x ∧ PrevLt PClass.name l j x) ?_ l.length _ ⟨0, 0, _, by simp, rfl, by simp, by simp, by simp, by simp, by simp⟩
  rintro k σ ⟨i, n, r, hik, rfl, r0, r8, r9, r10, hall⟩
  cases k with
  | zero =>
    have hi : i = l.length := by omega
    subst hi
    have hx := at_all (P := fun j (x : PClass) => ClassOk x ∧ PrevLt PClass.name l j x) hall
    have hv : SchemaOk l := ⟨hx, by omega⟩
    simp [r0, r8, r9, r10, hv]
  | succ k =>
    have hi : i < l.length := by omega
    obtain ⟨x, hx⟩ : ∃ c, l[i]? = some c := ⟨l[i], by simp [hi]⟩
    have hw : IntKind.i64.wrap ((i : Int) + 1) = ((i : Int) + 1) := wrap_i64 (by omega) (by omega)
    obtain ⟨id, o, w1, w2, w3, e1, l0, l4, q1, q2, q3, _⟩ := classes_idx h hx
    have c1 := i_Class q1 q2 q3
    have hstep := fun h => at_step (P := fun j (x : PClass) => ClassOk x ∧ PrevLt PClass.name l j x) hall hx h
    by_cases g1 : ClassOk x
    rotate_left
    · rw [dec_neg g1] at c1
      have hn : ¬ SchemaOk l := fun hd => g1 (hd.1 i x hx).1
      simp [r0, r8, r9, r10, hi, e1, l4, c1, hn, regionL_none, q1.one, q2.one, q3.one]
    rw [dec_pos g1] at c1
    by_cases hi0 : i = 0
    · have := hstep ⟨g1, fun y hy => by omega⟩
      subst hi0
      simp at e1
      simp [r0, r8, r9, r10, hi, e1, l4, c1, regionL_none, q1.one, q2.one, q3.one]
      exact ⟨k, by omega, 1, by omega, n + 1, _, ⟨rfl, rfl⟩, by simp [r0], by simp [r8], by simp [r9], by simp, this⟩
    have hip : 0 < i := by omega
    obtain ⟨y, hy⟩ : ∃ c, l[i - 1]? = some c := ⟨l[i - 1]'(by omega), by simp⟩
    obtain ⟨id', o', _, _, _, e1', l0', _⟩ := classes_idx h hy
    have hw1 : IntKind.i64.wrap ((i : Int) - 1) = ((i - 1 : Nat) : Int) := by rw [wrap_i64 (by omega) (by omega)]; omega
    by_cases g2 : LtS y.name x.name
    · have := hstep ⟨g1, fun z _ hz => by rw [hy] at hz; cases hz; exact g2⟩
      simp [r0, r8, r9, r10, hi, e1, l0, l4, c1, e1', l0', hw, hw1, hip, LtS_dec g2, regionL_none, q1.one, q2.one, q3.one]
      exact ⟨k, by omega, i + 1, by omega, n + 1, _, ⟨rfl, rfl⟩, by simp [r0], by simp [r8], by simp [r9], by simp, this⟩
    · have hn : ¬ SchemaOk l := fun hd => g2 ((hd.1 i x hx).2 y hip hy)
      simp [r0, r8, r9, r10, hi, e1, l0, l4, c1, e1', l0', hw, hw1, hip, LtS_no g2, regionL_none, q1.one, q2.one, q3.one, hn]

noncomputable def cmpS (a b : Str) : Int := if dec (LtS a b) = true then -1 else if dec (LtS b a) = true then 1 else 0
theorem cmpS_lt {a b : Str} : cmpS a b < 0 ↔ LtS a b := by
  unfold cmpS
  by_cases h : LtS a b
  · rw [dec_pos h]; simp [h]
  · rw [dec_neg h]
    by_cases h' : LtS b a
    · rw [dec_pos h']; simp [h]
    · rw [dec_neg h']; simp [h]
theorem cmpS_eq {a b : Str} : cmpS a b = 0 ↔ a = b := by
  unfold cmpS
  by_cases h : LtS a b
  · rw [dec_pos h]
    have : a ≠ b := fun e => by subst e; exact List.lt_irrefl _ ((LtS_iff a a).1 h)
    simp [this]
  · rw [dec_neg h]
    by_cases h' : LtS b a
    · rw [dec_pos h']
      have : a ≠ b := fun e => by subst e; exact List.lt_irrefl _ ((LtS_iff a a).1 h')
      simp [this]
    · rw [dec_neg h']
      have h1 : b ≤ a := fun hh => h ((LtS_iff a b).2 hh)
      have h2 : a ≤ b := fun hh => h' ((LtS_iff b a).2 hh)
      simp [List.le_antisymm h2 h1]

set_option maxRecDepth 10000 in
theorem l_cmp {a b : Str} {H : List Ob} : callW C 260 [.str a, .str b] H = some (.int .i64 (cmpS a b), H) := by
  have c0 : ∀ x : Str, callW C 346 [.str x] H = some (.bool false, H) := fun x => by
    apply Ret.eq
    rw [op346]
    simp [code346, Tryz.f346]
  apply Ret.eq
  rw [op260]
  by_cases g1 : LtS a b
  · have : cmpS a b = -1 := by unfold cmpS; rw [dec_pos g1]; rfl
    simp [code260, Tryz.f260, c0, LtS_dec g1, this]
  · by_cases g2 : LtS b a
    · have hne : a ≠ b := fun e => by subst e; exact g1 g2
      have : cmpS a b = 1 := by unfold cmpS; rw [dec_neg g1, dec_pos g2]; rfl
      simp [code260, Tryz.f260, c0, LtS_no g1, hne, this]
    · have : cmpS a b = 0 := by unfold cmpS; rw [dec_neg g1, dec_neg g2]; rfl
      have he := cmpS_eq.1 this
      simp [code260, Tryz.f260, c0, LtS_no g1, he, this]
      subst he
      simp [LtS_no g1, this]

theorem i_byName {n t : Str} {w : V} {H : List Ob} (ho : cellsOf w = some [w]) : callW C 332 [.agg [.str n, w], .str t] H = some (.int .i64 (cmpS n t), H) := by
  apply Ret.eq
  rw [op332]
  simp [code332, Tryz.f332, l_cmp]

theorem rise_pair {α : Type} {key : α → Str} : ∀ {l : List α}, (∀ (j : Nat) x, l[j]? = some x → PrevLt key l j x) → l.Pairwise fun a b => key a < key b
  | [], _ => .nil
  | [x], _ => by simp
  | x :: y :: l, h => by
    have h' : ∀ (j : Nat) z, (y :: l)[j]? = some z → PrevLt key (y :: l) j z := fun j z hz v hj hv => by
      refine h (j + 1) z (by simpa using hz) v (by omega) ?_
      rw [show j + 1 - 1 = (j - 1) + 1 by omega]
      simpa using hv
    have ih := rise_pair h'
    have hxy : key x < key y := (LtS_iff _ _).1 (h 1 y rfl x (by omega) rfl)
    rw [List.pairwise_cons]
    refine ⟨fun z hz => ?_, ih⟩
    rcases List.mem_cons.1 hz with rfl | hz
    · exact hxy
    · exact List.lt_trans hxy ((List.pairwise_cons.1 ih).1 z hz)

set_option maxRecDepth 10000 in
set_option maxHeartbeats 4000000 in
theorem l_search {H : List Ob} {v : V} {l : List PAttr} {t : Str} (h : AAttrs H v l) (hl : l.length ≤ 1000) (hp : l.Pairwise fun a b => a.name < b.name) :
    ∃ (i : Nat) (ok : Bool), callW C 331 [v, .str t, .fn 332 [] []] H = some (.tup [.int .i64 i, .bool ok], H) ∧
      (ok = true → ∃ a, l[i]? = some a ∧ a.name = t) ∧ (ok = false → ∀ a ∈ l, a.name ≠ t) := by
  suffices hs : Ret C 331 [v, .str t, .fn 332 [] []] H fun q H' =>
      (∃ (i : Nat) (ok : Bool), q = .tup [.int .i64 i, .bool ok] ∧ (ok = true → ∃ a, l[i]? = some a ∧ a.name = t) ∧ (ok = false → ∀ a ∈ l, a.name ≠ t)) ∧ H' = H by
    obtain ⟨q, H', hc, ⟨i, ok, rfl, h1, h2⟩, rfl⟩ := hs
    exact ⟨i, ok, hc, h1, h2⟩
  rw [op331]
  simp [code331, Tryz.f331, h.len]
  refine WP_loop (fun k σ => ∃ (i j : Nat) (r : Nat → R), j - i = k ∧ i ≤ j ∧ j ≤ l.length ∧ σ = ⟨r, 0, H⟩ ∧ r 0 = .val v ∧ r 1 = .val (.str t) ∧ r 2 = .val (.fn 332 [] []) ∧ r 8 = .val (.int .i64 l.length) ∧ r 9 = .val (.int .i64 i) ∧ r 10 = .val (.int .i64 j) ∧
    (∀ q a, q < i → l[q]? = some a → LtS a.name t) ∧ (∀ q a, j ≤ q → l[q]? = some a → ¬ LtS a.name t)) ?_ l.length _ ⟨0, l.length, _, by omega, by omega, by omega, rfl, by simp, by simp, by simp, by simp, by simp, by simp, fun q a h => by omega, fun q a h1 h2 => by have := (List.getElem?_eq_some_iff.1 h2).1; omega⟩
  rintro k σ ⟨i, j, r, hk, hij, hjl, rfl, r0, r1, r2, r8, r9, r10, hlo, hhi⟩
  cases k with
  | succ k =>
    have hlt : (i : Int) < j := by omega
    have hlt' : i < j := by omega
    have hw1 : IntKind.i64.wrap ((i : Int) + j) = (i : Int) + j := wrap_i64 (by omega) (by omega)
    have hw2 : IntKind.u64.wrap ((i : Int) + j) = (i : Int) + j := by unfold IntKind.wrap; simp [IntKind.bits, IntKind.signed]; omega
    have hq : ((i : Int) + j).fdiv 2 = (((i + j) / 2 : Nat) : Int) := by rw [Int.fdiv_eq_ediv_of_nonneg _ (by omega)]; omega
    obtain ⟨m, hm⟩ : ∃ m, m = (i + j) / 2 := ⟨_, rfl⟩
    rw [← hm] at hq
    have hw3 : IntKind.i64.wrap (m : Int) = m := wrap_i64 (by omega) (by omega)
    have hw4 : IntKind.i64.wrap ((m : Int) + 1) = (m : Int) + 1 := wrap_i64 (by omega) (by omega)
    have hml : m < l.length := by omega
    obtain ⟨a, ha⟩ : ∃ a, l[m]? = some a := ⟨l[m], List.getElem?_eq_getElem hml⟩
    obtain ⟨id, o, w, e1, l0, l1, l2, hvs, _⟩ := attrs_idx h ha
    have c1 := i_byName (n := a.name) (t := t) (w := w) (H := H) hvs.one.2
    have hord : ∀ q b, l[q]? = some b → (q < m → b.name < a.name) ∧ (m < q → a.name < b.name) := fun q b hb => by
      obtain ⟨hq1, hb⟩ := List.getElem?_eq_some_iff.1 hb
      obtain ⟨_, ha⟩ := List.getElem?_eq_some_iff.1 ha
      have := List.pairwise_iff_getElem.1 hp
      exact ⟨fun hh => by have := this q m hq1 hml hh; rwa [hb, ha] at this, fun hh => by have := this m q hml hq1 hh; rwa [hb, ha] at this⟩
    by_cases g1 : LtS a.name t
    · have g1' := cmpS_lt.2 g1
      simp [r0, r1, r2, r8, r9, r10, hlt, hlt', hw1, hw2, hq, hw3, hw4, e1, l2, c1, g1', intShift, IntKind.bits]
      refine ⟨j - (m + 1), by omega, m + 1, j, by omega, by omega, by omega, by omega, rfl, fun q b hq1 hb => ?_, hhi⟩
      by_cases hqm : q = m
      · subst hqm; rw [ha] at hb; cases hb; exact g1
      · exact (LtS_iff _ _).2 (List.lt_trans ((hord q b hb).1 (by omega)) ((LtS_iff _ _).1 g1))
    · have g1' : ¬ cmpS a.name t < 0 := mt cmpS_lt.1 g1
      simp [r0, r1, r2, r8, r9, r10, hlt, hlt', hw1, hw2, hq, hw3, hw4, e1, l2, c1, g1', intShift, IntKind.bits]
      refine ⟨m - i, by omega, i, m, by omega, by omega, by omega, rfl, rfl, hlo, fun q b hq1 hb hlt2 => ?_⟩
      by_cases hqm : q = m
      · subst hqm; rw [ha] at hb; cases hb; exact g1 hlt2
      · exact g1 ((LtS_iff _ _).2 (List.lt_trans ((hord q b hb).2 (by omega)) ((LtS_iff _ _).1 hlt2)))
  | zero =>
    have hij' : i = j := by omega
    subst hij'
    by_cases hil : i < l.length
    · have hilI : (i : Int) < l.length := by omega
      obtain ⟨a, ha⟩ : ∃ a, l[i]? = some a := ⟨l[i], List.getElem?_eq_getElem hil⟩
      obtain ⟨id, o, w, e1, l0, l1, l2, hvs, _⟩ := attrs_idx h ha
      have c1 := i_byName (n := a.name) (t := t) (w := w) (H := H) hvs.one.2
      by_cases g1 : a.name = t
      · have g1' := cmpS_eq.2 g1
        simp [r0, r1, r2, r8, r9, r10, hil, e1, l2, c1, g1']
        exact ⟨i, rfl, a, ha, g1⟩
      · have g1' : ¬ cmpS a.name t = 0 := mt cmpS_eq.1 g1
        simp [r0, r1, r2, r8, r9, r10, hil, e1, l2, c1, g1']
        refine ⟨⟨i, rfl⟩, fun b hb hbt => ?_⟩
        obtain ⟨q, hq1, rfl⟩ := List.getElem_of_mem hb
        have hqe := List.getElem?_eq_getElem hq1
        rcases Nat.lt_trichotomy q i with hh | hh | hh
        · have := hlo q _ hh hqe
          rw [hbt] at this
          exact List.lt_irrefl _ ((LtS_iff _ _).1 this)
        · subst hh; rw [ha] at hqe; cases hqe; exact g1 hbt
        · have h1 := hhi i a (by omega) ha
          obtain ⟨_, ha'⟩ := List.getElem?_eq_some_iff.1 ha
          have h2 := List.pairwise_iff_getElem.1 hp i q hil hq1 hh
          rw [ha', hbt] at h2
          exact h1 ((LtS_iff _ _).2 h2)
    · simp [r0, r1, r2, r8, r9, r10, hil]
      refine ⟨⟨i, rfl⟩, fun b hb hbt => ?_⟩
      obtain ⟨q, hq1, rfl⟩ := List.getElem_of_mem hb
      have := hlo q _ (by omega) (List.getElem?_eq_getElem hq1)
      rw [hbt] at this
      exact List.lt_irrefl _ ((LtS_iff _ _).1 this)
end Go.Proofs.Try1
end

section
namespace Go.Proofs.Try1
open Go Go.Lite
set_option linter.unusedSimpArgs false
set_option linter.unusedVariables false

/-- An entry of no more than what a law takes. -/
def SmallE (e : PEntry) : Prop := e.dn.length ≤ 1048576 ∧ e.attrs.length ≤ 1048576 ∧ ∀ a ∈ e.attrs, a.vals.length ≤ 1048576

set_option maxRecDepth 10000 in
set_option maxHeartbeats 8000000 in
theorem s_Copy {H : List Ob} {vd va : V} {e : PEntry} (hd : ARdns H vd e.dn) (ha : AAttrs H va e.attrs) (hb : SmallE e) :
    ∃ T w1 w2, callW C 157 [.agg [vd, va]] H = some (.agg [w1, w2], H ++ T) ∧ New H.length (H ++ T).length (H ++ T) shEntry [w1, w2] e.u := by
  suffices hs : Ret C 157 [.agg [vd, va]] H fun q H' => ∃ T w1 w2, q = .agg [w1, w2] ∧ H' = H ++ T ∧ New H.length (H ++ T).length (H ++ T) shEntry [w1, w2] e.u by
    obtain ⟨q, H', hc, T, w1, w2, rfl, rfl, hr⟩ := hs
    exact ⟨T, w1, w2, hc, hr⟩
  rw [op157]
  have hod := hd.one
  have hoa := ha.one
  obtain ⟨w1, T1, a1, n1⟩ := append_clone (d := .struct [(0, 9), (1, 9)]) (by_ := 32) (z := [.str [], .str []]) (sz := 2) hd rfl rfl rfl (by decide) (by decide) (by decide) (by have := hb.1; unfold maxMade; omega)
  have hb2 := hb.2.1
  have how := New.one1 n1
  simp [code157, Tryz.f157, hod, hoa, elemT, fillL, zerosL, St.new, strideOf, a1, buildV, structPlace, how]
  obtain ⟨K, hK⟩ : ∃ K, K = H ++ T1 := ⟨_, rfl⟩
  rw [← hK] at n1 ⊢
  have haK : AAttrs K va e.attrs := by rw [hK]; exact ha.ext
  refine WP_loop (fun k σ => ∃ (i : Nat) (r : Nat → R) (G : List Ob) (w : V), i + k = e.attrs.length ∧ σ = ⟨r, 3, G⟩ ∧ r 1 = .box 0 [vd, va] ∧ r 2 = .box 1 [.slc none 0, .slc none 0] ∧ r 3 = .box 2 [w1, w] ∧ r 4 = .val (.int .i64 i) ∧ LstF K G shAttr PAttr.u w (e.attrs.take i)) ?_ e.attrs.length _ ⟨0, _, K, .slc none 0, by simp, rfl, by simp, by simp, by simp, by simp, by simpa using LstF.nil⟩
  rintro k σ ⟨i, r, G, w, hik, rfl, r1, r2, r3, r4, hG⟩
  obtain ⟨S, hS⟩ := hG.pre
  have haG : AAttrs G va e.attrs := by rw [hS]; exact haK.ext
  have hwo := hG.one
  cases k with
  | zero =>
    have hi : i = e.attrs.length := by omega
    subst hi
    rw [List.take_length] at hG
    have n2 := hG.new ha.bound
    have hne : New H.length G.length G shEntry [w1, w] e.u := by
      refine New.st (News.cons (m := K.length) (c1 := [w1]) ?_ (News.one n2 (by rw [hS]; simp)) (by rw [hK]; simp) (by rw [hS]; simp))
      rw [hS]; exact n1.ext
    obtain ⟨T', hg, hn⟩ := (show New H.length G.length (H ++ (T1 ++ S)) shEntry [w1, w] e.u by rw [← List.append_assoc, ← hK, ← hS]; exact hne).gcA
    rw [← List.append_assoc, ← hK, ← hS] at hg
    simp [r1, r2, r3, r4, haG.len, hg, how, hwo]
    exact ⟨T', w1, w, ⟨rfl, rfl⟩, rfl, by simpa using hn⟩
  | succ k =>
    have hi : i < e.attrs.length := by omega
    obtain ⟨x, hx⟩ : ∃ c, e.attrs[i]? = some c := ⟨e.attrs[i], by simp [hi]⟩
    have hw : IntKind.i64.wrap ((i : Int) + 1) = ((i : Int) + 1) := wrap_i64 (by omega) (by omega)
    obtain ⟨id, o, wx, ex, lx, hvx, hnx, hidx, _⟩ := attrs_idxT ha hx
    have hGH : G = H ++ (T1 ++ S) := by rw [hS, hK, List.append_assoc]
    obtain ⟨l0, l1, l2⟩ := lx G ⟨_, hGH⟩
    obtain ⟨l0', l1', l2'⟩ := lx (G ++ [.mk true 1 []]) ⟨_, by rw [hGH, List.append_assoc]⟩
    have hidG : id < G.length := by rw [hGH]; simp; omega
    have hvG : AStrs G wx x.vals := by rw [hGH]; exact hvx.ext
    have hbx := hb.2.2 x (List.mem_of_getElem? hx)
    obtain ⟨wv, T2, a2, n2⟩ := append_clone (d := .str) (by_ := 16) (z := [.str []]) (sz := 1) hvG rfl rfl rfl (by decide) (by decide) (by decide) (by unfold maxMade; omega)
    have hel : New G.length (G ++ T2).length (G ++ T2) shAttr [.str x.name, wv] x.u := New.st (News.str hnx (News.one n2 (by simp)))
    obtain ⟨w', G', a3, hG', _, _⟩ := hG.push (T := T2) (d := .struct [(0, 9), (1, 26)]) (by_ := 40) (z := [.str [], .slc none 0]) (sz := 2) hel rfl rfl (by decide) (by decide) (by decide) (by simp; unfold maxMade; omega)
    rw [← take_get hx] at hG'
    have hwv := New.one1 n2
    have hk : Keep G.length (G ++ [.mk true 1 []]) (G ++ T2) := Keep_ext (Nat.le_refl _)
    have hw' := hG'.one
    simp only [List.append_assoc, List.length_append] at a3
    simp [r1, r2, r3, r4, hi, haG.len, ex, l0, l1, hidG, a2, a3, hk, Keep_append, elemT, fillL, zerosL, St.new, buildV, structPlace, hod, hoa, hwv, hwo, hw', hw, List.lookup]
    exact ⟨k, by omega, i + 1, by omega, _, _, ⟨rfl, rfl⟩, by simp [r1], by simp [r2], w', by simp, by simp, hG'⟩

/-- The attributes of a list ahead of a name, the new one, and those behind. -/
noncomputable def putUpto (pre : List PAttr) (n : Str) (vs : List Str) (done : Bool) : List PAttr := pre.filter (fun a => dec (LtS a.name n)) ++ (if done = true ∧ vs ≠ [] then [⟨n, sortV vs⟩] else []) ++ pre.filter (fun a => dec (LtS n a.name))

theorem LtS_trans {a b c : Str} (h1 : LtS a b) (h2 : LtS b c) : LtS a c := (LtS_iff _ _).2 (List.lt_trans ((LtS_iff _ _).1 h1) ((LtS_iff _ _).1 h2))
theorem LtS_asymm {a b : Str} (h1 : LtS a b) : ¬ LtS b a := fun h => LtS_irrefl _ (LtS_trans h1 h)
theorem LtS_tri (a b : Str) : LtS a b ∨ a = b ∨ LtS b a := by
  by_cases h1 : LtS a b
  · exact .inl h1
  · by_cases h2 : LtS b a
    · exact .inr (.inr h2)
    · refine .inr (.inl (List.le_antisymm (fun hh => h2 ((LtS_iff _ _).2 hh)) (fun hh => h1 ((LtS_iff _ _).2 hh))))

section
variable {pre : List PAttr} {a : PAttr} {n : Str} {vs : List Str} {done : Bool}
theorem filt_none {p : PAttr → Bool} (h : ∀ b ∈ pre, p b = false) : pre.filter p = [] := List.filter_eq_nil_iff.2 fun b hb => by rw [h b hb]; decide
/-- Ahead of the name. -/
theorem put_lt (hs : ∀ b ∈ pre, LtS b.name a.name) (hd : done = true ↔ vs = [] ∨ ∃ b ∈ pre, ¬ LtS b.name n) (h : LtS a.name n) : putUpto pre n vs done ++ [a] = putUpto (pre ++ [a]) n vs done ∧ (done = true ↔ vs = [] ∨ ∃ b ∈ pre ++ [a], ¬ LtS b.name n) := by
  have h1 : ∀ b ∈ pre, LtS b.name n := fun b hb => LtS_trans (hs b hb) h
  have hno : ¬ ∃ b ∈ pre, ¬ LtS b.name n := fun ⟨b, hb, hn⟩ => hn (h1 b hb)
  have hmid : (if done = true ∧ vs ≠ [] then [(⟨n, sortV vs⟩ : PAttr)] else []) = [] := if_neg fun ⟨h2, h3⟩ => (hd.1 h2).elim h3 hno
  have e1 := filt_none (pre := pre) (p := fun a => dec (LtS n a.name)) fun b hb => dec_neg (LtS_asymm (h1 b hb))
  refine ⟨?_, ?_⟩
  · unfold putUpto
    rw [hmid, List.filter_append, List.filter_append, e1]
    simp [dec_pos h, dec_neg (LtS_asymm h)]
  · rw [hd]
    constructor
    · rintro (h2 | ⟨b, hb, hn⟩)
      · exact .inl h2
      · exact absurd (h1 b hb) hn
    · rintro (h2 | ⟨b, hb, hn⟩)
      · exact .inl h2
      · rcases List.mem_append.1 hb with hb | hb
        · exact absurd (h1 b hb) hn
        · simp at hb; subst hb; exact absurd h hn
/-- At the name. -/
theorem put_eq (hs : ∀ b ∈ pre, LtS b.name a.name) (hd : done = true ↔ vs = [] ∨ ∃ b ∈ pre, ¬ LtS b.name n) (h : a.name = n) :
    (done = true → vs = []) ∧ putUpto pre n vs done ++ (if done = true then [] else [⟨n, sortV vs⟩]) = putUpto (pre ++ [a]) n vs true := by
  have h1 : ∀ b ∈ pre, LtS b.name n := fun b hb => h ▸ hs b hb
  have hno : ¬ ∃ b ∈ pre, ¬ LtS b.name n := fun ⟨b, hb, hn⟩ => hn (h1 b hb)
  have hv : done = true → vs = [] := fun h2 => (hd.1 h2).elim id fun h3 => absurd h3 hno
  have e1 := filt_none (pre := pre) (p := fun a => dec (LtS n a.name)) fun b hb => dec_neg (LtS_asymm (h1 b hb))
  refine ⟨hv, ?_⟩
  unfold putUpto
  rw [List.filter_append, List.filter_append, e1]
  subst h
  cases done with
  | true => simp [hv rfl, dec_neg (LtS_irrefl a.name)]
  | false =>
    have : vs ≠ [] := fun h2 => by have := hd.2 (.inl h2); cases this
    simp [this, dec_neg (LtS_irrefl a.name)]
/-- Behind the name. -/
theorem put_gt (hs : ∀ b ∈ pre, LtS b.name a.name) (hd : done = true ↔ vs = [] ∨ ∃ b ∈ pre, ¬ LtS b.name n) (h : LtS n a.name) :
    (putUpto pre n vs done ++ (if done = true then [] else [⟨n, sortV vs⟩])) ++ [a] = putUpto (pre ++ [a]) n vs true := by
  unfold putUpto
  rw [List.filter_append, List.filter_append]
  cases done with
  | true => simp [dec_pos h, dec_neg (LtS_asymm h)]
  | false =>
    have h2 : vs ≠ [] := fun h2 => by have := hd.2 (.inl h2); cases this
    have h1 : ∀ b ∈ pre, LtS b.name n := fun b hb => Classical.byContradiction fun hn => by have := hd.2 (.inr ⟨b, hb, hn⟩); cases this
    have e1 := filt_none (pre := pre) (p := fun a => dec (LtS n a.name)) fun b hb => dec_neg (LtS_asymm (h1 b hb))
    rw [e1]
    simp [h2, dec_pos h, dec_neg (LtS_asymm h)]
theorem put_end (hd : done = true ↔ vs = [] ∨ ∃ b ∈ pre, ¬ LtS b.name n) : putUpto pre n vs done ++ (if done = true then [] else [⟨n, sortV vs⟩]) = putAttr pre n (sortV vs) := by
  have hz : sortV vs = [] ↔ vs = [] := by rw [← List.length_eq_zero_iff, sortV_len, List.length_eq_zero_iff]
  unfold putUpto putAttr
  cases done with
  | true =>
    by_cases h2 : vs = []
    · simp [h2, sortV_nil]
    · simp [h2, hz]
  | false =>
    have h2 : vs ≠ [] := fun h2 => by have := hd.2 (.inl h2); cases this
    have h1 : ∀ b ∈ pre, LtS b.name n := fun b hb => Classical.byContradiction fun hn => by have := hd.2 (.inr ⟨b, hb, hn⟩); cases this
    have e1 := filt_none (pre := pre) (p := fun a => dec (LtS n a.name)) fun b hb => dec_neg (LtS_asymm (h1 b hb))
    rw [e1]
    simp [h2, hz]
end

set_option maxRecDepth 10000 in
set_option maxHeartbeats 16000000 in
theorem s_Set {H : List Ob} {vd va vv : V} {e : PEntry} {n : Str} {vs : List Str} (hd : ARdns H vd e.dn) (ha : AAttrs H va e.attrs) (hb : SmallE e) (hp : e.attrs.Pairwise fun a b => a.name < b.name) (hn : n.length ≤ maxLen) (hv : AStrs H vv vs) (hvl : vs.length ≤ 1000) :
    ∃ T w1 w2, callW C 139 [.agg [vd, va], .str n, vv] H = some (.agg [w1, w2], H ++ T) ∧ At (H ++ T) shEntry [w1, w2] (setE e n (sortV vs)).u ∧ ¬ lowV H w2 := by
  suffices hs : Ret C 139 [.agg [vd, va], .str n, vv] H fun q H' => ∃ T w1 w2, q = .agg [w1, w2] ∧ H' = H ++ T ∧ At (H ++ T) shEntry [w1, w2] (setE e n (sortV vs)).u ∧ ¬ lowV H w2 by
    obtain ⟨q, H', hc, T, w1, w2, rfl, rfl, hr⟩ := hs
    exact ⟨T, w1, w2, hc, hr⟩
  rw [op139]
  have hod := hd.one
  have hoa := ha.one
  obtain ⟨T1, d1, a1, c1, n1⟩ := s_Copy hd ha hb
  obtain ⟨K, hK⟩ : ∃ K, K = H ++ T1 := ⟨_, rfl⟩
  rw [← hK] at n1 c1
  obtain ⟨_, _, hcs, hd1, ha1⟩ := entry_at.1 n1.at
  cases hcs
  obtain ⟨T2, wv, c2, n2⟩ := s_Sort (H := K ++ [.mk true 2 []]) (v := vv) (l := vs) (by rw [hK]; exact hv.ext.ext) hvl
  obtain ⟨K3, hK3⟩ : ∃ K3, K3 = K ++ [.mk true 2 []] ++ T2 := ⟨_, rfl⟩
  rw [← hK3] at n2 c2
  have hoD := hd1.one
  have hoA := ha1.one
  have hoV := New.one1 n2
  have hL0 : Lst K K3 shAttr PAttr.u (.slc (some (K.length, 0)) 0) [] := by
    rw [hK3]
    have h := Lst.init (B := K) (sh := shAttr) (f := PAttr.u)
    exact h.ext
  obtain ⟨F, f1, f2, f3⟩ := New.st (News.str hn (News.one n2 (by rw [hK3]; simp)))
  have fx : AtF K3 shAttr [.str n, wv] (⟨n, sortV vs⟩ : PAttr).u F := f1
  have hvsI : ((vs.length : Int) = 0) = (vs = []) := by rw [← List.length_eq_zero_iff]; simp
  simp [code139, Tryz.f139, c1, c2, hod, hoa, hoD, hoA, hoV, hv.len, elemT, fillL, zerosL, St.new, strideOf, buildV, structPlace, hvsI]
  have hbl := hb.2.1
  refine WP_loop (fun k σ => ∃ (i : Nat) (r : Nat → R) (G : List Ob) (w : V) (done : Bool), i + k = e.attrs.length ∧ σ = ⟨r, 4, G⟩ ∧ r 1 = .val (.str n) ∧ r 6 = .box 1 [.slc none 0, .slc none 0] ∧ r 7 = .box 2 [d1, a1] ∧ r 8 = .val w ∧ r 9 = .box 3 [.str n, wv] ∧ r 10 = .val (.bool done) ∧ r 11 = .val (.int .i64 i) ∧
    Lst K G shAttr PAttr.u w (putUpto (e.attrs.take i) n vs done) ∧ (done = true ↔ vs = [] ∨ ∃ b ∈ e.attrs.take i, ¬ LtS b.name n) ∧ AtF G shAttr [.str n, wv] (⟨n, sortV vs⟩ : PAttr).u F ∧ (∀ q ∈ F, ∀ m, w ≠ .slc (some (q, 0)) m) ∧ w ≠ .slc none 0) ?_ e.attrs.length _
    ⟨0, _, K3, .slc (some (K.length, 0)) 0, decide (vs = []), by simp, rfl, by simp, by simp, by simp, by simp, by simp, by simp, by simp, by simpa [putUpto] using hL0, by simp, fx, fun q hq m => by have := (f3 q hq).1; simp at this ⊢; omega, by simp⟩
  rintro k σ ⟨i, r, G, w, done, hik, rfl, r1, r6, r7, r8, r9, r10, r11, hG, hdone, hx, hxw, hwn⟩
  obtain ⟨S, hS⟩ := hG.pre
  have hwo := hG.one
  have haG : AAttrs G a1 e.attrs := by rw [hS]; exact ha1.ext
  have hxc : [V.str n, wv].length = 2 := rfl
  have hpl : ∀ d, (putUpto (e.attrs.take i) n vs d).length ≤ 2097160 := fun d => by
    unfold putUpto
    have e1 := List.length_filter_le (fun a : PAttr => dec (LtS a.name n)) (e.attrs.take i)
    have e2 := List.length_filter_le (fun a : PAttr => dec (LtS n a.name)) (e.attrs.take i)
    have e3 := List.length_take_le i e.attrs
    have e4 : (if d = true ∧ vs ≠ [] then [(⟨n, sortV vs⟩ : PAttr)] else []).length ≤ 1 := by split <;> simp
    simp only [List.length_append]
    omega
  have hmm : ∀ k : Nat, k ≤ 2097165 → k * 40 ≤ maxMade := fun k hk => by unfold maxMade; omega
  cases k with
  | zero =>
    have hi : i = e.attrs.length := by omega
    subst hi
    rw [List.take_length] at hG hdone hpl
    have hend := put_end hdone
    cases done with
    | true =>
      simp only [if_true, List.append_nil] at hend
      rw [hend] at hG
      have hb3 : (putAttr e.attrs n (sortV vs)).length ≤ maxLen := by rw [← hend]; have := hpl true; unfold maxLen; omega
      have hat : At G shEntry [d1, w] (setE e n (sortV vs)).u := entry_at.2 ⟨d1, w, rfl, by rw [hS]; exact hd1.ext, hG.at hb3⟩
      have hnl : ¬ lowV H w := hG.notlow hwn (by rw [hK]; simp)
      have hgc : gcH H G (.agg [d1, w]) = G := gcH_not fun h => hnl h.2.1
      simp [r1, r6, r7, r8, r9, r10, r11, haG.len, hgc, hoD, hoA, hwo]
      exact ⟨T1 ++ S, d1, w, ⟨rfl, rfl⟩, by rw [hS, hK]; simp, by rw [← List.append_assoc, ← hK, ← hS]; exact hat, hnl⟩
    | false =>
      simp only [Bool.false_eq_true, if_false] at hend
      obtain ⟨w', G', p1, hG', _, _, hw', hfr, _⟩ := hG.push (T := []) (x := ⟨n, sortV vs⟩) (c := [.str n, wv]) (d := .struct [(0, 9), (1, 26)]) (by_ := 40) (z := [.str [], .slc none 0]) (sz := 2) (.inl ⟨F, by rw [List.append_nil]; exact hx, hxw⟩) rfl rfl (by decide) (by decide) (by decide) (hmm _ (by have := hpl false; omega))
      rw [hend] at hG'
      obtain ⟨S', hS'⟩ := hG'.pre
      have hwo' := hG'.one
      have hb3 : (putAttr e.attrs n (sortV vs)).length ≤ maxLen := by rw [← hend]; have := hpl false; simp; unfold maxLen; omega
      have hat : At G' shEntry [d1, w'] (setE e n (sortV vs)).u := entry_at.2 ⟨d1, w', rfl, by rw [hS']; exact hd1.ext, hG'.at hb3⟩
      have hnl : ¬ lowV H w' := hG'.notlow (by rw [hw']; simp) (by rw [hK]; simp)
      have hgc : gcH H G' (.agg [d1, w']) = G' := gcH_not fun h => hnl h.2.1
      simp only [List.append_nil] at p1
      simp [r1, r6, r7, r8, r9, r10, r11, haG.len, hgc, hoD, hoA, hoV, hwo, hwo', elemT, fillL, zerosL, St.new, p1]
      exact ⟨T1 ++ S', d1, w', ⟨rfl, rfl⟩, by rw [hS', hK]; simp, by rw [← List.append_assoc, ← hK, ← hS']; exact hat, hnl⟩
  | succ k =>
    have hi : i < e.attrs.length := by omega
    obtain ⟨a, hxa⟩ : ∃ c, e.attrs[i]? = some c := ⟨e.attrs[i], by simp [hi]⟩
    have hw : IntKind.i64.wrap ((i : Int) + 1) = ((i : Int) + 1) := wrap_i64 (by omega) (by omega)
    have htk := take_get hxa
    have hsort : ∀ b ∈ e.attrs.take i, LtS b.name a.name := fun b hb => by
      obtain ⟨j, hj, rfl⟩ := List.getElem_of_mem hb
      have hj2 : j < i ∧ j < e.attrs.length := by rw [List.length_take] at hj; omega
      rw [List.getElem_take]
      obtain ⟨hi', rfl⟩ := List.getElem?_eq_some_iff.1 hxa
      exact (LtS_iff _ _).2 (List.pairwise_iff_getElem.1 hp j i hj2.2 hi hj2.1)
    obtain ⟨id, o, wx, ex, lx, hvx, hnx, hidx, hatx⟩ := attrs_idxT ha1 hxa
    obtain ⟨l0, l1, l2⟩ := lx G ⟨_, hS⟩
    have hox := hvx.one
    rcases LtS_tri a.name n with hlt | heq | hgt
    · obtain ⟨q1, q2⟩ := put_lt hsort hdone hlt
      obtain ⟨w', G', p1, hG', _, _, hw', hfr, _⟩ := hG.push (T := []) (x := a) (c := [.str a.name, wx]) (d := .struct [(0, 9), (1, 26)]) (by_ := 40) (z := [.str [], .slc none 0]) (sz := 2) (.inr hatx) rfl rfl (by decide) (by decide) (by decide) (hmm _ (by have := hpl done; omega))
      rw [q1, ← htk] at hG'
      rw [← htk] at q2
      rw [List.append_nil] at hw' hfr
      obtain ⟨k1, k2⟩ := push_keep hx hxw hw' hfr
      simp only [List.append_nil] at p1
      have hne : ¬ a.name = n := fun e => LtS_irrefl _ (e ▸ hlt)
      cases done with
      | false =>
        simp [r1, r6, r7, r8, r9, r10, r11, hi, haG.len, ex, l0, l2, LtS_no (LtS_asymm hlt), hne, hoD, hoA, hoV, hox, elemT, fillL, zerosL, St.new, p1, hw]
        exact ⟨k, by omega, i + 1, by omega, _, _, ⟨rfl, rfl⟩, by simp [r1], by simp [r6], by simp [r7], w', by simp, by simp [r9], .inl ⟨by simp [r10], by simp, hG', by simpa using q2, k1, k2, by rw [hw']; simp⟩⟩
      | true =>
        simp [r1, r6, r7, r8, r9, r10, r11, hi, haG.len, ex, l0, l2, LtS_no (LtS_asymm hlt), hne, hoD, hoA, hoV, hox, elemT, fillL, zerosL, St.new, p1, hw]
        exact ⟨k, by omega, i + 1, by omega, _, _, ⟨rfl, rfl⟩, by simp [r1], by simp [r6], by simp [r7], w', by simp, by simp [r9], .inr ⟨by simp [r10], by simp, hG', by simpa using q2, k1, k2, by rw [hw']; simp⟩⟩
    · obtain ⟨q1, q2⟩ := put_eq hsort hdone heq
      have hdone' : true = true ↔ vs = [] ∨ ∃ b ∈ e.attrs.take (i + 1), ¬ LtS b.name n := ⟨fun _ => .inr ⟨a, by rw [htk]; simp, by rw [heq]; exact LtS_irrefl n⟩, fun _ => rfl⟩
      cases done with
      | true =>
        simp only [if_true, List.append_nil] at q2
        rw [q2, ← htk] at hG
        simp [r1, r6, r7, r8, r9, r10, r11, hi, haG.len, ex, l0, l2, heq, LtS_no (LtS_irrefl n), hoD, hoA, hoV, hox, hw]
        exact ⟨k, by omega, i + 1, by omega, _, _, ⟨rfl, rfl⟩, by simp [r1], by simp [r6], by simp [r7], w, by simp [r8], by simp [r9], .inr ⟨by simp [r10], by simp, hG, by simpa using hdone', hx, hxw, hwn⟩⟩
      | false =>
        simp only [Bool.false_eq_true, if_false] at q2
        obtain ⟨w', G', p1, hG', _, _, hw', hfr, _⟩ := hG.push (T := []) (x := ⟨n, sortV vs⟩) (c := [.str n, wv]) (d := .struct [(0, 9), (1, 26)]) (by_ := 40) (z := [.str [], .slc none 0]) (sz := 2) (.inl ⟨F, by rw [List.append_nil]; exact hx, hxw⟩) rfl rfl (by decide) (by decide) (by decide) (hmm _ (by have := hpl false; omega))
        rw [q2, ← htk] at hG'
        rw [List.append_nil] at hw' hfr
        obtain ⟨k1, k2⟩ := push_keep hx hxw hw' hfr
        simp only [List.append_nil] at p1
        simp [r1, r6, r7, r8, r9, r10, r11, hi, haG.len, ex, l0, l2, heq, LtS_no (LtS_irrefl n), hoD, hoA, hoV, hox, elemT, fillL, zerosL, St.new, p1, hw]
        exact ⟨k, by omega, i + 1, by omega, _, _, ⟨rfl, rfl⟩, by simp [r1], by simp [r6], by simp [r7], w', by simp, by simp [r9], .inr ⟨by simp, by simp, hG', by simpa using hdone', k1, k2, by rw [hw']; simp⟩⟩
    · have q2 := put_gt hsort hdone hgt
      have hne : ¬ a.name = n := fun e => LtS_irrefl _ (e ▸ hgt)
      have hdone' : true = true ↔ vs = [] ∨ ∃ b ∈ e.attrs.take (i + 1), ¬ LtS b.name n := ⟨fun _ => .inr ⟨a, by rw [htk]; simp, LtS_asymm hgt⟩, fun _ => rfl⟩
      cases done with
      | true =>
        simp only [if_true, List.append_nil] at q2
        obtain ⟨w', G', p1, hG', _, _, hw', hfr, _⟩ := hG.push (T := []) (x := a) (c := [.str a.name, wx]) (d := .struct [(0, 9), (1, 26)]) (by_ := 40) (z := [.str [], .slc none 0]) (sz := 2) (.inr hatx) rfl rfl (by decide) (by decide) (by decide) (hmm _ (by have := hpl true; omega))
        rw [q2, ← htk] at hG'
        rw [List.append_nil] at hw' hfr
        obtain ⟨k1, k2⟩ := push_keep hx hxw hw' hfr
        simp only [List.append_nil] at p1
        simp [r1, r6, r7, r8, r9, r10, r11, hi, haG.len, ex, l0, l2, hne, hoD, hoA, hoV, hox, elemT, fillL, zerosL, St.new, p1, hw]
        exact ⟨k, by omega, i + 1, by omega, _, _, ⟨rfl, rfl⟩, by simp [r1], by simp [r6], by simp [r7], w', by simp, by simp [r9], .inr ⟨by simp [r10], by simp, hG', by simpa using hdone', k1, k2, by rw [hw']; simp⟩⟩
      | false =>
        simp only [Bool.false_eq_true, if_false] at q2
        obtain ⟨w', G', p1, hG', _, _, hw', hfr, _⟩ := hG.push (T := []) (x := ⟨n, sortV vs⟩) (c := [.str n, wv]) (d := .struct [(0, 9), (1, 26)]) (by_ := 40) (z := [.str [], .slc none 0]) (sz := 2) (.inl ⟨F, by rw [List.append_nil]; exact hx, hxw⟩) rfl rfl (by decide) (by decide) (by decide) (hmm _ (by have := hpl false; omega))
        rw [List.append_nil] at hw' hfr
        obtain ⟨k1, k2⟩ := push_keep hx hxw hw' hfr
        obtain ⟨S', hS'⟩ := hG'.pre
        have haG' : AAttrs G' a1 e.attrs := by rw [hS']; exact ha1.ext
        obtain ⟨l0', l1', l2'⟩ := lx G' ⟨_, hS'⟩
        obtain ⟨w'', G'', p2, hG'', _, _, hw'', hfr', _⟩ := hG'.push (T := []) (x := a) (c := [.str a.name, wx]) (d := .struct [(0, 9), (1, 26)]) (by_ := 40) (z := [.str [], .slc none 0]) (sz := 2) (.inr hatx) rfl rfl (by decide) (by decide) (by decide) (hmm _ (by have := hpl false; simp; omega))
        rw [q2, ← htk] at hG''
        rw [List.append_nil] at hw'' hfr'
        obtain ⟨k3, k4⟩ := push_keep k1 k2 hw'' hfr'
        simp only [List.append_nil] at p1 p2
        simp [r1, r6, r7, r8, r9, r10, r11, hi, haG.len, haG'.len, ex, l0, l2, l0', l2', hne, LtS_dec hgt, hoD, hoA, hoV, hox, elemT, fillL, zerosL, St.new, p1, p2, hw]
        exact ⟨k, by omega, i + 1, by omega, _, _, ⟨rfl, rfl⟩, by simp [r1], by simp [r6], by simp [r7], w'', by simp, by simp [r9], .inr ⟨by simp, by simp, hG'', by simpa using hdone', k3, k4, by rw [hw'']; simp⟩⟩
end Go.Proofs.Try1
end

section
namespace Go.Proofs.Try1
open Go Go.Lite
set_option linter.unusedSimpArgs false
set_option linter.unusedVariables false

theorem EntryOk.small {e : PEntry} (h : EntryOk e) : SmallE e := by
  obtain ⟨_, h1, h2⟩ := h
  refine ⟨by have := h1.2; omega, by have := h2.2; omega, fun a ha => ?_⟩
  obtain ⟨j, hj, rfl⟩ := List.getElem_of_mem ha
  have := (h2.1 j _ (List.getElem?_eq_getElem hj)).2.2.2.2
  omega
theorem EntryOk.rise {e : PEntry} (h : EntryOk e) : e.attrs.Pairwise fun a b => a.name < b.name := rise_pair (fun j x hx => (h.2.2.1 j x hx).2.1)
theorem At_illE {H : List Ob} {c : Int} (h : (Lit.int .i64 c).wf = true) : At H shEntryOut [.slc none 0, .slc none 0, .int .i64 c] (illE c).u :=
  entryOut_at.2 ⟨_, _, rfl, At_slice.2 ⟨_, _, rfl, rfl, by simp [illE], .inl ⟨rfl, rfl⟩⟩, At_slice.2 ⟨_, _, rfl, rfl, by simp [illE], .inl ⟨rfl, rfl⟩⟩, h⟩

/-- A call hands back such an answer. -/
def EOut (H : List Ob) (o : PEntryOut) (q : V) (H' : List Ob) : Prop := ∃ T w1 w2, q = .agg [w1, w2, .int .i64 o.code] ∧ H' = H ++ T ∧ At (H ++ T) shEntryOut [w1, w2, .int .i64 o.code] o.u ∧ gcH H (H ++ T) (.agg [w1, w2, .int .i64 o.code]) = H ++ T
theorem EOut.ill {H : List Ob} {c : Int} (h : (Lit.int .i64 c).wf = true) : EOut H (illE c) (.agg [.slc none 0, .slc none 0, .int .i64 c]) H :=
  ⟨[], .slc none 0, .slc none 0, rfl, by simp, by rw [List.append_nil]; exact At_illE h, by rw [List.append_nil]; exact gcH_same⟩

set_option maxRecDepth 10000 in
set_option maxHeartbeats 4000000 in
theorem s_Put {H : List Ob} {vd va vv : V} {e : PEntry} {n : Str} {vs : List Str} (hd : ARdns H vd e.dn) (ha : AAttrs H va e.attrs) (hb : SmallE e) (hp : e.attrs.Pairwise fun a b => a.name < b.name) (hn : n.length ≤ maxLen) (hv : AStrs H vv vs) (hvl : vs.length ≤ 1000) :
    ∃ q H', callW C 99 [.agg [vd, va], .str n, vv] H = some (q, H') ∧ EOut H (putOf e n vs) q H' := by
  suffices hs : Ret C 99 [.agg [vd, va], .str n, vv] H fun q H' => EOut H (putOf e n vs) q H' by
    obtain ⟨q, H', hc, hr⟩ := hs
    exact ⟨q, H', hc, hr⟩
  rw [op99]
  have hod := hd.one
  have hoa := ha.one
  obtain ⟨r, c1, hr⟩ := s_At (t := n) ha hod.2
  have c2 := s_Ill (H := H) (c := 9)
  by_cases g : vs ≠ [] ∧ 8 ≤ e.attrs.length ∧ firstOf PAttr.name e.attrs n = none
  · have hz : 0 < vs.length := List.length_pos_iff.2 g.1
    have hz' : ¬ vs = [] := g.1
    have h8 : (8 : Int) ≤ e.attrs.length := by have := g.2.1; omega
    have hr0 : r = -1 := by
      rcases hr.pos with ⟨k, a, h1, h2, h3⟩ | ⟨h1, _⟩
      · rw [g.2.2] at h3; cases h3
      · exact h1
    subst hr0
    have hpo : putOf e n vs = illE 9 := if_pos g
    rw [hpo]
    simp [code99, Tryz.f99, c1, c2, hod, hoa, hv.len, ha.len, hz, h8]
    exact EOut.ill (by decide)
  · have hpo : putOf e n vs = ⟨setE e n (sortV vs), 0⟩ := if_neg g
    obtain ⟨T, w1, w2, c3, hat, hnl⟩ := s_Set hd ha hb hp hn hv hvl
    obtain ⟨v1, v2, hcs, a1, a2⟩ := entry_at.1 hat
    cases hcs
    have ho1 := a1.one
    have ho2 := a2.one
    have hgc : gcH H (H ++ T) (.agg [w1, w2, .int .i64 0]) = H ++ T := gcH_not fun h => hnl h.2.1
    rw [hpo]
    have fin : EOut H ⟨setE e n (sortV vs), 0⟩ (.agg [w1, w2, .int .i64 0]) (H ++ T) := ⟨T, w1, w2, rfl, rfl, entryOut_at.2 ⟨_, _, rfl, a1, a2, show (Lit.int .i64 0).wf = true by decide⟩, hgc⟩
    by_cases g1 : vs = []
    · subst g1
      simp [code99, Tryz.f99, c1, c2, c3, hod, hoa, hv.len, ha.len, buildV, structPlace, fillL, ho1, ho2, hgc]
      exact fin
    have hz : 0 < vs.length := List.length_pos_iff.2 g1
    by_cases g2 : 8 ≤ e.attrs.length
    · have h8 : (8 : Int) ≤ e.attrs.length := by omega
      have hr0 : ¬ r < 0 := by
        rcases hr.pos with ⟨k, a, h1, h2, h3⟩ | ⟨h1, h3⟩
        · omega
        · exact absurd ⟨g1, g2, h3⟩ g
      simp [code99, Tryz.f99, c1, c2, c3, hod, hoa, hv.len, ha.len, hz, h8, hr0, buildV, structPlace, fillL, ho1, ho2, hgc]
      exact fin
    · have h8 : ¬ (8 : Int) ≤ e.attrs.length := by omega
      simp [code99, Tryz.f99, c1, c2, c3, hod, hoa, hv.len, ha.len, hz, h8, buildV, structPlace, fillL, ho1, ho2, hgc]
      exact fin

set_option maxRecDepth 10000 in
set_option maxHeartbeats 4000000 in
theorem s_AttrSet {H : List Ob} {vd va vv : V} {e : PEntry} {n : Str} {vs : List Str} (hd : ARdns H vd e.dn) (ha : AAttrs H va e.attrs) (hn : n.length ≤ maxLen) (hv : AStrs H vv vs) :
    ∃ q H', callW C 17 [.agg [vd, va], .str n, vv] H = some (q, H') ∧ EOut H (attrSetOf e n vs) q H' := by
  suffices hs : Ret C 17 [.agg [vd, va], .str n, vv] H fun q H' => EOut H (attrSetOf e n vs) q H' by
    obtain ⟨q, H', hc, hr⟩ := hs
    exact ⟨q, H', hc, hr⟩
  rw [op17]
  have hod := hd.one
  have hoa := ha.one
  have c1 := s_Ill (H := H) (c := 2)
  have c2 := s_Ill (H := H) (c := 1)
  have c3 := s_Entry hd ha
  have c4 := s_Name (t := n) (H := H)
  have c5 := s_New hv
  by_cases g1 : 8000 < n.length ∨ 400 < vs.length
  · have ho : attrSetOf e n vs = illE 2 := if_pos g1
    rw [ho]
    by_cases g2 : 8000 < n.length
    · have g2' : (8000 : Int) < n.length := by omega
      simp [code17, Tryz.f17, c1, hod, hoa, hv.len, g2']
      exact EOut.ill (by decide)
    · have g2' : ¬ (8000 : Int) < n.length := by omega
      have g3' : (400 : Int) < vs.length := by omega
      simp [code17, Tryz.f17, c1, hod, hoa, hv.len, g2', g3']
      exact EOut.ill (by decide)
  · have g2' : ¬ (8000 : Int) < n.length := by omega
    have g3' : ¬ (400 : Int) < vs.length := by omega
    have ho0 : attrSetOf e n vs = if dec (EntryOk e ∧ NameOk n ∧ NewOk vs) = true then putOf e n vs else illE 1 := if_neg g1
    have hill : ¬ (EntryOk e ∧ NameOk n ∧ NewOk vs) → attrSetOf e n vs = illE 1 := fun h => by rw [ho0, dec_neg h]; rfl
    by_cases h1 : EntryOk e
    rotate_left
    · rw [dec_neg h1] at c3
      rw [hill fun h => h1 h.1]
      simp [code17, Tryz.f17, c2, c3, hod, hoa, hv.len, g2', g3']
      exact EOut.ill (by decide)
    rw [dec_pos h1] at c3
    by_cases h2 : NameOk n
    rotate_left
    · rw [dec_neg h2] at c4
      rw [hill fun h => h2 h.2.1]
      simp [code17, Tryz.f17, c2, c3, c4, hod, hoa, hv.len, g2', g3']
      exact EOut.ill (by decide)
    rw [dec_pos h2] at c4
    by_cases h3 : NewOk vs
    rotate_left
    · rw [dec_neg h3] at c5
      rw [hill fun h => h3 h.2.2]
      simp [code17, Tryz.f17, c2, c3, c4, c5, hod, hoa, hv.len, g2', g3']
      exact EOut.ill (by decide)
    rw [dec_pos h3] at c5
    have ho : attrSetOf e n vs = putOf e n vs := by rw [ho0, dec_pos ⟨h1, h2, h3⟩]; rfl
    rw [ho]
    obtain ⟨q, H', c6, T, w1, w2, rfl, rfl, hat, hgc⟩ := s_Put hd ha (EntryOk.small h1) (EntryOk.rise h1) hn hv (by omega)
    obtain ⟨_, _, hcs, a1, a2, hwf⟩ := entryOut_at.1 hat
    cases hcs
    have ho1 := a1.one
    have ho2 := a2.one
    simp [code17, Tryz.f17, c3, c4, c5, c6, hod, hoa, hv.len, g2', g3', ho1, ho2, hgc]
    exact ⟨T, w1, w2, rfl, rfl, hat, hgc⟩
end Go.Proofs.Try1
end

section
namespace Go.Lite
open Go
set_option linter.unusedSimpArgs false
set_option linter.unusedVariables false

section
variable {α : Type} {G : List Ob} {sh : Sh} {f : α → U} {v : V} {l : List α} {F : List Nat}

theorem chunk_take {D : List V} {s i j : Nat} (h : j * s + s ≤ i * s) : ((D.take (i * s)).drop (j * s)).take s = (D.drop (j * s)).take s := by
  apply List.ext_getElem?
  intro q
  by_cases hq : q < s
  · rw [List.getElem?_take_of_lt hq, List.getElem?_take_of_lt hq, List.getElem?_drop, List.getElem?_take_of_lt (by omega), List.getElem?_drop]
  · rw [List.getElem?_eq_none (by simp; omega), List.getElem?_eq_none (by simp; omega)]

/-- The chunks of a row into which one is put. -/
theorem ins_chunk {D c : List V} {s n i : Nat} (hD : D.length = n * s) (hc : c.length = s) (hi : i ≤ n) {j : Nat} :
    (j < i → ((D.take (i * s) ++ c ++ D.drop (i * s)).drop (j * s)).take s = (D.drop (j * s)).take s) ∧ (j = i → ((D.take (i * s) ++ c ++ D.drop (i * s)).drop (j * s)).take s = c) ∧
    (∀ t, j = i + 1 + t → ((D.take (i * s) ++ c ++ D.drop (i * s)).drop (j * s)).take s = (D.drop ((i + t) * s)).take s) := by
  have hin : i * s ≤ n * s := Nat.mul_le_mul_right _ hi
  have hA : (D.take (i * s)).length = i * s := by simp; omega
  refine ⟨fun h => ?_, fun h => ?_, fun t h => ?_⟩
  · have hm := mul_step (s := s) h
    rw [List.append_assoc, List.drop_append_of_le_length (by omega), List.take_append_of_le_length (by simp; omega)]
    exact chunk_take hm
  · subst h
    rw [List.append_assoc, List.drop_append_of_le_length (by omega), List.drop_of_length_le (by omega), List.nil_append, List.take_append_of_le_length (by omega), List.take_of_length_le (by omega)]
  · subst h
    have e1 : (i + 1 + t) * s = (D.take (i * s) ++ c).length + t * s := by rw [List.length_append, hA, hc]; simp [Nat.add_mul]
    rw [e1, ← List.drop_drop, List.drop_left, List.drop_drop]
    congr 2
    rw [Nat.add_mul]

theorem take_get? {α : Type} {l : List α} {i j : Nat} {x : α} : (l.take i ++ x :: l.drop i)[j]? = if j < i ∧ j < l.length then l[j]? else if j = min i l.length then some x else l[j - 1]? := by
  by_cases h1 : j < (l.take i).length
  · rw [List.getElem?_append_left h1]
    have h2 : j < i ∧ j < l.length := by simp at h1; omega
    rw [if_pos h2, List.getElem?_take_of_lt h2.1]
  · rw [List.getElem?_append_right (by omega)]
    have h2 : ¬ (j < i ∧ j < l.length) := by simp at h1; omega
    rw [if_neg h2]
    have hl : (l.take i).length = min i l.length := List.length_take
    by_cases h3 : j = min i l.length
    · rw [if_pos h3, hl, h3, Nat.sub_self]; rfl
    · rw [if_neg h3, hl]
      obtain ⟨k, hk⟩ : ∃ k, j - min i l.length = k + 1 := ⟨j - min i l.length - 1, by omega⟩
      rw [hk, List.getElem?_cons_succ, List.getElem?_drop]
      by_cases h4 : i ≤ l.length
      · congr 1; omega
      · rw [List.getElem?_eq_none (by omega), List.getElem?_eq_none (by omega)]

theorem flatten_ins {Fs : List (List Nat)} {K : List Nat} {i : Nat} : ∀ q, q ∈ (Fs.take i ++ K :: Fs.drop i).flatten ↔ q ∈ Fs.flatten ∨ q ∈ K := by
  intro q
  have h : Fs.flatten = (Fs.take i).flatten ++ (Fs.drop i).flatten := by rw [← List.flatten_append, List.take_append_drop]
  rw [h, List.flatten_append, List.flatten_cons]
  simp only [List.mem_append]
  constructor
  · rintro (h | h | h) <;> simp [h]
  · rintro ((h | h) | h) <;> simp [h]
theorem flatten_ins_nodup {Fs : List (List Nat)} {K : List Nat} {i : Nat} (h1 : Fs.flatten.Nodup) (h2 : K.Nodup) (h3 : ∀ q ∈ K, q ∉ Fs.flatten) : (Fs.take i ++ K :: Fs.drop i).flatten.Nodup := by
  have h : Fs.flatten = (Fs.take i).flatten ++ (Fs.drop i).flatten := by rw [← List.flatten_append, List.take_append_drop]
  rw [h] at h1 h3
  rw [List.flatten_append, List.flatten_cons]
  obtain ⟨a1, a2, a3⟩ := List.nodup_append.1 h1
  refine List.nodup_append.2 ⟨a1, List.nodup_append.2 ⟨h2, a2, fun a ha b hb e => ?_⟩, fun a ha b hb e => ?_⟩
  · subst e; exact h3 a ha (List.mem_append_right _ hb)
  · subst e
    rcases List.mem_append.1 hb with hb | hb
    · exact h3 a hb (List.mem_append_left _ ha)
    · exact a3 a ha a hb rfl

/-- An element of its own is inserted. -/
theorem insertF (h : AtF G (.slice sh) [v] (.lst (l.map f)) F) (hn : F.Nodup) {x : α} {c : List V} {K : List Nat} (hx : AtF G sh c (f x) K) (hxn : K.Nodup) (hd : ∀ q ∈ K, q ∉ F) {i : Nat} (hi : i ≤ l.length) (hl : l.length ≤ 1000000) (hs : sh.size ≠ 0) :
    ∃ v' G' F', insertPrim sh.size [v, .int .i64 i, .slc (some (G.length, 0)) 1] (G ++ [.mk true sh.size c]) = some (v', G') ∧ AtF G' (.slice sh) [v'] (.lst ((l.take i ++ x :: l.drop i).map f)) F' ∧ F'.Nodup ∧
      (∀ q ∈ F', q ∈ F ∨ q ∈ K ∨ q = G.length + 1) ∧ (∀ q, q ∉ F → q < G.length → G'[q]? = G[q]?) ∧ G'.length = G.length + 2 ∧ v' = .slc (some (G.length + 1, 0)) (l.length + 1) := by
  obtain ⟨w, us, hw, hus, hlen, h⟩ := AtF_slice.1 h
  cases hw
  cases hus
  have hcl : c.length = sh.size := At.len _ (AtF.at _ hx)
  have hco : c.all isOne = true := At.ones _ (AtF.at _ hx)
  have hget : (G ++ [Ob.mk true sh.size c])[G.length]? = some (.mk true sh.size c) := get_last
  have hK := AtF.mem _ hx
  have hcond : sh.size = sh.size ∧ c.length = sh.size ∧ (0 : Int) ≤ (i : Int) ∧ (i : Int) ≤ ((l.length : Nat) : Int) ∧ l.length ≤ 1000000 ∧ c.all isOne = true := ⟨rfl, hcl, by omega, by omega, hl, hco⟩
  rcases h with ⟨rfl, hl0, rfl⟩ | ⟨id, off, cells, Fs, rfl, h2, h3, h4, rfl, h6⟩
  · have hl0 : l = [] := by simpa using hl0
    subst hl0
    have hi0 : i = 0 := by simpa using hi
    subst hi0
    refine ⟨.slc (some (G.length + 1, 0)) 1, G ++ [.mk true sh.size c] ++ [.mk true sh.size c], (G.length + 1) :: K, ?_, ?_, ?_, fun q hq => ?_, fun q _ hq => ?_, by simp, by simp⟩
    · simp [insertPrim, hcl, hco]
    · refine AtF_slice.2 ⟨_, [f x], rfl, rfl, by simp [maxLen], .inr ⟨G.length + 1, 0, c, [K], rfl, by simp, by simp [hcl], rfl, by simp, fun j y Fj hy hFj => ?_⟩⟩
      have hj : j = 0 := by have := (List.getElem?_eq_some_iff.1 hy).1; simpa using this
      subst hj
      cases hy
      cases hFj
      rw [Nat.zero_mul, Nat.add_zero, List.drop_zero, List.take_of_length_le (by omega)]
      exact hx.ext.ext
    · exact List.nodup_cons.2 ⟨fun hm => by have := hK _ hm; omega, hxn⟩
    · rcases List.mem_cons.1 hq with rfl | hq
      · exact .inr (.inr rfl)
      · exact .inr (.inl hq)
    · rw [List.append_assoc, List.getElem?_append_left hq]
  · rw [List.length_map] at h3 h4 hlen
    have hid : id < G.length := (List.getElem?_eq_some_iff.1 h2).1
    have hidx : id ≠ G.length := by omega
    obtain ⟨D, hD⟩ : ∃ D, D = (cells.drop off).take (l.length * sh.size) := ⟨_, rfl⟩
    have hDl : D.length = l.length * sh.size := by rw [hD]; simp; omega
    have hg2 : (G ++ [Ob.mk true sh.size c])[id]? = some (.mk true sh.size cells) := up_append _ _ h2
    have him : i * sh.size ≤ l.length * sh.size := Nat.mul_le_mul_right _ hi
    have hcells : ((cells.drop off).take (i * sh.size)) ++ c ++ (((cells.drop off).take (l.length * sh.size)).drop (i * sh.size)) = D.take (i * sh.size) ++ c ++ D.drop (i * sh.size) := by
      rw [hD, List.take_take, Nat.min_eq_left him]
    obtain ⟨N, hN⟩ : ∃ N, N = D.take (i * sh.size) ++ c ++ D.drop (i * sh.size) := ⟨_, rfl⟩
    have hNl : N.length = (l.length + 1) * sh.size := by
      have e1 : (D.take (i * sh.size)).length = i * sh.size := by rw [List.length_take, hDl]; omega
      rw [hN, List.length_append, List.length_append, e1, hcl, List.length_drop, hDl, Nat.add_mul]; omega
    have hlen2 : ((G ++ [Ob.mk true sh.size c]).set id .dead).length = G.length + 1 := by simp
    have hfr : ∀ q, q ≠ id → q < G.length → ((G ++ [Ob.mk true sh.size c]).set id .dead ++ [Ob.mk true sh.size N])[q]? = G[q]? := fun q hq hql => by
      rw [List.getElem?_append_left (by omega), List.getElem?_set_ne (fun e => hq e.symm), List.getElem?_append_left hql]
    obtain ⟨hnid, hnf⟩ := List.nodup_cons.1 hn
    have hFlt : ∀ j y Fj, (l.map f)[j]? = some y → Fs[j]? = some Fj → ∀ q ∈ Fj, q < G.length ∧ q ≠ id := fun j y Fj hy hFj q hq => ⟨AtF.mem _ (h6 j y Fj hy hFj) q hq, fun e => hnid (e ▸ List.mem_flatten.2 ⟨Fj, List.mem_of_getElem? hFj, hq⟩)⟩
    have hlen3 : (l.take i ++ x :: l.drop i).length = l.length + 1 := by simp; omega
    have hKid : id ∉ K := fun hm => hd id hm List.mem_cons_self
    refine ⟨.slc (some (G.length + 1, 0)) (l.length + 1), (G ++ [Ob.mk true sh.size c]).set id .dead ++ [Ob.mk true sh.size N], (G.length + 1) :: (Fs.take i ++ K :: Fs.drop i).flatten, ?_, ?_, ?_, fun q hq => ?_, fun q hqF hq => hfr q (fun e => hqF (by rw [e]; exact List.mem_cons_self)) hq, by simp, by simp⟩
    · have hone : ((cells.drop off).take (l.length * sh.size)).all isOne = true := by
        rw [← hD]
        refine rows_ones hDl fun j hj => ?_
        obtain ⟨Fj, hFj⟩ : ∃ Fj, Fs[j]? = some Fj := ⟨_, List.getElem?_eq_getElem (by omega)⟩
        have h7 := h6 j (f l[j]) Fj (by rw [List.getElem?_map, List.getElem?_eq_getElem hj]; rfl) hFj
        rw [hD, row_chunk h3 hj]
        exact At.ones _ (AtF.at _ h7)
      simp only [insertPrim, hget, List.length_map, hg2]
      rw [if_pos ⟨trivial, hcond.2⟩, if_pos ⟨trivial, hidx, h3, hone⟩, Int.toNat_natCast, hcells, ← hN]
      simp
    · refine AtF_slice.2 ⟨.slc (some (G.length + 1, 0)) (l.length + 1), (l.take i ++ x :: l.drop i).map f, rfl, rfl, by rw [List.length_map, hlen3]; unfold maxLen; omega, .inr ⟨G.length + 1, 0, N, Fs.take i ++ K :: Fs.drop i, by rw [List.length_map, hlen3], by rw [← hlen2, get_last], by rw [List.length_map, hlen3, hNl]; omega, by rw [List.length_map, hlen3]; simp; omega, rfl, fun j y Fj hy hFj => ?_⟩⟩
      rw [List.getElem?_map, take_get?] at hy
      rw [take_get?] at hFj
      obtain ⟨c1, c2, c3⟩ := ins_chunk (j := j) hDl hcl hi
      rw [← hN] at c1 c2 c3
      rw [Nat.zero_add]
      have hmin : min i l.length = i := by omega
      have hmin' : min i Fs.length = i := by omega
      by_cases j1 : j < i
      · rw [if_pos ⟨j1, by omega⟩] at hy hFj
        rw [c1 j1, hD, row_chunk h3 (by omega)]
        have h7 := h6 j y Fj (by rw [List.getElem?_map]; exact hy) hFj
        exact AtF.frame _ (fun q hq => hfr q (hFlt j y Fj (by rw [List.getElem?_map]; exact hy) hFj q hq).2 (hFlt j y Fj (by rw [List.getElem?_map]; exact hy) hFj q hq).1) h7
      · rw [if_neg (by omega)] at hy hFj
        by_cases j2 : j = i
        · rw [hmin, if_pos j2] at hy
          rw [hmin', if_pos j2] at hFj
          cases hy
          cases hFj
          rw [c2 j2]
          exact AtF.frame _ (fun q hq => hfr q (fun e => hKid (e ▸ hq)) (hK q hq)) hx
        · rw [hmin, if_neg j2] at hy
          rw [hmin', if_neg j2] at hFj
          obtain ⟨t, ht⟩ : ∃ t, j = i + 1 + t := ⟨j - i - 1, by omega⟩
          have hj1 : j - 1 = i + t := by omega
          rw [hj1] at hy hFj
          have hlt : i + t < l.length := by
            cases hh : l[i + t]? with
            | none => rw [hh] at hy; cases hy
            | some z => exact (List.getElem?_eq_some_iff.1 hh).1
          rw [c3 t ht, hD, row_chunk h3 hlt]
          have h7 := h6 (i + t) y Fj (by rw [List.getElem?_map]; exact hy) hFj
          exact AtF.frame _ (fun q hq => hfr q (hFlt _ y Fj (by rw [List.getElem?_map]; exact hy) hFj q hq).2 (hFlt _ y Fj (by rw [List.getElem?_map]; exact hy) hFj q hq).1) h7
    · refine List.nodup_cons.2 ⟨fun hm => ?_, flatten_ins_nodup hnf hxn fun q hq hm => hd q hq (List.mem_cons_of_mem _ hm)⟩
      rcases (flatten_ins _).1 hm with hm | hm
      · obtain ⟨Fj, hF1, hF2⟩ := List.mem_flatten.1 hm
        obtain ⟨j, hj, rfl⟩ := List.getElem_of_mem hF1
        have := hFlt j ((l.map f)[j]'(by simp; omega)) Fs[j] (List.getElem?_eq_getElem _) (List.getElem?_eq_getElem _) _ hF2
        omega
      · have := hK _ hm; omega
    · rcases List.mem_cons.1 hq with rfl | hq
      · exact .inr (.inr rfl)
      · rcases (flatten_ins _).1 hq with hq | hq
        · exact .inl (List.mem_cons_of_mem _ hq)
        · exact .inr (.inl hq)
end

theorem setRange_in {cells xs : List V} {o t s : Nat} (h : o + xs.length ≤ cells.length) (ht : t + s ≤ xs.length) : ((setRange cells o xs).drop (o + t)).take s = (xs.drop t).take s := by
  unfold setRange
  have h1 : (cells.take o).length = o := by simp; omega
  rw [List.append_assoc, ← List.drop_drop, List.drop_left' h1, List.drop_append_of_le_length (by omega), List.take_append_of_le_length (by simp; omega)]
theorem setRange_nil {cells : List V} {o : Nat} : setRange cells o [] = cells := by simp [setRange]

section
variable {α : Type} {G : List Ob} {sh : Sh} {f : α → U} {v : V} {l : List α} {F : List Nat}
/-- An element is taken out where it stands. -/
theorem deleteF (h : AtF G (.slice sh) [v] (.lst (l.map f)) F) (hn : F.Nodup) {i : Nat} (hi : i < l.length) (z : List V) (hz : z.length = sh.size) :
    ∃ id off cells xs F', v = .slc (some (id, off)) l.length ∧ G[id]? = some (.mk true sh.size cells) ∧ off + l.length * sh.size ≤ cells.length ∧ xs = (cells.drop (off + (i + 1) * sh.size)).take ((l.length - (i + 1)) * sh.size) ∧ xs.length = (l.length - (i + 1)) * sh.size ∧ xs.all isOne = true ∧ id ∈ F ∧
      AtF (G.set id (.mk true sh.size (setRange (setRange cells (off + i * sh.size) xs) (off + (l.length - 1) * sh.size) z))) (.slice sh) [.slc (some (id, off)) (l.length - 1)] (.lst ((l.take i ++ l.drop (i + 1)).map f)) F' ∧ F'.Nodup ∧ ∀ q ∈ F', q ∈ F := by
  have h0 := h
  obtain ⟨w, us, hw, hus, hlen, h⟩ := AtF_slice.1 h
  cases hw
  cases hus
  rcases h with ⟨rfl, hl0, rfl⟩ | ⟨id, off, cells, Fs, rfl, h2, h3, h4, rfl, h6⟩
  · have hl0 : l = [] := by simpa using hl0
    subst hl0
    simp at hi
  rw [List.length_map] at h3 h4 hlen ⊢
  have hid : id < G.length := (List.getElem?_eq_some_iff.1 h2).1
  have hsl : ASl G sh f (.slc (some (id, off)) l.length) l := by have := AtF.at _ h0; rwa [List.length_map] at this
  obtain ⟨s, hs⟩ : ∃ s, s = sh.size := ⟨_, rfl⟩
  rw [← hs] at h2 h3 h6 hz ⊢
  obtain ⟨m, hm⟩ : ∃ m, l.length = i + 1 + m := ⟨l.length - (i + 1), by omega⟩
  have e1 : l.length - (i + 1) = m := by omega
  have e2 : l.length - 1 = i + m := by omega
  rw [e1, e2]
  have f1 : l.length * s = i * s + s + m * s := by rw [hm, Nat.add_mul, Nat.add_mul, Nat.one_mul]
  have f2 : (i + 1) * s = i * s + s := by rw [Nat.add_mul, Nat.one_mul]
  have f3 : (i + m) * s = i * s + m * s := Nat.add_mul _ _ _
  obtain ⟨xs, hxs⟩ : ∃ xs, xs = (cells.drop (off + (i + 1) * s)).take (m * s) := ⟨_, rfl⟩
  have hxl : xs.length = m * s := by rw [hxs]; simp; omega
  have hch : ∀ j, j < l.length → ((cells.drop (off + j * s)).take s).all isOne = true := fun j hj => by
    have := h6 j (f l[j]) (Fs[j]'(by omega)) (by rw [List.getElem?_map, List.getElem?_eq_getElem hj]; rfl) (List.getElem?_eq_getElem _)
    exact At.ones _ (AtF.at _ this)
  have hxo : xs.all isOne = true := rows_ones (n := m) (s := s) hxl fun j hj => by
    rw [hxs, row_chunk (by omega) hj, Nat.add_assoc, ← Nat.add_mul]
    exact hch _ (by omega)
  obtain ⟨hnid, hnf⟩ := List.nodup_cons.1 hn
  obtain ⟨N, hN⟩ : ∃ N, N = setRange (setRange cells (off + i * s) xs) (off + (i + m) * s) z := ⟨_, rfl⟩
  have hl1 : (setRange cells (off + i * s) xs).length = cells.length := setRange_len (by omega)
  have hNl : N.length = cells.length := by rw [hN, setRange_len (by rw [hl1, hz]; omega), hl1]
  have hfr : ∀ q, q ≠ id → (G.set id (.mk true s N))[q]? = G[q]? := fun q hq => List.getElem?_set_ne fun e => hq e.symm
  have hdec : Fs.flatten = (Fs.take i).flatten ++ (Fs.drop i).flatten := by rw [← List.flatten_append, List.take_append_drop]
  have hsub : List.Sublist (Fs.take i ++ Fs.drop (i + 1)).flatten Fs.flatten := by
    rw [hdec, List.flatten_append]
    refine List.Sublist.append (List.Sublist.refl _) ?_
    have hd : Fs.drop i = Fs[i]'(by omega) :: Fs.drop (i + 1) := List.drop_eq_getElem_cons (by omega)
    rw [hd, List.flatten_cons]
    exact List.sublist_append_right _ _
  have hlen3 : (l.take i ++ l.drop (i + 1)).length = i + m := by simp; omega
  refine ⟨id, off, cells, xs, id :: (Fs.take i ++ Fs.drop (i + 1)).flatten, rfl, h2, h3, hxs, hxl, hxo, List.mem_cons_self, ?_, List.nodup_cons.2 ⟨fun hm => hnid (hsub.subset hm), hnf.sublist hsub⟩, fun q hq => ?_⟩
  · rw [← hN]
    refine AtF_slice.2 ⟨_, _, rfl, rfl, by rw [List.length_map, hlen3]; omega, .inr ⟨id, off, N, Fs.take i ++ Fs.drop (i + 1), by rw [List.length_map, hlen3], by rw [List.getElem?_set_self hid, hs], by rw [List.length_map, hlen3, hNl, ← hs]; omega, by rw [List.length_map, hlen3]; simp; omega, rfl, fun j y Fj hy hFj => ?_⟩⟩
    rw [← hs]
    rw [List.getElem?_map] at hy
    have hj : j < i + m := by
      cases hh : (l.take i ++ l.drop (i + 1))[j]? with
      | none => rw [hh] at hy; cases hy
      | some z => have := (List.getElem?_eq_some_iff.1 hh).1; omega
    have hjs : j * s + s ≤ (i + m) * s := mul_step hj
    have hz2 : ((N.drop (off + j * s)).take s) = ((setRange cells (off + i * s) xs).drop (off + j * s)).take s := by
      rw [hN]
      exact setRange_apart (by rw [hl1, hz]; omega) (.inl (by omega))
    rw [hz2]
    by_cases j1 : j < i
    · have hjs' : j * s + s ≤ i * s := mul_step j1
      rw [setRange_apart (by omega) (.inl (by omega))]
      rw [List.getElem?_append_left (by simp; omega), List.getElem?_take_of_lt j1] at hy hFj
      have h7 := h6 j y Fj (by rw [List.getElem?_map]; exact hy) hFj
      exact AtF.frame _ (fun q hq => hfr q fun e => hnid (e ▸ List.mem_flatten.2 ⟨Fj, List.mem_of_getElem? hFj, hq⟩)) h7
    · obtain ⟨t, ht⟩ : ∃ t, j = i + t := ⟨j - i, by omega⟩
      subst ht
      have htm : t < m := by omega
      have hts : t * s + s ≤ m * s := mul_step htm
      have e5 : off + (i + t) * s = off + i * s + t * s := by rw [Nat.add_mul]; omega
      rw [e5, setRange_in (by omega) (by omega), hxs, row_chunk (by omega) htm]
      have e6 : off + (i + 1) * s + t * s = off + (i + 1 + t) * s := by rw [Nat.add_mul (i + 1) t]; omega
      rw [e6]
      rw [List.getElem?_append_right (by rw [List.length_take]; omega), List.getElem?_drop] at hy
      rw [List.getElem?_append_right (by rw [List.length_take]; omega), List.getElem?_drop] at hFj
      have e7 : (l.take i).length = i := by simp; omega
      have e8 : (Fs.take i).length = i := by simp; omega
      rw [e7] at hy
      rw [e8] at hFj
      rw [show i + 1 + (i + t - i) = i + 1 + t by omega] at hy hFj
      have h7 := h6 (i + 1 + t) y Fj (by rw [List.getElem?_map]; exact hy) hFj
      exact AtF.frame _ (fun q hq => hfr q fun e => hnid (e ▸ List.mem_flatten.2 ⟨Fj, List.mem_of_getElem? hFj, hq⟩)) h7
  · rcases List.mem_cons.1 hq with rfl | hq
    · exact List.mem_cons_self
    · exact List.mem_cons_of_mem _ (hsub.subset hq)
end

section
variable {α : Type} {G : List Ob} {sh : Sh} {f : α → U} {v : V} {l : List α} {F : List Nat}
/-- An element is set. -/
theorem replaceF (h : AtF G (.slice sh) [v] (.lst (l.map f)) F) (hn : F.Nodup) {i : Nat} (hi : i < l.length) {x : α} {c : List V} {K : List Nat} (hx : AtF G sh c (f x) K) (hxn : K.Nodup) (hd : ∀ q ∈ K, q ∉ F) :
    ∃ id off cells F', v = .slc (some (id, off)) l.length ∧ G[id]? = some (.mk true sh.size cells) ∧ off + l.length * sh.size ≤ cells.length ∧ id ∈ F ∧
      AtF (G.set id (.mk true sh.size (setRange cells (off + i * sh.size) c))) (.slice sh) [v] (.lst ((l.set i x).map f)) F' ∧ F'.Nodup ∧ ∀ q ∈ F', q ∈ F ∨ q ∈ K := by
  obtain ⟨w, us, hw, hus, hlen, h⟩ := AtF_slice.1 h
  cases hw
  cases hus
  have hcl : c.length = sh.size := At.len _ (AtF.at _ hx)
  rcases h with ⟨rfl, hl0, rfl⟩ | ⟨id, off, cells, Fs, rfl, h2, h3, h4, rfl, h6⟩
  · have hl0 : l = [] := by simpa using hl0
    subst hl0
    simp at hi
  rw [List.length_map] at h3 h4 hlen ⊢
  have hid : id < G.length := (List.getElem?_eq_some_iff.1 h2).1
  have his : i * sh.size + sh.size ≤ l.length * sh.size := mul_step hi
  obtain ⟨hnid, hnf⟩ := List.nodup_cons.1 hn
  have hKid : id ∉ K := fun hm => hd id hm List.mem_cons_self
  obtain ⟨N, hN⟩ : ∃ N, N = setRange cells (off + i * sh.size) c := ⟨_, rfl⟩
  have hNl : N.length = cells.length := by rw [hN, setRange_len (by omega)]
  have hfr : ∀ q, q ≠ id → (G.set id (.mk true sh.size N))[q]? = G[q]? := fun q hq => List.getElem?_set_ne fun e => hq e.symm
  have hset : Fs.set i K = Fs.take i ++ K :: Fs.drop (i + 1) := by rw [List.set_eq_take_append_cons_drop, if_pos (by omega)]
  have hdec : Fs.flatten = (Fs.take i).flatten ++ (Fs.drop i).flatten := by rw [← List.flatten_append, List.take_append_drop]
  have hd2 : Fs.drop i = Fs[i]'(by omega) :: Fs.drop (i + 1) := List.drop_eq_getElem_cons (by omega)
  have hmem : ∀ q ∈ (Fs.set i K).flatten, q ∈ Fs.flatten ∨ q ∈ K := fun q hq => by
    rw [hset, List.flatten_append, List.flatten_cons] at hq
    rw [hdec, hd2, List.flatten_cons]
    simp only [List.mem_append] at hq ⊢
    rcases hq with h | h | h <;> simp [h]
  refine ⟨id, off, cells, id :: (Fs.set i K).flatten, rfl, h2, h3, List.mem_cons_self, ?_, ?_, fun q hq => ?_⟩
  · rw [← hN]
    refine AtF_slice.2 ⟨_, _, rfl, rfl, by simpa using hlen, .inr ⟨id, off, N, Fs.set i K, by simp, List.getElem?_set_self hid, by simp [hNl]; exact h3, by simp [h4], rfl, fun j y Fj hy hFj => ?_⟩⟩
    rw [List.getElem?_map] at hy
    by_cases hji : j = i
    · subst hji
      rw [List.getElem?_set_self hi] at hy
      rw [List.getElem?_set_self (by omega)] at hFj
      cases hy
      cases hFj
      have := setRange_same (cells := cells) (c := c) (o := off + j * sh.size) (by omega)
      rw [hcl] at this
      rw [← hN] at this
      rw [this]
      exact AtF.frame _ (fun q hq => hfr q fun e => hKid (e ▸ hq)) hx
    · rw [List.getElem?_set_ne (fun e => hji e.symm)] at hy hFj
      have hj : j < l.length := by
        cases hh : l[j]? with
        | none => rw [hh] at hy; cases hy
        | some z => exact (List.getElem?_eq_some_iff.1 hh).1
      have hjs : j * sh.size + sh.size ≤ l.length * sh.size := mul_step hj
      have hap : j * sh.size + sh.size ≤ i * sh.size ∨ i * sh.size + sh.size ≤ j * sh.size := by
        rcases Nat.lt_or_gt_of_ne hji with hlt | hlt
        · exact .inl (mul_step hlt)
        · exact .inr (mul_step hlt)
      have hz : (N.drop (off + j * sh.size)).take sh.size = (cells.drop (off + j * sh.size)).take sh.size := by rw [hN]; exact setRange_apart (by omega) (by omega)
      rw [hz]
      have h7 := h6 j y Fj (by rw [List.getElem?_map]; exact hy) hFj
      exact AtF.frame _ (fun q hq => hfr q fun e => hnid (e ▸ List.mem_flatten.2 ⟨Fj, List.mem_of_getElem? hFj, hq⟩)) h7
  · refine List.nodup_cons.2 ⟨fun hm => (hmem _ hm).elim hnid hKid, ?_⟩
    rw [hset, List.flatten_append, List.flatten_cons]
    rw [hdec, hd2, List.flatten_cons] at hnf
    obtain ⟨a1, a2, a3⟩ := List.nodup_append.1 hnf
    obtain ⟨b1, b2, b3⟩ := List.nodup_append.1 a2
    have hdK : ∀ q ∈ K, q ∉ Fs.flatten := fun q hq hm => hd q hq (List.mem_cons_of_mem _ hm)
    rw [hdec, hd2, List.flatten_cons] at hdK
    refine List.nodup_append.2 ⟨a1, List.nodup_append.2 ⟨hxn, b2, fun a ha b hb e => ?_⟩, fun a ha b hb e => ?_⟩
    · subst e; exact hdK a ha (by simp [hb])
    · subst e
      rcases List.mem_append.1 hb with hb | hb
      · exact hdK a hb (by simp [ha])
      · exact a3 a ha a (by simp [hb]) rfl
  · rcases List.mem_cons.1 hq with rfl | hq
    · exact .inl List.mem_cons_self
    · exact (hmem q hq).imp (List.mem_cons_of_mem _) fun h => h
end

/-! ### The attributes, one of them set -/
theorem filt_take {α : Type} {p : α → Bool} {l : List α} {i : Nat} (h1 : ∀ q x, q < i → l[q]? = some x → p x = true) (h2 : ∀ q x, i ≤ q → l[q]? = some x → p x = false) : l.filter p = l.take i := by
  have : l.filter p = (l.take i).filter p ++ (l.drop i).filter p := by rw [← List.filter_append, List.take_append_drop]
  rw [this, List.filter_eq_self.2, List.filter_eq_nil_iff.2, List.append_nil]
  · intro x hx
    obtain ⟨j, hj, rfl⟩ := List.getElem_of_mem hx
    rw [h2 (i + j) _ (by omega) (by rw [← List.getElem?_drop]; exact List.getElem?_eq_getElem hj)]
    decide
  · intro x hx
    obtain ⟨j, hj, rfl⟩ := List.getElem_of_mem hx
    have hj2 : j < i := by rw [List.length_take] at hj; omega
    exact h1 j _ hj2 (by rw [← List.getElem?_take_of_lt hj2]; exact List.getElem?_eq_getElem hj)
theorem filt_drop {α : Type} {p : α → Bool} {l : List α} {i : Nat} (h1 : ∀ q x, q < i → l[q]? = some x → p x = false) (h2 : ∀ q x, i ≤ q → l[q]? = some x → p x = true) : l.filter p = l.drop i := by
  have : l.filter p = (l.take i).filter p ++ (l.drop i).filter p := by rw [← List.filter_append, List.take_append_drop]
  rw [this, List.filter_eq_nil_iff.2, List.nil_append, List.filter_eq_self.2]
  · intro x hx
    obtain ⟨j, hj, rfl⟩ := List.getElem_of_mem hx
    exact h2 (i + j) _ (by omega) (by rw [← List.getElem?_drop]; exact List.getElem?_eq_getElem hj)
  · intro x hx
    obtain ⟨j, hj, rfl⟩ := List.getElem_of_mem hx
    have hj2 : j < i := by rw [List.length_take] at hj; omega
    rw [h1 j _ hj2 (by rw [← List.getElem?_take_of_lt hj2]; exact List.getElem?_eq_getElem hj)]
    decide
end Go.Lite
end

section
namespace Go.Lite
open Go
set_option linter.unusedSimpArgs false
set_option linter.unusedVariables false

/-- A row that the call itself lays, over a heap that stood before. -/
def Rw (s : Nat) (B G : List Ob) (v : V) (n : Nat) (cs : List V) : Prop :=
  (∃ T, G = B ++ T) ∧ cs.length = n * s ∧ ((v = .slc none 0 ∧ n = 0) ∨ ∃ id, v = .slc (some (id, 0)) n ∧ B.length ≤ id ∧ G[id]? = some (.mk true s cs))

section
variable {s n m : Nat} {B G : List Ob} {v : V} {cs xs : List V}
theorem Rw.nil : Rw s B B (.slc none 0) 0 [] := ⟨⟨[], by simp⟩, by simp, .inl ⟨rfl, rfl⟩⟩
theorem Rw.init (hB : ∃ T, G = B ++ T) : Rw s B (G ++ [.mk true s []]) (.slc (some (G.length, 0)) 0) 0 [] := by
  obtain ⟨T, rfl⟩ := hB
  exact ⟨⟨T ++ [.mk true s []], by simp⟩, by simp, .inr ⟨(B ++ T).length, rfl, by simp, get_last⟩⟩
theorem Rw.pre (h : Rw s B G v n cs) : ∃ T, G = B ++ T := h.1
theorem Rw.ext {T : List Ob} (h : Rw s B G v n cs) : Rw s B (G ++ T) v n cs := by
  obtain ⟨⟨S, rfl⟩, h2, h3⟩ := h
  exact ⟨⟨S ++ T, by simp⟩, h2, h3.imp id fun ⟨id, q1, q2, q3⟩ => ⟨id, q1, q2, up_append _ _ q3⟩⟩
theorem Rw.one (h : Rw s B G v n cs) : isOne v = true ∧ cellsOf v = some [v] := by
  rcases h.2.2 with ⟨rfl, _⟩ | ⟨id, rfl, _⟩ <;> exact ⟨rfl, rfl⟩
theorem Rw.many (h : Rw s B G v n cs) {d : LD} {by_ : Nat} {z : List V} {x : V} (hx : newCells ⟨d, s, by_, z⟩ G x = some (xs, m)) (hm : xs.length = m * s) (ho : xs.all isOne = true)
    (hz : z.length = s) (h0 : 0 < s) (hb0 : 0 < by_) (hb1 : by_ ≤ 1000000) (hb : (n + m) * by_ ≤ maxMade) :
    ∃ v' G', appendV ⟨d, s, by_, z⟩ G v x = some (v', G') ∧ Rw s B G' v' (n + m) (cs ++ xs) := by
  by_cases hm0 : m = 0
  · subst hm0
    have hx0 : xs = [] := List.length_eq_zero_iff.1 (by omega)
    subst hx0
    refine ⟨v, G, ?_, by simpa using h⟩
    unfold appendV
    rw [if_pos (by simp [growOk, h0, hb0, hb1, hz]), hx]
    simp only [if_true]
    rcases h.2.2 with ⟨rfl, _⟩ | ⟨id, rfl, _⟩ <;> rfl
  obtain ⟨⟨T, rfl⟩, h2, h3⟩ := h
  rcases h3 with ⟨rfl, rfl⟩ | ⟨id, rfl, q2, q3⟩
  · have hc0 : cs = [] := List.length_eq_zero_iff.1 (by omega)
    subst hc0
    refine ⟨_, _, appendV_nil hz h0 hb0 hb1 hx hm0 ho (by simpa using hb), ⟨T ++ [.mk true s xs], by simp⟩, by simp [hm], .inr ⟨(B ++ T).length, by simp, by simp, ?_⟩⟩
    rw [List.nil_append]; exact get_last
  · refine ⟨_, _, appendV_row hz h0 hb0 hb1 q3 h2 hx hm0 ho hb, ⟨T.set (id - B.length) .dead ++ [.mk true s (cs ++ xs)], ?_⟩, by simp [h2, hm, Nat.add_mul], .inr ⟨(B ++ T).length, rfl, by simp, ?_⟩⟩
    · rw [List.set_append_right _ _ q2, List.append_assoc]
    · have hl : ((B ++ T).set id .dead).length = (B ++ T).length := List.length_set
      rw [← hl, get_last]
end

/-- Elements in their cells, each with its own objects. -/
def RowsOk (B : List Ob) (sh : Sh) (cs : List V) (us : List U) (Fs : List (List Nat)) : Prop :=
  cs.length = us.length * sh.size ∧ Fs.length = us.length ∧ ∀ i x F, us[i]? = some x → Fs[i]? = some F → AtF B sh ((cs.drop (i * sh.size)).take sh.size) x F

section
variable {B G : List Ob} {sh : Sh} {cs cs' : List V} {us us' : List U} {Fs Fs' : List (List Nat)} {v : V}
theorem RowsOk.nil : RowsOk B sh [] [] [] := ⟨by simp, rfl, fun i x F h => by cases h⟩
theorem RowsOk.one {c : List V} {x : U} {F : List Nat} (h : AtF B sh c x F) : RowsOk B sh c [x] [F] := by
  have hl : c.length = sh.size := At.len _ (AtF.at _ h)
  refine ⟨by simp [hl], rfl, fun i y K hy hK => ?_⟩
  cases i with
  | zero => cases hy; cases hK; rw [Nat.zero_mul, List.drop_zero, List.take_of_length_le (by omega)]; exact h
  | succ i => cases hy
theorem RowsOk.take (h : RowsOk B sh cs us Fs) {k : Nat} (hk : k ≤ us.length) : RowsOk B sh (cs.take (k * sh.size)) (us.take k) (Fs.take k) := by
  obtain ⟨h1, h2, h3⟩ := h
  have hm : k * sh.size ≤ us.length * sh.size := Nat.mul_le_mul_right _ hk
  refine ⟨by simp [Nat.min_eq_left hk]; omega, by simp; omega, fun i x F hx hF => ?_⟩
  have hi : i < k := by have := (List.getElem?_eq_some_iff.1 hx).1; simp at this; omega
  rw [List.getElem?_take_of_lt hi] at hx hF
  have hs : i * sh.size + sh.size ≤ k * sh.size := mul_step hi
  have := h3 i x F hx hF
  rw [chunk_take hs]
  exact this
theorem RowsOk.drop (h : RowsOk B sh cs us Fs) {k : Nat} (hk : k ≤ us.length) : RowsOk B sh (cs.drop (k * sh.size)) (us.drop k) (Fs.drop k) := by
  obtain ⟨h1, h2, h3⟩ := h
  refine ⟨by simp [h1, Nat.sub_mul], by simp; omega, fun i x F hx hF => ?_⟩
  rw [List.getElem?_drop] at hx hF
  have := h3 (k + i) x F hx hF
  rw [List.drop_drop, ← Nat.add_mul]
  exact this
theorem RowsOk.append (h : RowsOk B sh cs us Fs) (h' : RowsOk B sh cs' us' Fs') : RowsOk B sh (cs ++ cs') (us ++ us') (Fs ++ Fs') := by
  obtain ⟨h1, h2, h3⟩ := h
  obtain ⟨k1, k2, k3⟩ := h'
  refine ⟨by simp [h1, k1, Nat.add_mul], by simp [h2, k2], fun i x F hx hF => ?_⟩
  by_cases hi : i < us.length
  · rw [List.getElem?_append_left hi] at hx
    rw [List.getElem?_append_left (by omega)] at hF
    have hs : i * sh.size + sh.size ≤ us.length * sh.size := mul_step hi
    rw [List.drop_append_of_le_length (by omega), List.take_append_of_le_length (by simp; omega)]
    exact h3 i x F hx hF
  · obtain ⟨t, rfl⟩ : ∃ t, i = us.length + t := ⟨i - us.length, by omega⟩
    rw [List.getElem?_append_right (by omega)] at hx hF
    rw [show us.length + t - us.length = t by omega] at hx
    rw [show us.length + t - Fs.length = t by omega] at hF
    have e : (us.length + t) * sh.size = cs.length + t * sh.size := by rw [Nat.add_mul, h1]
    rw [e, List.drop_append, List.drop_eq_nil_of_le (by omega), List.nil_append, Nat.add_sub_cancel_left]
    exact k3 t x F hx hF
theorem RowsOk.ones (h : RowsOk B sh cs us Fs) : cs.all isOne = true := by
  refine rows_ones (n := us.length) (s := sh.size) h.1 fun j hj => ?_
  have hF : j < Fs.length := by rw [h.2.1]; exact hj
  exact At.ones _ (AtF.at _ (h.2.2 j us[j] Fs[j] (List.getElem?_eq_getElem hj) (List.getElem?_eq_getElem hF)))
theorem RowsOk.mem (h : RowsOk B sh cs us Fs) : ∀ q ∈ Fs.flatten, q < B.length := fun q hq => by
  obtain ⟨F, hF, hq⟩ := List.mem_flatten.1 hq
  obtain ⟨i, hi, rfl⟩ := List.getElem_of_mem hF
  have hi' : i < us.length := by rw [← h.2.1]; exact hi
  exact AtF.mem _ (h.2.2 i us[i] Fs[i] (List.getElem?_eq_getElem hi') (List.getElem?_eq_getElem hi)) q hq
theorem RowsOk.frame (h : RowsOk B sh cs us Fs) (hG : ∀ q ∈ Fs.flatten, G[q]? = B[q]?) : RowsOk G sh cs us Fs :=
  ⟨h.1, h.2.1, fun i x F hx hF => AtF.frame _ (fun q hq => hG q (List.mem_flatten.2 ⟨F, List.mem_of_getElem? hF, hq⟩)) (h.2.2 i x F hx hF)⟩

/-- A row that was laid of such elements. -/
theorem Rw.slF {n : Nat} (h : Rw sh.size B G v n cs) (hr : RowsOk B sh cs us Fs) (hl : us.length = n) (hb : n ≤ maxLen) (hn : Fs.flatten.Nodup) :
    ∃ F, AtF G (.slice sh) [v] (.lst us) F ∧ F.Nodup ∧ ∀ q ∈ F, q < G.length ∧ (q ∈ Fs.flatten ∨ B.length ≤ q) := by
  obtain ⟨⟨T, rfl⟩, h2, h3⟩ := h
  subst hl
  rcases h3 with ⟨rfl, h0⟩ | ⟨id, rfl, q2, q3⟩
  · have hu : us = [] := List.length_eq_zero_iff.1 h0
    subst hu
    exact ⟨[], AtF_slice.2 ⟨_, _, rfl, rfl, by simp, .inl ⟨rfl, rfl, rfl⟩⟩, List.nodup_nil, fun q hq => by cases hq⟩
  · have hm := hr.mem
    refine ⟨id :: Fs.flatten, AtF_slice.2 ⟨_, _, rfl, rfl, hb, .inr ⟨id, 0, cs, Fs, rfl, q3, by rw [hr.1]; omega, hr.2.1, rfl, fun i x F hx hF => ?_⟩⟩, List.nodup_cons.2 ⟨fun hq => by have := hm id hq; omega, hn⟩, fun q hq => ?_⟩
    · rw [Nat.zero_add]
      exact (hr.2.2 i x F hx hF).ext
    · rcases List.mem_cons.1 hq with rfl | hq
      · exact ⟨(List.getElem?_eq_some_iff.1 q3).1, .inr q2⟩
      · exact ⟨by have := hm q hq; simp; omega, .inl hq⟩

/-- The cells of a slice's own elements, and of its parts. -/
theorem AtF.rows {F : List Nat} (h : AtF B (.slice sh) [v] (.lst us) F) (hn : F.Nodup) : ∃ p cs Fs, v = .slc p us.length ∧ RowsOk B sh cs us Fs ∧ Fs.flatten.Nodup ∧ (∀ q ∈ Fs.flatten, q ∈ F) ∧
    ((p = none ∧ us = []) ∨ ∃ id off cells, p = some (id, off) ∧ B[id]? = some (.mk true sh.size cells) ∧ id ∈ F ∧ id ∉ Fs.flatten ∧
      ∀ (d : LD) (by_ : Nat) (z : List V) (G : List Ob) (lo hi : Nat), G[id]? = B[id]? → lo ≤ hi → hi ≤ us.length →
        newCells ⟨d, sh.size, by_, z⟩ G (.slc (some (id, off + lo * sh.size)) (hi - lo)) = some ((cs.drop (lo * sh.size)).take ((hi - lo) * sh.size), hi - lo)) := by
  obtain ⟨w, us', hw, hus, hlen, h⟩ := AtF_slice.1 h
  cases hw
  cases hus
  rcases h with ⟨rfl, rfl, rfl⟩ | ⟨id, off, cells, Fs, rfl, h2, h3, h4, rfl, h6⟩
  · exact ⟨none, [], [], rfl, RowsOk.nil, by simp, by simp, .inl ⟨rfl, rfl⟩⟩
  · obtain ⟨hn1, hn2⟩ := List.nodup_cons.1 hn
    have hcl : ((cells.drop off).take (us.length * sh.size)).length = us.length * sh.size := by simp; omega
    refine ⟨some (id, off), (cells.drop off).take (us.length * sh.size), Fs, rfl, ⟨hcl, h4, fun i x F hx hF => ?_⟩, hn2, fun q hq => List.mem_cons_of_mem _ hq, .inr ⟨id, off, cells, rfl, h2, List.mem_cons_self, hn1, fun d by_ z G lo hi hG hlo hhi => ?_⟩⟩
    · rw [row_chunk h3 (List.getElem?_eq_some_iff.1 hx).1]
      exact h6 i x F hx hF
    · have e1 : lo * sh.size + (hi - lo) * sh.size = hi * sh.size := by rw [← Nat.add_mul]; congr 1; omega
      have e2 : hi * sh.size ≤ us.length * sh.size := Nat.mul_le_mul_right _ hhi
      have e3 : (((cells.drop off).take (us.length * sh.size)).drop (lo * sh.size)).take ((hi - lo) * sh.size) = (cells.drop (off + lo * sh.size)).take ((hi - lo) * sh.size) := by
        rw [List.drop_take, List.take_take, List.drop_drop, Nat.min_eq_left (by omega)]
      rw [e3]
      simp only [newCells, slcCells, hG, h2]
      by_cases h0 : (hi - lo) * sh.size = 0
      · rw [if_pos h0, h0, List.take_zero]
      · rw [if_neg h0]
        unfold rdCells
        rw [if_pos (by omega)]
end
end Go.Lite
end

section
namespace Go.Lite
open Go
set_option linter.unusedSimpArgs false
set_option linter.unusedVariables false

section
variable {H S X : List Ob} {l : List Nat} {k : Nat} {o : Ob}
theorem hideL_app : hideL l H.length (H ++ S) = H ++ hideL l 0 S := by
  apply List.ext_getElem?
  intro i
  rw [hideL_get]
  by_cases hi : i < H.length
  · rw [List.getElem?_append_left hi, List.getElem?_append_left hi]
    cases H[i]? with
    | none => rfl
    | some o => rw [Option.map_some, if_neg (fun hc => absurd hc.1 (by omega))]
  · rw [List.getElem?_append_right (by omega), List.getElem?_append_right (by omega), hideL_get]
    have : (H.length ≤ i ∧ l.contains (i - H.length) = true) ↔ (0 ≤ i - H.length ∧ l.contains (i - H.length - 0) = true) := by simp; omega
    simp only [this]
theorem backL_app : backL l H.length (H ++ S) (H ++ X) = H ++ backL l 0 S X := by
  apply List.ext_getElem?
  intro i
  rw [backL_get]
  by_cases hi : i < H.length
  · rw [List.getElem?_append_left hi, List.getElem?_append_left hi]
    cases H[i]? with
    | none => rfl
    | some o => rw [Option.map_some, if_neg (fun hc => absurd hc.1 (by omega))]
  · rw [List.getElem?_append_right (by omega), List.getElem?_append_right (by omega), backL_get]
    have : (H.length ≤ i ∧ l.contains (i - H.length) = true) ↔ (0 ≤ i - H.length ∧ l.contains (i - H.length - 0) = true) := by simp; omega
    simp only [this, List.getD_eq_getElem?_getD]
    rw [List.getElem?_append_right (by omega)]
theorem hideL_cons {o : Ob} {n : Nat} : hideL l n (o :: S) = (if n = 0 ∧ l.contains 0 = true then .dead else o) :: (if n = 0 then hideL (l.filterMap fun i => if i = 0 then none else some (i - 1)) 0 S else hideL l (n - 1) S) := by
  apply List.ext_getElem?
  intro i
  rw [hideL_get]
  cases i with
  | zero =>
    simp only [List.getElem?_cons_zero, Option.map_some, Nat.zero_sub]
    congr 1
    simp only [Nat.le_zero_eq]
  | succ i =>
    simp only [List.getElem?_cons_succ]
    by_cases hn : n = 0
    · subst hn
      simp only [if_true]
      rw [hideL_get]
      have : (0 ≤ i + 1 ∧ l.contains (i + 1 - 0) = true) ↔ (0 ≤ i ∧ (l.filterMap fun i => if i = 0 then none else some (i - 1)).contains (i - 0) = true) := by
        simp only [Nat.zero_le, true_and, Nat.sub_zero, List.contains_eq_mem, decide_eq_true_eq, List.mem_filterMap]
        constructor
        · intro h; exact ⟨i + 1, h, by simp⟩
        · rintro ⟨j, h1, h2⟩
          split at h2
          · cases h2
          · cases h2; rename_i hj; rwa [Nat.sub_add_cancel (by omega)]
      simp only [this]
    · simp only [hn, if_false]
      rw [hideL_get]
      have : (n ≤ i + 1 ∧ l.contains (i + 1 - n) = true) ↔ (n - 1 ≤ i ∧ l.contains (i - (n - 1)) = true) := by
        rw [show i + 1 - n = i - (n - 1) by omega]
        constructor <;> rintro ⟨h1, h2⟩ <;> exact ⟨by omega, h2⟩
      simp only [this]
theorem hideL_e {n : Nat} : hideL l n [] = [] := rfl
theorem set_app_at : (H ++ S).set (H.length + k) o = H ++ S.set k o := by
  rw [List.set_append_right _ _ (by omega), Nat.add_sub_cancel_left]
theorem set_app_0 : (H ++ S).set H.length o = H ++ S.set 0 o := by
  rw [List.set_append_right _ _ (by omega), Nat.sub_self]
theorem get_app_at : (H ++ S)[H.length + k]? = S[k]? := by
  rw [List.getElem?_append_right (by omega), Nat.add_sub_cancel_left]
end
end Go.Lite
end

section
namespace Go.Lite
open Go
set_option linter.unusedSimpArgs false
set_option linter.unusedVariables false

variable {H T : List Ob}

mutual
theorem At.one_datum : ∀ (sh : Sh) {cs : List V} {u u' : U}, At H sh cs u → At H sh cs u' → u = u'
  | .int k, _, _, _, h, h' => by
    simp only [At] at h h'
    obtain ⟨n, rfl, rfl, _⟩ := h
    obtain ⟨n', e, rfl, _⟩ := h'
    cases e; rfl
  | .bool, _, _, _, h, h' => by
    simp only [At] at h h'
    obtain ⟨n, rfl, rfl⟩ := h
    obtain ⟨n', e, rfl⟩ := h'
    cases e; rfl
  | .str, _, _, _, h, h' => by
    simp only [At] at h h'
    obtain ⟨n, rfl, rfl, _⟩ := h
    obtain ⟨n', e, rfl, _⟩ := h'
    cases e; rfl
  | .slice e, _, _, _, h, h' => by
    simp only [At] at h h'
    obtain ⟨v, l, rfl, rfl, _, h⟩ := h
    obtain ⟨v', l', hv, rfl, _, h'⟩ := h'
    cases hv
    congr 1
    rcases h with ⟨rfl, rfl⟩ | ⟨id, off, own, cells, rfl, h2, h3, h4⟩
    · rcases h' with ⟨_, rfl⟩ | ⟨id, off, own, cells, e, _⟩
      · rfl
      · cases e
    · rcases h' with ⟨e, _⟩ | ⟨id', off', own', cells', e, g2, g3, g4⟩
      · cases e
      · simp only [V.slc.injEq, Option.some.injEq, Prod.mk.injEq] at e
        obtain ⟨⟨rfl, rfl⟩, hl⟩ := e
        rw [h2] at g2
        cases g2
        refine List.ext_getElem hl fun i h1 h5 => ?_
        exact At.one_datum e (h4 i _ (List.getElem?_eq_getElem h1)) (g4 i _ (List.getElem?_eq_getElem h5))
  | .st fs, _, _, _, h, h' => by
    simp only [At] at h h'
    obtain ⟨us, rfl, h⟩ := h
    obtain ⟨us', rfl, h'⟩ := h'
    rw [Ats.one_datum fs h h']
theorem Ats.one_datum : ∀ (fs : List Sh) {cs : List V} {us us' : List U}, Ats H fs cs us → Ats H fs cs us' → us = us'
  | [], _, _, _, h, h' => by simp only [Ats] at h h'; rw [h.2, h'.2]
  | f :: fs, _, _, _, h, h' => by
    simp only [Ats] at h h'
    obtain ⟨c1, c2, u, us, rfl, rfl, h1, h2⟩ := h
    obtain ⟨d1, d2, u', us', e, rfl, g1, g2⟩ := h'
    have hl : c1.length = d1.length := by rw [At.len f h1, At.len f g1]
    obtain ⟨rfl, rfl⟩ := List.append_inj e hl
    rw [At.one_datum f h1 g1, Ats.one_datum fs h2 g2]
end

theorem lowV_slc_app {p : Option (Nat × Nat)} {n : Nat} (h : lowV H (.slc p n)) : lowV (H ++ T) (.slc p n) := by
  cases p with
  | none => trivial
  | some q =>
    obtain ⟨id, off⟩ := q
    obtain ⟨own, es, cells, h⟩ := h
    exact ⟨own, es, cells, up_append _ _ h⟩

theorem ASl.shape {α : Type} {sh : Sh} {f : α → U} {v : V} {l : List α} (h : ASl H sh f v l) : ∃ p, v = .slc p l.length := by
  rcases h.sub with ⟨rfl, rfl⟩ | ⟨id, off, own, cells, rfl, _⟩ <;> exact ⟨_, rfl⟩

theorem gcH_noext {G G' : List Ob} {r : V} (h : ¬ Ext G G') : gcH G G' r = G' := by
  unfold gcH
  rw [if_neg fun hc => h hc.1]
end Go.Lite
end

section
namespace Go.Proofs.Try1
open Go Go.Lite
set_option linter.unusedSimpArgs false
set_option linter.unusedVariables false

/-- What ValueAdd answers. -/
noncomputable def addOf (e : PEntry) (n v : Str) : PEntryOut :=
  if ∃ x ∈ valsOf e.attrs n, norm x = norm v then illE 7 else if 4 ≤ (valsOf e.attrs n).length ∨ (valsOf e.attrs n = [] ∧ 8 ≤ e.attrs.length) then illE 9 else ⟨setE e n (sortV (valsOf e.attrs n ++ [v])), 0⟩
noncomputable def valueAddOf (e : PEntry) (n v : Str) : PEntryOut :=
  if 8000 < n.length ∨ 8000 < v.length then illE 2 else if dec (EntryOk e ∧ NameOk n ∧ ValueOk v) = true then addOf e n v else illE 1

theorem s_Long2 {H : List Ob} {n v : Str} : callW C 113 [.str n, .str v] H = some (.bool (dec (8000 < n.length ∨ 8000 < v.length)), H) := by
  apply Ret.dec
  rw [op113]
  by_cases g1 : 8000 < n.length
  · have g1' : (8000 : Int) < n.length := by omega
    simp [code113, Tryz.f113, g1, g1']
  · have g1' : ¬ (8000 : Int) < n.length := by omega
    by_cases g2 : 8000 < v.length
    · have g2' : (8000 : Int) < v.length := by omega
      simp [code113, Tryz.f113, g1, g1', g2, g2']
    · have g2' : ¬ (8000 : Int) < v.length := by omega
      simp [code113, Tryz.f113, g1, g1', g2, g2']

/-- A list of texts, and one more, in a row of one's own; the one more was laid ahead. -/
theorem add_vals {H : List Ob} {w : V} {l : List Str} {v : Str} (hw : AStrs H w l) (hl : l.length ≤ 1000) (hv : v.length ≤ maxLen) :
    ∃ p1 X1, appendV ⟨.str, 1, 16, [.str []]⟩ (H ++ [.mk true 1 [], .dead]) (.slc (some (H.length, 0)) 0) w = some (p1, H ++ X1) ∧ backL [1] 0 [.mk true 1 [], .dead] X1 = X1 ∧ 2 ≤ X1.length ∧ isOne p1 = true ∧ cellsOf p1 = some [p1] ∧
      ∃ p2 X2, appendV ⟨.str, 1, 16, [.str []]⟩ (H ++ X1.set 1 (.mk true 1 [.str v])) p1 (.slc (some (H.length + 1, 0)) 1) = some (p2, H ++ X2) ∧ X1.length ≤ X2.length ∧ AStrs (H ++ X2) p2 (l ++ [v]) := by
  obtain ⟨p, rfl, hc, hp, _⟩ := strs_cells (T := [.mk true 1 [], .dead]) hw
  have hmx := hw.max
  have fin : ∀ (X : List Ob) (id : Nat), H.length ≤ id → (H ++ X)[id]? = some (.mk true 1 ((l ++ [v]).map V.str)) → AStrs (H ++ X) (.slc (some (id, 0)) (l.length + 1)) (l ++ [v]) := fun X id h1 h2 => by
    have hg : Gs H (H ++ X) (.slc (some (id, 0)) (l.length + 1)) ((l ++ [v]).map V.str) := ⟨X, id, rfl, h1, h2, by simp⟩
    refine (hg.strs (by simp [maxLen]; omega) fun s hs => ?_).1
    rcases List.mem_append.1 hs with h | h
    · exact hmx s h
    · rw [List.mem_singleton.1 h]; exact hv
  by_cases h0 : l.length = 0
  · have hl0 : l = [] := List.length_eq_zero_iff.1 h0
    subst hl0
    refine ⟨.slc (some (H.length, 0)) 0, [.mk true 1 [], .dead], ?_, rfl, by simp, rfl, rfl, ?_⟩
    · unfold appendV
      simp [growOk, newCells, slcCells]
      cases p <;> simp
    · have e : [Ob.mk true 1 [], .dead].set 1 (.mk true 1 [.str v]) = [.mk true 1 [], .mk true 1 [.str v]] := rfl
      rw [e]
      have hr : (H ++ [Ob.mk true 1 [], Ob.mk true 1 [.str v]])[H.length]? = some (.mk true 1 []) := by simp
      have hx : newCells ⟨.str, 1, 16, [.str []]⟩ (H ++ [Ob.mk true 1 [], Ob.mk true 1 [.str v]]) (.slc (some (H.length + 1, 0)) 1) = some ([.str v], 1) := by
        simp [newCells, slcCells, get_app_at, rdCells]
      have := appendV_row (n := 0) (by rfl) (by decide) (by decide) (by decide) hr (by simp) hx (by decide) (by rfl) (by simp [maxMade])
      refine ⟨.slc (some (H.length + 2, 0)) 1, [.dead, .mk true 1 [.str v], .mk true 1 [.str v]], by rw [this]; simp, by simp, ?_⟩
      have := fin [.dead, .mk true 1 [.str v], .mk true 1 [.str v]] (H.length + 2) (by omega) (by rw [get_app_at]; rfl)
      simpa using this
  · have hm : newCells ⟨.str, 1, 16, [.str []]⟩ (H ++ [Ob.mk true 1 [], .dead]) (.slc p l.length) = some (l.map V.str, l.length) := by
      simp [newCells, hc]
    have hr : (H ++ [Ob.mk true 1 [], .dead])[H.length]? = some (.mk true 1 []) := by simp
    have ha := appendV_row (n := 0) (by rfl) (by decide) (by decide) (by decide) hr (by simp) hm h0 (by simp [isOne]) (by unfold maxMade; omega)
    refine ⟨.slc (some (H.length + 2, 0)) l.length, [.dead, .dead, .mk true 1 (l.map V.str)], by rw [ha]; simp, rfl, by simp, rfl, rfl, ?_⟩
    have e : [Ob.dead, .dead, .mk true 1 (l.map V.str)].set 1 (.mk true 1 [.str v]) = [.dead, .mk true 1 [.str v], .mk true 1 (l.map V.str)] := rfl
    rw [e]
    have hr2 : (H ++ [Ob.dead, Ob.mk true 1 [.str v], .mk true 1 (l.map V.str)])[H.length + 2]? = some (.mk true 1 (l.map V.str)) := by rw [get_app_at]; rfl
    have hx : newCells ⟨.str, 1, 16, [.str []]⟩ (H ++ [Ob.dead, Ob.mk true 1 [.str v], .mk true 1 (l.map V.str)]) (.slc (some (H.length + 1, 0)) 1) = some ([.str v], 1) := by
      simp [newCells, slcCells, get_app_at, rdCells]
    have h2 := appendV_row (n := l.length) (by rfl) (by decide) (by decide) (by decide) hr2 (by simp) hx (by decide) (by rfl) (by unfold maxMade; omega)
    refine ⟨.slc (some (H.length + 3, 0)) (l.length + 1), [.dead, .mk true 1 [.str v], .dead, .mk true 1 ((l ++ [v]).map V.str)], by rw [h2]; simp [set_app_at], by simp, ?_⟩
    have := fin [.dead, .mk true 1 [.str v], .dead, .mk true 1 ((l ++ [v]).map V.str)] (H.length + 3) (by omega) (by rw [get_app_at]; rfl)
    simpa using this

set_option maxRecDepth 10000 in
set_option maxHeartbeats 8000000 in
theorem s_Add {H : List Ob} {vd va : V} {e : PEntry} {n v : Str} (hd : ARdns H vd e.dn) (ha : AAttrs H va e.attrs) (hb : SmallE e) (hp : e.attrs.Pairwise fun a b => a.name < b.name) (hn : n.length ≤ maxLen) (hv : v.length ≤ maxLen) (hvl : ∀ a ∈ e.attrs, a.vals.length ≤ 500) :
    ∃ q H', callW C 115 [.agg [vd, va], .str n, .str v] H = some (q, H') ∧ EOut H (addOf e n v) q H' := by
  suffices hs : Ret C 115 [.agg [vd, va], .str n, .str v] H fun q H' => EOut H (addOf e n v) q H' by
    obtain ⟨q, H', hc, hr⟩ := hs
    exact ⟨q, H', hc, hr⟩
  rw [op115]
  have hod := hd.one
  have hoa := ha.one
  obtain ⟨w, c1, hw⟩ := s_Of (t := n) ha hod.2 hod.1
  have hwl : (valsOf e.attrs n).length ≤ 500 := by
    unfold valsOf
    split
    · rename_i a h; exact hvl a (List.mem_of_find?_eq_some h)
    · simp
  have c2 := s_Norm (t := v) (H := H)
  obtain ⟨r, c3, hr⟩ := s_In (n := norm v) hw
  have c4 := s_Ill (H := H) (c := 7)
  have c5 := s_Ill (H := H) (c := 9)
  rcases hr with ⟨k, x, h1, h2, h3, rfl⟩ | ⟨h1, rfl⟩
  · have ho : addOf e n v = illE 7 := if_pos ⟨x, List.mem_of_getElem? h1, by simpa using h2⟩
    have hk : (0 : Int) ≤ k := by omega
    rw [ho]
    simp [code115, Tryz.f115, c1, c2, c3, c4, hk, hod, hoa]
    exact EOut.ill (by decide)
  have hno : ¬ ∃ x ∈ valsOf e.attrs n, norm x = norm v := by
    rintro ⟨x, hx, he⟩
    obtain ⟨j, hj, rfl⟩ := List.getElem_of_mem hx
    have := h1 j _ (List.getElem?_eq_getElem hj)
    simp [he] at this
  by_cases g : 4 ≤ (valsOf e.attrs n).length ∨ (valsOf e.attrs n = [] ∧ 8 ≤ e.attrs.length)
  · have ho : addOf e n v = illE 9 := by unfold addOf; rw [if_neg hno, if_pos g]
    rw [ho]
    by_cases g1 : 4 ≤ (valsOf e.attrs n).length
    · have g1' : (4 : Int) ≤ (valsOf e.attrs n).length := by omega
      simp [code115, Tryz.f115, c1, c2, c3, c5, hod, hoa, hw.len, g1']
      exact EOut.ill (by decide)
    · have g1' : ¬ (4 : Int) ≤ (valsOf e.attrs n).length := by omega
      obtain ⟨g2, g3⟩ := g.resolve_left g1
      have g2' : (valsOf e.attrs n).length = 0 := by rw [g2]; rfl
      have g3' : (8 : Int) ≤ e.attrs.length := by omega
      simp [code115, Tryz.f115, c1, c2, c3, c5, hod, hoa, hw.len, g1', g2, g3', ha.len]
      exact EOut.ill (by decide)
  have g1 : ¬ 4 ≤ (valsOf e.attrs n).length := fun h => g (.inl h)
  have g1' : ¬ (4 : Int) ≤ (valsOf e.attrs n).length := by omega
  have ho : addOf e n v = ⟨setE e n (sortV (valsOf e.attrs n ++ [v])), 0⟩ := by unfold addOf; rw [if_neg hno, if_neg g]
  obtain ⟨p1, X1, a1, x0, x1, o1, o1', p2, X2, a2, x2, hv2⟩ := add_vals (v := v) hw (by omega) hv
  obtain ⟨T, w1, w2, c6, hat, hnl⟩ := s_Set (H := H ++ X2) hd.ext ha.ext hb hp hn hv2 (by simp; omega)
  obtain ⟨v1, v2, hcs, b1, b2⟩ := entry_at.1 hat
  cases hcs
  have ho1 := b1.one
  have ho2 := b2.one
  have hnl' : ¬ lowV H w2 := fun h => hnl (by
    obtain ⟨p, rfl⟩ := b2.shape
    exact lowV_slc_app h)
  have hgc : gcH H (H ++ X2 ++ T) (.agg [w1, w2, .int .i64 0]) = H ++ X2 ++ T := by
    rw [List.append_assoc]
    exact gcH_not fun h => hnl' h.2.1
  rw [ho]
  have fin : EOut H ⟨setE e n (sortV (valsOf e.attrs n ++ [v])), 0⟩ (.agg [w1, w2, .int .i64 0]) (H ++ X2 ++ T) := ⟨X2 ++ T, w1, w2, rfl, by simp, by rw [← List.append_assoc]; exact entryOut_at.2 ⟨_, _, rfl, b1, b2, show (Lit.int .i64 0).wf = true by decide⟩, by rw [← List.append_assoc]; exact hgc⟩
  have hk1 : hideL [1] H.length (H ++ [.mk true 1 [], .dead]) = H ++ [.mk true 1 [], .dead] := by rw [hideL_app]; rfl
  have op2 : isOne p2 = true ∧ cellsOf p2 = some [p2] := hv2.one
  simp only [List.append_assoc] at hgc fin c6
  by_cases g2 : valsOf e.attrs n = []
  · have g3 : ¬ (8 : Int) ≤ e.attrs.length := fun h => g (.inr ⟨g2, by omega⟩)
    have g2' : ((valsOf e.attrs n).length : Int) = 0 := by rw [g2]; rfl
    simp [code115, Tryz.f115, c1, c2, c3, hod, hoa, hw.len, ha.len, g1', g2', g3, regionL_none, regionL_some, List.lookup, List.replicate, elemT, fillL, zerosL, set_app_at, set_app_0, hk1, hideL_nil, backL_nil, backL_app, x0, a1, a2, o1, o1', op2, x1, x2, c6, ho1, ho2, buildV, structPlace, hgc]
    exact fin
  · have g2' : ¬ ((valsOf e.attrs n).length : Int) = 0 := fun h => g2 (List.length_eq_zero_iff.1 (by omega))
    simp [code115, Tryz.f115, c1, c2, c3, hod, hoa, hw.len, ha.len, g1', g2, g2', regionL_none, regionL_some, List.lookup, List.replicate, elemT, fillL, zerosL, set_app_at, set_app_0, hk1, hideL_nil, backL_nil, backL_app, x0, a1, a2, o1, o1', op2, x1, x2, c6, ho1, ho2, buildV, structPlace, hgc]
    exact fin
end Go.Proofs.Try1
end

section
namespace Go.Proofs.Try1
open Go Go.Lite
set_option linter.unusedSimpArgs false
set_option linter.unusedVariables false

set_option maxRecDepth 10000 in
set_option maxHeartbeats 4000000 in
theorem s_ValueAdd {H : List Ob} {vd va : V} {e : PEntry} {n v : Str} (hd : ARdns H vd e.dn) (ha : AAttrs H va e.attrs) (hn : n.length ≤ maxLen) (hv : v.length ≤ maxLen) :
    ∃ q H', callW C 28 [.agg [vd, va], .str n, .str v] H = some (q, H') ∧ EOut H (valueAddOf e n v) q H' := by
  suffices hs : Ret C 28 [.agg [vd, va], .str n, .str v] H fun q H' => EOut H (valueAddOf e n v) q H' by
    obtain ⟨q, H', hc, hr⟩ := hs
    exact ⟨q, H', hc, hr⟩
  rw [op28]
  have hod := hd.one
  have hoa := ha.one
  have c0 := s_Long2 (n := n) (v := v) (H := H)
  have c1 := s_Ill (H := H) (c := 2)
  have c2 := s_Ill (H := H) (c := 1)
  have c3 := s_Entry hd ha
  have c4 := s_Name (t := n) (H := H)
  have c5 := s_Value (t := v) (H := H)
  by_cases g1 : 8000 < n.length ∨ 8000 < v.length
  · have ho : valueAddOf e n v = illE 2 := if_pos g1
    rw [dec_pos g1] at c0
    rw [ho]
    simp [code28, Tryz.f28, c0, c1, hod, hoa]
    exact EOut.ill (by decide)
  rw [dec_neg g1] at c0
  have ho0 : valueAddOf e n v = if dec (EntryOk e ∧ NameOk n ∧ ValueOk v) = true then addOf e n v else illE 1 := if_neg g1
  have hill : ¬ (EntryOk e ∧ NameOk n ∧ ValueOk v) → valueAddOf e n v = illE 1 := fun h => by rw [ho0, dec_neg h]; rfl
  by_cases h1 : EntryOk e
  rotate_left
  · rw [dec_neg h1] at c3
    rw [hill fun h => h1 h.1]
    simp [code28, Tryz.f28, c0, c2, c3, hod, hoa]
    exact EOut.ill (by decide)
  rw [dec_pos h1] at c3
  by_cases h2 : NameOk n
  rotate_left
  · rw [dec_neg h2] at c4
    rw [hill fun h => h2 h.2.1]
    simp [code28, Tryz.f28, c0, c2, c3, c4, hod, hoa]
    exact EOut.ill (by decide)
  rw [dec_pos h2] at c4
  by_cases h3 : ValueOk v
  rotate_left
  · rw [dec_neg h3] at c5
    rw [hill fun h => h3 h.2.2]
    simp [code28, Tryz.f28, c0, c2, c3, c4, c5, hod, hoa]
    exact EOut.ill (by decide)
  rw [dec_pos h3] at c5
  have ho : valueAddOf e n v = addOf e n v := by rw [ho0, dec_pos ⟨h1, h2, h3⟩]; rfl
  rw [ho]
  obtain ⟨q, H', c6, T, w1, w2, rfl, rfl, hat, hgc⟩ := s_Add (v := v) hd ha (EntryOk.small h1) (EntryOk.rise h1) hn hv (fun a ha => by
    obtain ⟨j, hj, rfl⟩ := List.getElem_of_mem ha
    have := (h1.2.2.1 j _ (List.getElem?_eq_getElem hj)).2.2.2.2
    omega)
  obtain ⟨_, _, hcs, a1, a2, hwf⟩ := entryOut_at.1 hat
  cases hcs
  have ho1 := a1.one
  have ho2 := a2.one
  simp [code28, Tryz.f28, c0, c3, c4, c5, c6, hod, hoa, ho1, ho2, hgc]
  exact ⟨T, w1, w2, rfl, rfl, hat, hgc⟩
end Go.Proofs.Try1
end
