/- Part 12 of the proof of a law: the interpreter, its soundness, and what functions of the program compute over it. Conditions: none but those that each theorem names. -/
import Derived.Test.YtamgeahibepfnaaGreatDoorJ11
import Derived.Test.YtamgeahibepfnaaGreatDoorJ08
import Derived.Test.YtamgeahibepfnaaGreatDoorJ05

set_option linter.all false
set_option maxRecDepth 20000
set_option maxHeartbeats 40000000
section
namespace Go.Proofs.Try1
open Go Go.Lite
theorem Own.strs {H G : List Ob} {w : V} {l : List Str} (h : Own H G w l) (hl : l.length ≤ maxLen) (hs : ∀ s ∈ l, s.length ≤ maxLen) : AStrs G w l := by
 rcases h with ⟨rfl, rfl⟩ | h
 ·exact At_slice.2 ⟨_, _, rfl, rfl, by simp, .inl ⟨rfl, rfl⟩⟩
 ·exact (h.strs hl hs).1
theorem Keep_both {H X Y : List Ob} : Keep H.length (H ++ X) (H ++ Y) := fun id hid => by rw [List.getElem?_append_left hid, List.getElem?_append_left hid]
theorem Keep_one {H Y : List Ob} : Keep H.length H (H ++ Y) := fun id hid => by rw [List.getElem?_append_left hid]
theorem Own.one {H G : List Ob} {w : V} {l : List Str} (h : Own H G w l) : isOne w = true ∧ cellsOf w = some [w] := by
 rcases h with ⟨rfl, rfl⟩ | h
 ·exact ⟨rfl, rfl⟩
 ·exact h.one
theorem LtS_iff : ∀ (a b : Str), LtS a b ↔ a < b
 | a, [] => by simp [LtS, Op.bytesLess]
 | [], b :: bs => by simp [LtS, Op.bytesLess]
 | a :: as', b :: bs => by
  have := LtS_iff as' bs
  unfold LtS at this ⊢
  simp [Op.bytesLess, List.cons_lt_cons_iff, this]
theorem names_pair : ∀ {l : List Str}, NamesOk l → l.Pairwise fun a b => a < b
 | [], _ => .nil
 | [x], _ => by simp
 | x :: y :: l, h => by
  have h' : NamesOk (y :: l) := fun j z hz => by
   obtain ⟨h1, h2⟩ := h (j + 1) z (by simpa using hz)
   refine ⟨h1, fun v hj hv => h2 v (by omega) ?_⟩
   rw [show j + 1 - 1 = (j - 1) + 1 by omega]
   simpa using hv
  have ih := names_pair h'
  have hxy : x < y := (LtS_iff x y).1 ((h 1 y rfl).2 x (by omega) rfl)
  rw [List.pairwise_cons]
  refine ⟨fun z hz => ?_, ih⟩
  rcases List.mem_cons.1 hz with rfl | hz
  ·exact hxy
  ·exact List.lt_trans hxy ((List.pairwise_cons.1 ih).1 z hz)
theorem names_nodup {l : List Str} (h : NamesOk l) : l.Nodup := (names_pair h).imp fun h e => by subst e; exact List.lt_irrefl _ h
theorem i_Class {H : List Ob} {w1 w2 w3 : V} {c : PClass} (h1 : AStrs H w1 c.must) (h2 : AStrs H w2 c.may) (h3 : AStrs H w3 c.single) : callW C 256 [.agg [.str c.name, w1, w2, w3]] H = some (.bool (dec (ClassOk c)), H) := by
 apply Ret.dec
 rw [op256]
 simp [code256, Tryz.f256, h1.one, h2.one, h3.one, elemT, fillL, zerosL, St.new]
 refine WP_loop (fun k σ => ∃ (i : Nat) (r : Nat → R), i + k = 3 ∧ σ = ⟨r, 1, H ++ [.mk true 1 [w1, w2, w3]]⟩ ∧ r 1 = .box 0 [.str c.name, w1, w2, w3] ∧ r 12 = .val (.slc (some (H.length, 0)) 3) ∧ r 13 = .val (.int .i64 3) ∧ r 14 = .val (.int .i64 i) ∧ ∀ j l, j < i → [c.must, c.may, c.single][j]? = some l → l.length ≤ 10 ∧ NamesOk l) ?_ 3 _ ⟨0, _, by simp, rfl, by simp, by simp, by simp, by simp, by simp⟩
 rintro k σ ⟨i, r, hik, rfl, r1, r12, r13, r14, hall⟩
 cases k with
 | succ k =>
  have hi : i < 3 := by omega
  have hiI : (i : Int) < 3 := by omega
  obtain ⟨l, w, hli, hwi, hs, hcl⟩ : ∃ l w, [c.must, c.may, c.single][i]? = some l ∧ [w1, w2, w3][i]? = some w ∧ AStrs H w l ∧ (ClassOk c → l.length ≤ 10 ∧ NamesOk l) := by
   match i, hi with
   | 0, _ => exact ⟨_, _, rfl, rfl, h1, fun h => ⟨h.l1, h.n1⟩⟩
   | 1, _ => exact ⟨_, _, rfl, rfl, h2, fun h => ⟨h.l2, h.n2⟩⟩
   | 2, _ => exact ⟨_, _, rfl, rfl, h3, fun h => ⟨h.l3, h.n3⟩⟩
  have ld := load1 (H := H ++ [.mk true 1 [w1, w2, w3]]) (o := i) get_last hwi
  have hw : IntKind.i64.wrap ((i : Int) + 1) = ((i : Int) + 1) := wrap_i64 (by omega) (by omega)
  have c1 := i_Names (hs.ext (T := [.mk true 1 [w1, w2, w3]]))
  by_cases g1 : (l.length : Int) > 10
  ·have hn : ¬ ClassOk c := fun h => by have := (hcl h).1; omega
   simp [r1, r12, r13, r14, hiI, hi, ld, (hs.ext (T := [.mk true 1 [w1, w2, w3]])).len, g1, hn]
  by_cases g2 : NamesOk l
  ·rw [dec_pos g2] at c1
   simp [r1, r12, r13, r14, hiI, hi, ld, (hs.ext (T := [.mk true 1 [w1, w2, w3]])).len, g1, c1, hw]
   exact ⟨k, by omega, i + 1, by omega, by omega, at_step (P := fun j (l : List Str) => l.length ≤ 10 ∧ NamesOk l) hall hli ⟨by omega, g2⟩⟩
  ·rw [dec_neg g2] at c1
   have hn : ¬ ClassOk c := fun h => g2 (hcl h).2
   simp [r1, r12, r13, r14, hiI, hi, ld, (hs.ext (T := [.mk true 1 [w1, w2, w3]])).len, g1, c1, hn]
 | zero =>
 have hi : i = 3 := by omega
 subst hi
 obtain ⟨m1, m2⟩ := hall 0 c.must (by omega) rfl
 obtain ⟨m3, m4⟩ := hall 1 c.may (by omega) rfl
 obtain ⟨m5, m6⟩ := hall 2 c.single (by omega) rfl
 have hfl : fl [c.must, c.may] 2 = c.must ++ c.may := by simp [fl]
 obtain ⟨T, w, c1, hown⟩ := l_Concat (H := H ++ [.mk true 1 [w1, w2, w3]] ++ [.mk true 1 [w1, w2]]) (id := H.length + 1) (ls := [c.must, c.may]) (ws := [w1, w2]) (own := true) (by rw [List.getElem?_append_right (by simp)]; simp) rfl (fun i v l g1 g2 => by
  match i with
  | 0 => cases g1; cases g2; exact h1.ext.ext
  | 1 => cases g1; cases g2; exact h2.ext.ext
  | i + 2 => simp at g1) (by simp only [List.length_cons, List.length_nil, Nat.reduceAdd, hfl, List.length_append]; omega) (by simp)
 simp only [List.length_cons, List.length_nil, Nat.reduceAdd, hfl, List.append_assoc, List.cons_append, List.nil_append] at c1 hown
 have how := hown.one
 have st := store1 (H := H ++ .mk true 1 [w1, w2, w3] :: .mk true 1 [w1, w2] :: (T ++ [.mk true 1 [.slc none 0]])) (id := H.length + (T.length + 1 + 1)) (es := 1) (cells := [.slc none 0]) (v := w) (o := 0) (by rw [List.getElem?_append_right (by omega)]; simp) (by simp) how.2 how.1
 have hmem : (H ++ Ob.mk true 1 [w1, w2, w3] :: Ob.mk true 1 [w1, w2] :: (T ++ [Ob.mk true 1 [V.slc none 0]])).length = H.length + (T.length + 1 + 1) + 1 := by simp; omega
 have hold : ∀ (q : Nat) o, (H ++ Ob.mk true 1 [w1, w2, w3] :: Ob.mk true 1 [w1, w2] :: T)[q]? = some o → ((H ++ Ob.mk true 1 [w1, w2, w3] :: Ob.mk true 1 [w1, w2] :: (T ++ [Ob.mk true 1 [V.slc none 0]])).set (H.length + (T.length + 1 + 1)) (Ob.mk true 1 ([V.slc none 0].set 0 w)))[q]? = some o := fun q o hq => by
  have hql := (List.getElem?_eq_some_iff.1 hq).1
  simp at hql
  rw [List.getElem?_set_ne (by omega), show H ++ Ob.mk true 1 [w1, w2, w3] :: Ob.mk true 1 [w1, w2] :: (T ++ [Ob.mk true 1 [V.slc none 0]]) = (H ++ Ob.mk true 1 [w1, w2, w3] :: Ob.mk true 1 [w1, w2] :: T) ++ [Ob.mk true 1 [V.slc none 0]] by simp]
  exact up_append _ _ hq
 have hobj : ((H ++ Ob.mk true 1 [w1, w2, w3] :: Ob.mk true 1 [w1, w2] :: (T ++ [Ob.mk true 1 [V.slc none 0]])).set (H.length + (T.length + 1 + 1)) (Ob.mk true 1 ([V.slc none 0].set 0 w)))[H.length + (T.length + 1 + 1)]? = some (Ob.mk true 1 [w]) := by
  rw [List.getElem?_set_self (by omega)]
  rfl
 obtain ⟨H3, hH3⟩ : ∃ H3, H3 = (H ++ Ob.mk true 1 [w1, w2, w3] :: Ob.mk true 1 [w1, w2] :: (T ++ [Ob.mk true 1 [V.slc none 0]])).set (H.length + (T.length + 1 + 1)) (Ob.mk true 1 ([V.slc none 0].set 0 w)) := ⟨_, rfl⟩
 rw [← hH3] at st hobj hold
 obtain ⟨T3, hT3⟩ : ∃ T3, H3 = H ++ T3 := by
  refine ⟨(Ob.mk true 1 [w1, w2, w3] :: Ob.mk true 1 [w1, w2] :: (T ++ [Ob.mk true 1 [V.slc none 0]])).set (T.length + 1 + 1) (Ob.mk true 1 ([V.slc none 0].set 0 w)), ?_⟩
  rw [hH3, List.set_append_right _ _ (by omega), Nat.add_sub_cancel_left]
 simp [r1, r12, r13, r14, h1.one, h2.one, h3.one, elemT, fillL, zerosL, St.new, c1, strideOf, st, -regionL_some]
 generalize H.length + (T.length + 1 + 1) = id5 at hobj
 have hall3 : AStrs H3 w (c.must ++ c.may) := (hown.strs (by rw [List.length_append]; unfold maxLen; omega) (fun s hs => by
  rcases List.mem_append.1 hs with hs | hs
  ·exact strs_max h1 s hs
  ·exact strs_max h2 s hs)).up hold
 have hid5 : id5 < H3.length := (List.getElem?_eq_some_iff.1 hobj).1
 have h33 : AStrs H3 w3 c.single := by rw [hT3]; exact h3.ext
 have hgc1 : ∀ b, gcH H H3 (.bool b) = H := fun b => by rw [hT3]; exact gcH_bool
 have hgc2 : ∀ b X, gcH H (H3 ++ X) (.bool b) = H := fun b X => by rw [hT3, List.append_assoc]; exact gcH_bool
 clear hH3 hold hT3 st c1 hown hmem
 have ld := load1 (o := 0) hobj rfl
 have c2 := i_Name (t := c.name) (H := H3)
 have hok : ClassOk c ↔ NameOk c.name ∧ (c.must ++ c.may).Nodup ∧ classT ∉ c.must ++ c.may ∧ ∀ t ∈ c.single, t ∈ c.must ++ c.may := by
  constructor
  ·intro h
   refine ⟨h.name, ?_, ?_, ?_⟩
   ·rw [List.nodup_append]
    exact ⟨names_nodup h.n1, names_nodup h.n2, fun a ha b hb hab => h.apart a ha (hab ▸ hb)⟩
   ·rw [List.mem_append]; exact fun h' => h'.elim h.noMust h.noMay
   ·intro t ht; rw [List.mem_append]; exact (h.known t ht).symm
  ·rintro ⟨k1, k2, k3, k4⟩
   rw [List.nodup_append] at k2
   rw [List.mem_append] at k3
   exact ⟨k1, m1, m3, m5, m2, m4, m6, fun t ht ht' => k2.2.2 t ht t ht' rfl, fun t ht => (List.mem_append.1 (k4 t ht)).symm, fun h => k3 (.inl h), fun h => k3 (.inr h)⟩
 by_cases g1 : NameOk c.name
 rotate_left
 ·rw [dec_neg g1] at c2
  have hn : ¬ ClassOk c := fun h => g1 h.name
  simp [r1, hid5, c2, hn, hgc1, hgc2, List.lookup]
 rw [dec_pos g1] at c2
 obtain ⟨T4, p, n, c3, hn⟩ := i_union (H := H3 ++ [Ob.mk true 1 [w]]) (id := H3.length) get_last hall3.ext (by rw [List.length_append]; omega)
 simp only [List.append_assoc, List.cons_append, List.nil_append] at c3
 have hln := fun {e s b : Nat} {z : List V} => hall3.len (e := e) (s := s) (b := b) (z := z)
 by_cases g2 : (n : Int) = (c.must ++ c.may).length
 rotate_left
 ·have hno : ¬ ClassOk c := fun h => g2 (by have := hn.2 (hok.1 h).2.1; omega)
  simp only [List.length_append, Int.natCast_add] at g2 hln
  simp [r1, hid5, c2, c3, ld, hln, g2, elemT, fillL, zerosL, St.new, Keep_both, Keep_one, hall3.one, hno, hgc1, hgc2, List.lookup]
 have c4 : callW C 142 [w, .str [99, 108, 97, 115, 115]] (H3 ++ Ob.mk true 1 [w] :: T4) = some (.bool (dec (classT ∈ c.must ++ c.may)), H3 ++ Ob.mk true 1 [w] :: T4) := l_Contains hall3.ext
 have ld2 := load1 (H := H3 ++ Ob.mk true 1 [w] :: T4) (o := 0) (v := w) (up_append _ _ hobj) rfl
 have g2' : (c.must ++ c.may).Nodup := hn.1 (by omega)
 by_cases g3 : classT ∈ c.must ++ c.may
 ·rw [dec_pos g3] at c4
  have hno : ¬ ClassOk c := fun h => (hok.1 h).2.2.1 g3
  simp only [List.length_append, Int.natCast_add] at g2 hln
  simp [r1, hid5, c2, c3, c4, ld, ld2, hln, g2, elemT, fillL, zerosL, St.new, Keep_both, Keep_one, hall3.one, hno, hgc1, hgc2, List.lookup]
 rw [dec_neg g3] at c4
 have c5 := l_ContainsFunc (H := H3 ++ Ob.mk true 1 [w] :: T4) (g := 325) (a := []) (b := [.ptr (some (id5, 0))]) h33.ext (fun x => !dec (x ∈ c.must ++ c.may)) (fun x _ => i_noName (up_append _ _ hobj) hall3.ext)
 by_cases g4 : ∃ x ∈ c.single, (!dec (x ∈ c.must ++ c.may)) = true
 ·rw [dec_pos g4] at c5
  have hno : ¬ ClassOk c := fun h => by
   obtain ⟨x, hx, hd⟩ := g4
   rw [dec_pos ((hok.1 h).2.2.2 x hx)] at hd
   cases hd
  simp only [List.length_append, Int.natCast_add] at g2 hln
  simp [r1, hid5, c2, c3, c4, c5, ld, ld2, hln, g2, elemT, fillL, zerosL, St.new, Keep_both, Keep_one, hall3.one, hno, hgc1, hgc2, List.lookup, h3.one]
 ·rw [dec_neg g4] at c5
  have hyes : ClassOk c := hok.2 ⟨g1, g2', g3, fun t ht => Classical.byContradiction fun h => g4 ⟨t, ht, by rw [dec_neg h]; rfl⟩⟩
  simp only [List.length_append, Int.natCast_add] at g2 hln
  simp [r1, hid5, c2, c3, c4, c5, ld, ld2, hln, g2, elemT, fillL, zerosL, St.new, Keep_both, Keep_one, hall3.one, hyes, hgc1, hgc2, List.lookup, h3.one]
theorem i_Schema {H : List Ob} {v : V} {l : List PClass} (h : AClasses H v l) : callW C 168 [v] H = some (.bool (dec (SchemaOk l)), H) := by
 apply Ret.dec
 rw [op168]
 have hb : l.length ≤ 9223372036854775807 := h.bound
 by_cases g0 : (l.length : Int) > 6
 ·have hn : ¬ SchemaOk l := fun h => by have := h.2; omega
  simp [code168, Tryz.f168, h.len, g0, hn]
 simp [code168, Tryz.f168, h.len, g0]
 refine WP_loop (fun k σ => ∃ (i n : Nat) (r : Nat → R), i + k = l.length ∧ σ = ⟨r, n, H⟩ ∧ r 0 = .val v ∧ r 8 = .val v ∧ r 9 = .val (.int .i64 l.length) ∧ r 10 = .val (.int .i64 i) ∧ ∀ j x, j < i → l[j]? = some x → ClassOk x ∧ PrevLt PClass.name l j x) ?_ l.length _ ⟨0, 0, _, by simp, rfl, by simp, by simp, by simp, by simp, by simp⟩
 rintro k σ ⟨i, n, r, hik, rfl, r0, r8, r9, r10, hall⟩
 cases k with
 | zero =>
  have hi : i = l.length := by omega
  subst hi
  have hx := at_all (P := fun j (x : PClass) => ClassOk x ∧ PrevLt PClass.name l j x) hall
  have hv : SchemaOk l := ⟨hx, by omega⟩
  simp [r0, r8, r9, r10, hv]
 | succ k =>
  have hi : i < l.length := by omega
  obtain ⟨x, hx⟩ : ∃ c, l[i]? = some c := ⟨l[i], by simp [hi]⟩
  have hw : IntKind.i64.wrap ((i : Int) + 1) = ((i : Int) + 1) := wrap_i64 (by omega) (by omega)
  obtain ⟨id, o, w1, w2, w3, e1, l0, l4, q1, q2, q3, _⟩ := classes_idx h hx
  have c1 := i_Class q1 q2 q3
  have hstep := fun h => at_step (P := fun j (x : PClass) => ClassOk x ∧ PrevLt PClass.name l j x) hall hx h
  by_cases g1 : ClassOk x
  rotate_left
  ·rw [dec_neg g1] at c1
   have hn : ¬ SchemaOk l := fun hd => g1 (hd.1 i x hx).1
   simp [r0, r8, r9, r10, hi, e1, l4, c1, hn, regionL_none, q1.one, q2.one, q3.one]
  rw [dec_pos g1] at c1
  by_cases hi0 : i = 0
  ·have := hstep ⟨g1, fun y hy => by omega⟩
   subst hi0
   simp at e1
   simp [r0, r8, r9, r10, hi, e1, l4, c1, regionL_none, q1.one, q2.one, q3.one]
   exact ⟨k, by omega, 1, by omega, n + 1, _, ⟨rfl, rfl⟩, by simp [r0], by simp [r8], by simp [r9], by simp, this⟩
  have hip : 0 < i := by omega
  obtain ⟨y, hy⟩ : ∃ c, l[i - 1]? = some c := ⟨l[i - 1]'(by omega), by simp⟩
  obtain ⟨id', o', _, _, _, e1', l0', _⟩ := classes_idx h hy
  have hw1 : IntKind.i64.wrap ((i : Int) - 1) = ((i - 1 : Nat) : Int) := by rw [wrap_i64 (by omega) (by omega)]; omega
  by_cases g2 : LtS y.name x.name
  ·have := hstep ⟨g1, fun z _ hz => by rw [hy] at hz; cases hz; exact g2⟩
   simp [r0, r8, r9, r10, hi, e1, l0, l4, c1, e1', l0', hw, hw1, hip, LtS_dec g2, regionL_none, q1.one, q2.one, q3.one]
   exact ⟨k, by omega, i + 1, by omega, n + 1, _, ⟨rfl, rfl⟩, by simp [r0], by simp [r8], by simp [r9], by simp, this⟩
  ·have hn : ¬ SchemaOk l := fun hd => g2 ((hd.1 i x hx).2 y hip hy)
   simp [r0, r8, r9, r10, hi, e1, l0, l4, c1, e1', l0', hw, hw1, hip, LtS_no g2, regionL_none, q1.one, q2.one, q3.one, hn]
noncomputable def cmpS (a b : Str) : Int := if dec (LtS a b) = true then -1 else if dec (LtS b a) = true then 1 else 0
theorem cmpS_lt {a b : Str} : cmpS a b < 0 ↔ LtS a b := by
 unfold cmpS
 by_cases h : LtS a b
 ·rw [dec_pos h]; simp [h]
 ·rw [dec_neg h]
  by_cases h' : LtS b a
  ·rw [dec_pos h']; simp [h]
  ·rw [dec_neg h']; simp [h]
theorem cmpS_eq {a b : Str} : cmpS a b = 0 ↔ a = b := by
 unfold cmpS
 by_cases h : LtS a b
 ·rw [dec_pos h]
  have : a ≠ b := fun e => by subst e; exact List.lt_irrefl _ ((LtS_iff a a).1 h)
  simp [this]
 ·rw [dec_neg h]
  by_cases h' : LtS b a
  ·rw [dec_pos h']
   have : a ≠ b := fun e => by subst e; exact List.lt_irrefl _ ((LtS_iff a a).1 h')
   simp [this]
  ·rw [dec_neg h']
   have h1 : b ≤ a := fun hh => h ((LtS_iff a b).2 hh)
   have h2 : a ≤ b := fun hh => h' ((LtS_iff b a).2 hh)
   simp [List.le_antisymm h2 h1]
theorem l_cmp {a b : Str} {H : List Ob} : callW C 275 [.str a, .str b] H = some (.int .i64 (cmpS a b), H) := by
 have c0 : ∀ x : Str, callW C 333 [.str x] H = some (.bool false, H) := fun x => by
  apply Ret.eq
  rw [op333]
  simp [code333, Tryz.f333]
 apply Ret.eq
 rw [op275]
 by_cases g1 : LtS a b
 ·have : cmpS a b = -1 := by unfold cmpS; rw [dec_pos g1]; rfl
  simp [code275, Tryz.f275, c0, LtS_dec g1, this]
 ·by_cases g2 : LtS b a
  ·have hne : a ≠ b := fun e => by subst e; exact g1 g2
   have : cmpS a b = 1 := by unfold cmpS; rw [dec_neg g1, dec_pos g2]; rfl
   simp [code275, Tryz.f275, c0, LtS_no g1, hne, this]
  ·have : cmpS a b = 0 := by unfold cmpS; rw [dec_neg g1, dec_neg g2]; rfl
   have he := cmpS_eq.1 this
   simp [code275, Tryz.f275, c0, LtS_no g1, he, this]
   subst he
   simp [LtS_no g1, this]
theorem i_byName {n t : Str} {w : V} {H : List Ob} (ho : cellsOf w = some [w]) : callW C 358 [.agg [.str n, w], .str t] H = some (.int .i64 (cmpS n t), H) := by
 apply Ret.eq
 rw [op358]
 simp [code358, Tryz.f358, l_cmp]
theorem rise_pair {α : Type} {key : α → Str} : ∀ {l : List α}, (∀ (j : Nat) x, l[j]? = some x → PrevLt key l j x) → l.Pairwise fun a b => key a < key b
 | [], _ => .nil
 | [x], _ => by simp
 | x :: y :: l, h => by
  have h' : ∀ (j : Nat) z, (y :: l)[j]? = some z → PrevLt key (y :: l) j z := fun j z hz v hj hv => by
   refine h (j + 1) z (by simpa using hz) v (by omega) ?_
   rw [show j + 1 - 1 = (j - 1) + 1 by omega]
   simpa using hv
  have ih := rise_pair h'
  have hxy : key x < key y := (LtS_iff _ _).1 (h 1 y rfl x (by omega) rfl)
  rw [List.pairwise_cons]
  refine ⟨fun z hz => ?_, ih⟩
  rcases List.mem_cons.1 hz with rfl | hz
  ·exact hxy
  ·exact List.lt_trans hxy ((List.pairwise_cons.1 ih).1 z hz)
theorem l_search {H : List Ob} {v : V} {l : List PAttr} {t : Str} (h : AAttrs H v l) (hl : l.length ≤ 1000) (hp : l.Pairwise fun a b => a.name < b.name) :
  ∃ (i : Nat) (ok : Bool), callW C 357 [v, .str t, .fn 358 [] []] H = some (.tup [.int .i64 i, .bool ok], H) ∧
   (ok = true → ∃ a, l[i]? = some a ∧ a.name = t) ∧ (ok = false → ∀ a ∈ l, a.name ≠ t) := by
 suffices hs : Ret C 357 [v, .str t, .fn 358 [] []] H fun q H' =>
   (∃ (i : Nat) (ok : Bool), q = .tup [.int .i64 i, .bool ok] ∧ (ok = true → ∃ a, l[i]? = some a ∧ a.name = t) ∧ (ok = false → ∀ a ∈ l, a.name ≠ t)) ∧ H' = H by
  obtain ⟨q, H', hc, ⟨i, ok, rfl, h1, h2⟩, rfl⟩ := hs
  exact ⟨i, ok, hc, h1, h2⟩
 rw [op357]
 simp [code357, Tryz.f357, h.len]
 refine WP_loop (fun k σ => ∃ (i j : Nat) (r : Nat → R), j - i = k ∧ i ≤ j ∧ j ≤ l.length ∧ σ = ⟨r, 0, H⟩ ∧ r 0 = .val v ∧ r 1 = .val (.str t) ∧ r 2 = .val (.fn 358 [] []) ∧ r 8 = .val (.int .i64 l.length) ∧ r 9 = .val (.int .i64 i) ∧ r 10 = .val (.int .i64 j) ∧
  (∀ q a, q < i → l[q]? = some a → LtS a.name t) ∧ (∀ q a, j ≤ q → l[q]? = some a → ¬ LtS a.name t)) ?_ l.length _ ⟨0, l.length, _, by omega, by omega, by omega, rfl, by simp, by simp, by simp, by simp, by simp, by simp, fun q a h => by omega, fun q a h1 h2 => by have := (List.getElem?_eq_some_iff.1 h2).1; omega⟩
 rintro k σ ⟨i, j, r, hk, hij, hjl, rfl, r0, r1, r2, r8, r9, r10, hlo, hhi⟩
 cases k with
 | succ k =>
  have hlt : (i : Int) < j := by omega
  have hlt' : i < j := by omega
  have hw1 : IntKind.i64.wrap ((i : Int) + j) = (i : Int) + j := wrap_i64 (by omega) (by omega)
  have hw2 : IntKind.u64.wrap ((i : Int) + j) = (i : Int) + j := by unfold IntKind.wrap; simp [IntKind.bits, IntKind.signed]; omega
  have hq : ((i : Int) + j).fdiv 2 = (((i + j) / 2 : Nat) : Int) := by rw [Int.fdiv_eq_ediv_of_nonneg _ (by omega)]; omega
  obtain ⟨m, hm⟩ : ∃ m, m = (i + j) / 2 := ⟨_, rfl⟩
  rw [← hm] at hq
  have hw3 : IntKind.i64.wrap (m : Int) = m := wrap_i64 (by omega) (by omega)
  have hw4 : IntKind.i64.wrap ((m : Int) + 1) = (m : Int) + 1 := wrap_i64 (by omega) (by omega)
  have hml : m < l.length := by omega
  obtain ⟨a, ha⟩ : ∃ a, l[m]? = some a := ⟨l[m], List.getElem?_eq_getElem hml⟩
  obtain ⟨id, o, w, e1, l0, l1, l2, hvs, _⟩ := attrs_idx h ha
  have c1 := i_byName (n := a.name) (t := t) (w := w) (H := H) hvs.one.2
  have hord : ∀ q b, l[q]? = some b → (q < m → b.name < a.name) ∧ (m < q → a.name < b.name) := fun q b hb => by
   obtain ⟨hq1, hb⟩ := List.getElem?_eq_some_iff.1 hb
   obtain ⟨_, ha⟩ := List.getElem?_eq_some_iff.1 ha
   have := List.pairwise_iff_getElem.1 hp
   exact ⟨fun hh => by have := this q m hq1 hml hh; rwa [hb, ha] at this, fun hh => by have := this m q hml hq1 hh; rwa [hb, ha] at this⟩
  by_cases g1 : LtS a.name t
  ·have g1' := cmpS_lt.2 g1
   simp [r0, r1, r2, r8, r9, r10, hlt, hlt', hw1, hw2, hq, hw3, hw4, e1, l2, c1, g1', intShift, IntKind.bits]
   refine ⟨j - (m + 1), by omega, m + 1, j, by omega, by omega, by omega, by omega, rfl, fun q b hq1 hb => ?_, hhi⟩
   by_cases hqm : q = m
   ·subst hqm; rw [ha] at hb; cases hb; exact g1
   ·exact (LtS_iff _ _).2 (List.lt_trans ((hord q b hb).1 (by omega)) ((LtS_iff _ _).1 g1))
  ·have g1' : ¬ cmpS a.name t < 0 := mt cmpS_lt.1 g1
   simp [r0, r1, r2, r8, r9, r10, hlt, hlt', hw1, hw2, hq, hw3, hw4, e1, l2, c1, g1', intShift, IntKind.bits]
   refine ⟨m - i, by omega, i, m, by omega, by omega, by omega, rfl, rfl, hlo, fun q b hq1 hb hlt2 => ?_⟩
   by_cases hqm : q = m
   ·subst hqm; rw [ha] at hb; cases hb; exact g1 hlt2
   ·exact g1 ((LtS_iff _ _).2 (List.lt_trans ((hord q b hb).2 (by omega)) ((LtS_iff _ _).1 hlt2)))
 | zero =>
  have hij' : i = j := by omega
  subst hij'
  by_cases hil : i < l.length
  ·have hilI : (i : Int) < l.length := by omega
   obtain ⟨a, ha⟩ : ∃ a, l[i]? = some a := ⟨l[i], List.getElem?_eq_getElem hil⟩
   obtain ⟨id, o, w, e1, l0, l1, l2, hvs, _⟩ := attrs_idx h ha
   have c1 := i_byName (n := a.name) (t := t) (w := w) (H := H) hvs.one.2
   by_cases g1 : a.name = t
   ·have g1' := cmpS_eq.2 g1
    simp [r0, r1, r2, r8, r9, r10, hil, e1, l2, c1, g1']
    exact ⟨i, rfl, a, ha, g1⟩
   ·have g1' : ¬ cmpS a.name t = 0 := mt cmpS_eq.1 g1
    simp [r0, r1, r2, r8, r9, r10, hil, e1, l2, c1, g1']
    refine ⟨⟨i, rfl⟩, fun b hb hbt => ?_⟩
    obtain ⟨q, hq1, rfl⟩ := List.getElem_of_mem hb
    have hqe := List.getElem?_eq_getElem hq1
    rcases Nat.lt_trichotomy q i with hh | hh | hh
    ·have := hlo q _ hh hqe
     rw [hbt] at this
     exact List.lt_irrefl _ ((LtS_iff _ _).1 this)
    ·subst hh; rw [ha] at hqe; cases hqe; exact g1 hbt
    ·have h1 := hhi i a (by omega) ha
     obtain ⟨_, ha'⟩ := List.getElem?_eq_some_iff.1 ha
     have h2 := List.pairwise_iff_getElem.1 hp i q hil hq1 hh
     rw [ha', hbt] at h2
     exact h1 ((LtS_iff _ _).2 h2)
  ·simp [r0, r1, r2, r8, r9, r10, hil]
   refine ⟨⟨i, rfl⟩, fun b hb hbt => ?_⟩
   obtain ⟨q, hq1, rfl⟩ := List.getElem_of_mem hb
   have := hlo q _ (by omega) (List.getElem?_eq_getElem hq1)
   rw [hbt] at this
   exact List.lt_irrefl _ ((LtS_iff _ _).1 this)
def SmallE (e : PEntry) : Prop := e.dn.length ≤ 1048576 ∧ e.attrs.length ≤ 1048576 ∧ ∀ a ∈ e.attrs, a.vals.length ≤ 1048576
theorem s_Copy {H : List Ob} {vd va : V} {e : PEntry} (hd : ARdns H vd e.dn) (ha : AAttrs H va e.attrs) (hb : SmallE e) :
  ∃ T w1 w2, callW C 188 [.agg [vd, va]] H = some (.agg [w1, w2], H ++ T) ∧ New H.length (H ++ T).length (H ++ T) shEntry [w1, w2] e.u := by
 suffices hs : Ret C 188 [.agg [vd, va]] H fun q H' => ∃ T w1 w2, q = .agg [w1, w2] ∧ H' = H ++ T ∧ New H.length (H ++ T).length (H ++ T) shEntry [w1, w2] e.u by
  obtain ⟨q, H', hc, T, w1, w2, rfl, rfl, hr⟩ := hs
  exact ⟨T, w1, w2, hc, hr⟩
 rw [op188]
 have hod := hd.one
 have hoa := ha.one
 obtain ⟨w1, T1, a1, n1⟩ := append_clone (d := .struct [(0, 9), (1, 9)]) (by_ := 32) (z := [.str [], .str []]) (sz := 2) hd rfl rfl rfl (by decide) (by decide) (by decide) (by have := hb.1; unfold maxMade; omega)
 have hb2 := hb.2.1
 have how := New.one1 n1
 simp [code188, Tryz.f188, hod, hoa, elemT, fillL, zerosL, St.new, strideOf, a1, buildV, structPlace, how]
 obtain ⟨K, hK⟩ : ∃ K, K = H ++ T1 := ⟨_, rfl⟩
 rw [← hK] at n1 ⊢
 have haK : AAttrs K va e.attrs := by rw [hK]; exact ha.ext
 refine WP_loop (fun k σ => ∃ (i : Nat) (r : Nat → R) (G : List Ob) (w : V), i + k = e.attrs.length ∧ σ = ⟨r, 3, G⟩ ∧ r 1 = .box 0 [vd, va] ∧ r 2 = .box 1 [.slc none 0, .slc none 0] ∧ r 3 = .box 2 [w1, w] ∧ r 4 = .val (.int .i64 i) ∧ LstF K G shAttr PAttr.u w (e.attrs.take i)) ?_ e.attrs.length _ ⟨0, _, K, .slc none 0, by simp, rfl, by simp, by simp, by simp, by simp, by simpa using LstF.nil⟩
 rintro k σ ⟨i, r, G, w, hik, rfl, r1, r2, r3, r4, hG⟩
 obtain ⟨S, hS⟩ := hG.pre
 have haG : AAttrs G va e.attrs := by rw [hS]; exact haK.ext
 have hwo := hG.one
 cases k with
 | zero =>
  have hi : i = e.attrs.length := by omega
  subst hi
  rw [List.take_length] at hG
  have n2 := hG.new ha.bound
  have hne : New H.length G.length G shEntry [w1, w] e.u := by
   refine New.st (News.cons (m := K.length) (c1 := [w1]) ?_ (News.one n2 (by rw [hS]; simp)) (by rw [hK]; simp) (by rw [hS]; simp))
   rw [hS]; exact n1.ext
  obtain ⟨T', hg, hn⟩ := (show New H.length G.length (H ++ (T1 ++ S)) shEntry [w1, w] e.u by rw [← List.append_assoc, ← hK, ← hS]; exact hne).gcA
  rw [← List.append_assoc, ← hK, ← hS] at hg
  simp [r1, r2, r3, r4, haG.len, hg, how, hwo]
  exact ⟨T', w1, w, ⟨rfl, rfl⟩, rfl, by simpa using hn⟩
 | succ k =>
  have hi : i < e.attrs.length := by omega
  obtain ⟨x, hx⟩ : ∃ c, e.attrs[i]? = some c := ⟨e.attrs[i], by simp [hi]⟩
  have hw : IntKind.i64.wrap ((i : Int) + 1) = ((i : Int) + 1) := wrap_i64 (by omega) (by omega)
  obtain ⟨id, o, wx, ex, lx, hvx, hnx, hidx, _⟩ := attrs_idxT ha hx
  have hGH : G = H ++ (T1 ++ S) := by rw [hS, hK, List.append_assoc]
  obtain ⟨l0, l1, l2⟩ := lx G ⟨_, hGH⟩
  obtain ⟨l0', l1', l2'⟩ := lx (G ++ [.mk true 1 []]) ⟨_, by rw [hGH, List.append_assoc]⟩
  have hidG : id < G.length := by rw [hGH]; simp; omega
  have hvG : AStrs G wx x.vals := by rw [hGH]; exact hvx.ext
  have hbx := hb.2.2 x (List.mem_of_getElem? hx)
  obtain ⟨wv, T2, a2, n2⟩ := append_clone (d := .str) (by_ := 16) (z := [.str []]) (sz := 1) hvG rfl rfl rfl (by decide) (by decide) (by decide) (by unfold maxMade; omega)
  have hel : New G.length (G ++ T2).length (G ++ T2) shAttr [.str x.name, wv] x.u := New.st (News.str hnx (News.one n2 (by simp)))
  obtain ⟨w', G', a3, hG', _, _⟩ := hG.push (T := T2) (d := .struct [(0, 9), (1, 30)]) (by_ := 40) (z := [.str [], .slc none 0]) (sz := 2) hel rfl rfl (by decide) (by decide) (by decide) (by simp; unfold maxMade; omega)
  rw [← take_get hx] at hG'
  have hwv := New.one1 n2
  have hk : Keep G.length (G ++ [.mk true 1 []]) (G ++ T2) := Keep_ext (Nat.le_refl _)
  have hw' := hG'.one
  simp only [List.append_assoc, List.length_append] at a3
  simp [r1, r2, r3, r4, hi, haG.len, ex, l0, l1, hidG, a2, a3, hk, Keep_append, elemT, fillL, zerosL, St.new, buildV, structPlace, hod, hoa, hwv, hwo, hw', hw, List.lookup]
  exact ⟨k, by omega, i + 1, by omega, _, _, ⟨rfl, rfl⟩, by simp [r1], by simp [r2], w', by simp, by simp, hG'⟩
section
variable {pre : List PAttr} {a : PAttr} {n : Str} {vs : List Str} {done : Bool}
end
end Go.Proofs.Try1
end
section
namespace Go.Lite
open Go
theorem ASl.ofSl {H : List Ob} {α : Type} {sh : Sh} {f : α → U} {v : V} {l : List α} (h : Sl H sh.size (At H sh) v (l.map f)) (hb : l.length ≤ maxLen) : ASl H sh f v l := At_slice.2 ⟨v, _, rfl, rfl, by simpa using hb, h⟩
theorem ASl.cut {H : List Ob} {α : Type} {sh : Sh} {f : α → U} {v : V} {l : List α} (h : ASl H sh f v l) {i : Nat} (hi : i ≤ l.length) :
  ∃ s1 s2 : V, ASl H sh f s1 (l.take i) ∧ ASl H sh f s2 (l.drop i) ∧
   ((v = .slc none 0 ∧ s1 = .slc none 0 ∧ s2 = .slc none 0 ∧ i = 0 ∧ l = []) ∨ ∃ id off, v = .slc (some (id, off)) l.length ∧ s1 = .slc (some (id, off)) i ∧ s2 = .slc (some (id, off + i * sh.size)) (l.length - i) ∧ ∀ G, (∃ S, G = H ++ S) → strideIs G id sh.size = true) := by
 have hb := h.bound
 rcases h.sl with ⟨rfl, h1⟩ | ⟨id, off, own, cells, hv, h2, h3, h4⟩
 ·have h0 : l = [] := by simpa using h1
  subst h0
  have hi0 : i = 0 := by simpa using hi
  subst hi0
  exact ⟨.slc none 0, .slc none 0, h, h, .inl ⟨rfl, rfl, rfl, rfl, rfl⟩⟩
 ·rw [List.length_map] at hv h3
  have hget : ∀ j, (l.map f)[j]? = (l[j]?).map f := fun j => List.getElem?_map
  refine ⟨.slc (some (id, off)) i, .slc (some (id, off + i * sh.size)) (l.length - i), ASl.ofSl (.inr ⟨id, off, own, cells, ?_, h2, ?_, fun j x hx => ?_⟩) ?_, ASl.ofSl (.inr ⟨id, off + i * sh.size, own, cells, ?_, h2, ?_, fun j x hx => ?_⟩) ?_, .inr ⟨id, off, hv, rfl, rfl, ?_⟩⟩
  ·simp; omega
  ·rw [List.length_map, List.length_take, Nat.min_eq_left hi]
   exact Nat.le_trans (Nat.add_le_add_left (Nat.mul_le_mul_right _ hi) _) h3
  ·rw [List.getElem?_map] at hx
   obtain ⟨y, hy, rfl⟩ := Option.map_eq_some_iff.1 hx
   have hj : j < i := by have := (List.getElem?_eq_some_iff.1 hy).1; simp at this; omega
   rw [List.getElem?_take_of_lt hj] at hy
   exact h4 j _ (by rw [hget, hy]; rfl)
  ·simp; omega
  ·simp
  ·rw [List.length_map, List.length_drop, Nat.add_assoc, ← Nat.add_mul, show i + (l.length - i) = l.length by omega]
   exact h3
  ·rw [List.getElem?_map, List.getElem?_drop] at hx
   obtain ⟨y, hy, rfl⟩ := Option.map_eq_some_iff.1 hx
   rw [Nat.add_assoc, ← Nat.add_mul]
   exact h4 (i + j) _ (by rw [hget, hy]; rfl)
  ·simp; omega
  ·rintro G ⟨S, rfl⟩
   unfold strideIs
   rw [up_append _ _ h2]
   simp
theorem AStrs.low {H T : List Ob} {w : V} {l : List Str} (h : AStrs (H ++ T) w l) (hl : lowV H w) : AStrs H w l := by
 rcases h.sl with ⟨hw, h1⟩ | ⟨id, off, own, cells, hv, h2, h3, h4⟩
 ·exact ASl.ofSl (.inl ⟨hw, h1⟩) h.bound
 ·rw [hv] at hl
  simp only [lowV] at hl
  obtain ⟨_, _, _, h0⟩ := hl
  have hid := (List.getElem?_eq_some_iff.1 h0).1
  rw [List.getElem?_append_left hid] at h2
  refine ASl.ofSl (.inr ⟨id, off, own, cells, hv, h2, h3, fun i x hx => ?_⟩) h.bound
  obtain ⟨s, e1, e2, e3⟩ := At_str.1 (h4 i x hx)
  exact At_str.2 ⟨s, e1, e2, e3⟩
theorem AStrs.gc {H X : List Ob} {w : V} {l : List Str} (h : AStrs (H ++ X) w l) : ∃ T, gcH H (H ++ X) w = H ++ T ∧ AStrs (H ++ T) w l := by
 unfold gcH
 split
 ·rename_i hc
  exact ⟨[], by simp, by simpa using h.low hc.2⟩
 ·exact ⟨X, rfl, h⟩
theorem AStrs.frame {G G' : List Ob} {w : V} {l : List Str} (h : AStrs G w l) (hf : ∀ q o n, w = .slc (some (q, o)) n → G'[q]? = G[q]?) : AStrs G' w l := by
 rcases h.sl with ⟨hw, h1⟩ | ⟨id, off, own, cells, hv, h2, h3, h4⟩
 ·exact ASl.ofSl (.inl ⟨hw, h1⟩) h.bound
 ·rw [← hf _ _ _ hv] at h2
  refine ASl.ofSl (.inr ⟨id, off, own, cells, hv, h2, h3, fun i x hx => ?_⟩) h.bound
  obtain ⟨s, e1, e2, e3⟩ := At_str.1 (h4 i x hx)
  exact At_str.2 ⟨s, e1, e2, e3⟩
theorem AStrs.lt {G : List Ob} {w : V} {l : List Str} (h : AStrs G w l) : ∀ q o n, w = .slc (some (q, o)) n → q < G.length := by
 rintro q o n rfl
 rcases h.sl with ⟨hw, h1⟩ | ⟨id, off, own, cells, hv, h2, h3, h4⟩
 ·cases hw
 ·cases hv
  exact (List.getElem?_eq_some_iff.1 h2).1
theorem appendV_frame {E : LT} {H H' : List Ob} {s x s' : V} (h : appendV E H s x = some (s', H')) :
  (∀ q, q < H.length → (∀ off n, s ≠ .slc (some (q, off)) n) → H'[q]? = H[q]?) ∧ (∀ q o n, s' = .slc (some (q, o)) n → (∃ o n, s = .slc (some (q, o)) n) ∨ H.length ≤ q) ∧ H.length ≤ H'.length := by
 unfold appendV at h
 split at h
 case isFalse => cases h
 split at h
 case h_1 => cases h
 rename_i xs m _
 split at h
 ·split at h
  ·cases h; exact ⟨fun _ _ _ => rfl, fun q o n he => (by cases he), Nat.le_refl _⟩
  ·cases h; exact ⟨fun _ _ _ => rfl, fun q o n he => .inl ⟨o, n, he⟩, Nat.le_refl _⟩
  ·cases h
 split at h
 case isFalse => cases h
 split at h
 ·split at h
  ·cases h
   refine ⟨fun q hq _ => List.getElem?_append_left hq, fun q o n he => ?_, by simp⟩
   cases he; exact .inr (Nat.le_refl _)
  ·cases h
 ·rename_i id off n
  split at h
  case h_2 => cases h
  split at h
  case isFalse => cases h
  split at h
  ·cases h
   refine ⟨fun q hq hne => List.getElem?_set_ne (fun e => hne off n (by rw [e])), fun q o n' he => .inl ?_, by simp⟩
   cases he; exact ⟨_, _, rfl⟩
  ·split at h
   case isFalse => cases h
   cases h
   refine ⟨fun q hq hne => ?_, fun q o n' he => .inr ?_, by simp⟩
   ·rw [List.getElem?_append_left (by rw [List.length_set]; exact hq), List.getElem?_set_ne (fun e => hne off n (by rw [e]))]
   ·cases he; exact Nat.le_refl _
 ·cases h
def ThenW (Q : Ex → St → Prop) : Option St → Prop
 | some σ => Q .norm σ
 | none => False
theorem ThenW_some {Q : Ex → St → Prop} {σ : St} : ThenW Q (some σ) ↔ Q .norm σ := Iff.rfl
theorem ThenW_none {Q : Ex → St → Prop} : ThenW Q none ↔ False := Iff.rfl
theorem WP_regionF {C : Ctx} {f id : Nat} {ops : Array Oper} {draw : Bool} {σ : St} {Q : Ex → St → Prop} : WP C f (.region id ops draw) σ Q ↔ ThenW Q (regionL C (callW C) f id ops draw σ) := by
 rw [WP_region]
 cases regionL C (callW C) f id ops draw σ with
 | none => simp [ThenW]
 | some σ1 => exact ⟨fun ⟨_, h, hq⟩ => by cases h; exact hq, fun h => ⟨σ1, rfl, h⟩⟩
def CondW (C : Ctx) (f : Nat) (a b : Code) (σ : St) (Q : Ex → St → Prop) (o : Option V) : Prop := ∃ t, o = some (.bool t) ∧ if t = true then WP C f a σ Q else WP C f b σ Q
theorem WP_condF {C : Ctx} {f : Nat} {c : Operand} {a b : Code} {σ : St} {Q : Ex → St → Prop} : WP C f (.cond c a b) σ Q ↔ CondW C f a b σ Q (ev σ c) := WP_cond
theorem CondW_true {C : Ctx} {f : Nat} {a b : Code} {σ : St} {Q : Ex → St → Prop} : CondW C f a b σ Q (some (.bool true)) ↔ WP C f a σ Q := by simp [CondW]
theorem CondW_false {C : Ctx} {f : Nat} {a b : Code} {σ : St} {Q : Ex → St → Prop} : CondW C f a b σ Q (some (.bool false)) ↔ WP C f b σ Q := by simp [CondW]
theorem CondW_bool {C : Ctx} {f : Nat} {a b : Code} {σ : St} {Q : Ex → St → Prop} {t : Bool} : CondW C f a b σ Q (some (.bool t)) ↔ if t = true then WP C f a σ Q else WP C f b σ Q := by simp [CondW]
section
variable {σ : St} {C : Ctx}
end
end Go.Lite
end
section
namespace Go.Proofs.Try1
open Go Go.Lite
attribute [-simp] WP_region WP_cond
attribute [local simp] WP_regionF WP_condF ThenW_some ThenW_none CondW_true CondW_false
attribute [local simp low] CondW_bool
theorem strs_new {H G : List Ob} {v : V} {l : List Str} (h : AStrs H v l) (hG : ∃ S, G = H ++ S) (d : LD) (b : Nat) (z : List V) : newCells ⟨d, 1, b, z⟩ G v = some (l.map V.str, (l.map V.str).length) := by
 obtain ⟨S, rfl⟩ := hG
 obtain ⟨p, rfl, hc, _⟩ := strs_cells (T := S) h
 simp only [newCells, Nat.mul_one, hc, List.length_map]
theorem strs_ones {l : List Str} : (l.map V.str).all isOne = true := by
 rw [List.all_eq_true]
 intro x hx
 obtain ⟨s, _, rfl⟩ := List.mem_map.1 hx
 rfl
theorem s_L05Put {H : List Ob} {v : V} {l : List Str} {t : Str} (h : AStrs H v l) (ht : t.length ≤ maxLen) (hl : l.length ≤ 1000000) :
  ∃ T w l', callW C 226 [v, .str t] H = some (w, H ++ T) ∧ AStrs (H ++ T) w l' ∧ (∀ x, x ∈ l' ↔ x = t ∨ x ∈ l) ∧ l'.length ≤ l.length + 1 := by
 suffices hs : Ret C 226 [v, .str t] H fun w H' => ∃ T l', H' = H ++ T ∧ AStrs (H ++ T) w l' ∧ (∀ x, x ∈ l' ↔ x = t ∨ x ∈ l) ∧ l'.length ≤ l.length + 1 by
  obtain ⟨q, H', hc, T, l', rfl, hr⟩ := hs
  exact ⟨T, q, l', hc, hr⟩
 rw [op226]
 have hone := h.one
 have hmx := h.max
 simp [code226, Tryz.f226, hone]
 refine WP.mono (Q := fun ex σ' => ∃ (i : Nat) (r : Nat → R), ex = .exit 0 ∧ σ' = ⟨r, 0, H⟩ ∧ r 0 = .val v ∧ r 1 = .val (.str t) ∧ r 5 = .val (.int .i64 i) ∧ i ≤ l.length) ?_ ?_
 ·refine WP_loop (fun k σ => ∃ (i : Nat) (r : Nat → R), i + k = l.length ∧ σ = ⟨r, 0, H⟩ ∧ r 0 = .val v ∧ r 1 = .val (.str t) ∧ r 5 = .val (.int .i64 i)) ?_ l.length _ ⟨0, _, by simp, rfl, by simp, by simp, by simp⟩
  rintro k σ ⟨i, r, hik, rfl, r0, r1, r5⟩
  cases k with
  | zero =>
   have hi : i = l.length := by omega
   subst hi
   simp [r0, r1, r5, h.len, regionL_none, regionL_some, List.lookup]
   exact ⟨l.length, rfl, Nat.le_refl _⟩
  | succ k =>
   have hi : i < l.length := by omega
   obtain ⟨x, hx⟩ : ∃ c, l[i]? = some c := ⟨l[i], by simp [hi]⟩
   have hw : IntKind.i64.wrap ((i : Int) + 1) = ((i : Int) + 1) := wrap_i64 (by omega) (by omega)
   obtain ⟨id, o, e1, l0, _⟩ := strs_idx h hx
   by_cases g : LtS x t
   ·simp [r0, r1, r5, hi, h.len, e1, l0, LtS_dec g, hw, regionL_none, regionL_some, List.lookup]
    exact ⟨k, by omega, i + 1, by omega, by omega⟩
   ·simp [r0, r1, r5, hi, h.len, e1, l0, LtS_no g, hw, regionL_none, regionL_some, List.lookup]
    exact ⟨i, rfl, by omega⟩
 ·rintro ex σ' ⟨i, r, rfl, rfl, r0, r1, r5, hil⟩
  by_cases gs : ∃ x, l[i]? = some x ∧ x = t
  ·obtain ⟨x, hx, rfl⟩ := gs
   have hi := (List.getElem?_eq_some_iff.1 hx).1
   obtain ⟨id, o, e1, l0, _⟩ := strs_idx h hx
   simp [r0, r1, r5, hi, h.len, e1, l0, hone, regionL_none, regionL_some, List.lookup]
   exact ⟨l, h, fun y => ⟨.inr, fun hh => hh.elim (fun e => e ▸ List.mem_of_getElem? hx) fun z => z⟩, by omega⟩
  obtain ⟨s1, s2, a1, a2, hcase⟩ := h.cut hil
  have n1 := strs_new a1 (G := H ++ [.mk true 1 []]) ⟨_, rfl⟩
  have R0 : Gs H (H ++ [.mk true 1 []]) (.slc (some (H.length, 0)) 0) (([] : List Str).map V.str) := Gs.init
  obtain ⟨x1, G1, p1, g1⟩ := R0.many (d := .str) (b := 16) (z := [.str []]) (n1 _ _ _) strs_ones (by simp; unfold maxMade; omega) (by decide) (by decide) rfl
  obtain ⟨x2, G2, p2, g2⟩ := g1.push (x := .str t) (d := .str) (b := 16) (z := [.str []]) rfl (by simp; unfold maxMade; omega) (by decide) (by decide) rfl
  have n2 := strs_new a2 g2.ext
  obtain ⟨x3, G3, p3, g3⟩ := g2.many (d := .str) (b := 16) (z := [.str []]) (n2 _ _ _) strs_ones (by simp; unfold maxMade; omega) (by decide) (by decide) rfl
  have hl3 : l.take i ++ [t] ++ l.drop i = l.take i ++ t :: l.drop i := by simp
  have g3' : Gs H G3 x3 ((l.take i ++ t :: l.drop i).map V.str) := by simpa using g3
  have hmem : ∀ y, y ∈ l.take i ++ t :: l.drop i ↔ y = t ∨ y ∈ l := fun y => by
   conv => rhs; rw [← List.take_append_drop i l]
   simp only [List.mem_append, List.mem_cons]
   constructor
   ·rintro (h | h | h)
    ·exact .inr (.inl h)
    ·exact .inl h
    ·exact .inr (.inr h)
   ·rintro (h | h | h)
    ·exact .inr (.inl h)
    ·exact .inl h
    ·exact .inr (.inr h)
  have hat := (g3'.strs (by simp; unfold maxLen; omega) (fun s hs => ((hmem s).1 hs).elim (fun e => e ▸ ht) (hmx s))).1
  obtain ⟨T, rfl⟩ := g3'.ext
  have hgc := g3'.gc
  have o1 := g1.one
  have o2 := g2.one
  have o3 := g3'.one
  obtain ⟨S2, hS2⟩ := g2.ext
  have fin : ∃ l', AStrs (H ++ T) x3 l' ∧ (∀ x, x ∈ l' ↔ x = t ∨ x ∈ l) ∧ l'.length ≤ l.length + 1 := ⟨_, hat, hmem, by simp; omega⟩
  have hng : ¬ (∃ x, l[i]? = some x ∧ x = t) := gs
  have hoA : isOne s1 = true ∧ cellsOf s1 = some [s1] := a1.one
  have hoB : isOne s2 = true ∧ cellsOf s2 = some [s2] := a2.one
  by_cases gi : i < l.length
  ·obtain ⟨x, hx⟩ : ∃ c, l[i]? = some c := ⟨l[i], by simp [gi]⟩
   obtain ⟨id, o, e1, l0, _⟩ := strs_idx h hx
   have hxt : ¬ x = t := fun e => gs ⟨x, hx, e⟩
   rcases hcase with ⟨_, _, _, _, h0⟩ | ⟨ids, off, hv, hs1, hs2, hst⟩
   ·rw [h0] at gi; simp at gi
   have t1 := hst (H ++ [.mk true 1 []]) ⟨_, rfl⟩
   have t2 := hst G2 ⟨S2, hS2⟩
   rw [hv] at r0 h e1
   rw [hs1] at p1
   rw [hs2] at p3
   simp [Sh.size_str] at t1 t2 p1 p2 p3
   simp [r0, r1, r5, gi, hil, h.len, e1, l0, hxt, St.new, elemT, fillL, zerosL, t1, t2, p1, p2, p3, o1, o2, o3, hgc, regionL_none, regionL_some, List.lookup]
   exact fin
  ·have hin : i = l.length := by omega
   rcases hcase with ⟨hv, hs1, hs2, hi0, h0⟩ | ⟨ids, off, hv, hs1, hs2, hst⟩
   ·rw [hv] at r0 h
    rw [hs1] at p1
    rw [hs2] at p3
    subst h0
    have hlen := fun {e s b : Nat} {z : List V} => h.len (e := e) (s := s) (b := b) (z := z)
    simp at p1 p2 p3 hlen
    simp [r0, r1, r5, hi0, hlen, St.new, elemT, fillL, zerosL, p1, p2, p3, o1, o2, o3, hgc, regionL_none, regionL_some, List.lookup]
    simpa using fin
   ·have t1 := hst (H ++ [.mk true 1 []]) ⟨_, rfl⟩
    have t2 := hst G2 ⟨S2, hS2⟩
    rw [hv] at r0 h
    rw [hs1] at p1
    rw [hs2] at p3
    have hlen := fun {e s b : Nat} {z : List V} => h.len (e := e) (s := s) (b := b) (z := z)
    simp [Sh.size_str] at t1 t2 p1 p2 p3 hlen
    simp [r0, r1, r5, gi, hil, hlen, St.new, elemT, fillL, zerosL, t1, t2, p1, p2, p3, o1, o2, o3, hgc, regionL_none, regionL_some, List.lookup]
    exact fin
end Go.Proofs.Try1
end
section
namespace Go.Proofs.Try1
open Go Go.Lite
theorem first_uniq {α : Type} {key : α → Str} {l : List α} {t : Str} {i : Nat} {a : α} (hp : l.Pairwise fun a b => key a < key b) (h : l[i]? = some a) (hk : key a = t) : firstOf key l t = some a := by
 unfold firstOf
 rw [List.find?_eq_some_iff_getElem]
 obtain ⟨hi, h⟩ := List.getElem?_eq_some_iff.1 h
 refine ⟨by simp [hk], i, hi, h, fun j hj => ?_⟩
 have := List.pairwise_iff_getElem.1 hp j i (by omega) hi hj
 rw [h, hk] at this
 have hne : key l[j] ≠ t := fun e => by rw [e] at this; exact List.lt_irrefl _ this
 simp [hne]
theorem first_none {α : Type} {key : α → Str} {l : List α} {t : Str} (h : ∀ a ∈ l, key a ≠ t) : firstOf key l t = none := by
 unfold firstOf
 rw [List.find?_eq_none]
 intro x hx
 simpa using h x hx
theorem i_find {H : List Ob} {ide : Nat} {own : Bool} {es : Nat} {vd va : V} {l : List PAttr} {t : Str} (he : H[ide]? = some (.mk own es [vd, va])) (h : AAttrs H va l) (hl : l.length ≤ 1000) (hp : l.Pairwise fun a b => a.name < b.name) :
  ∃ (i : Nat) (ok : Bool), callW C 337 [.ptr (some (ide, 0)), .str t] H = some (.tup [.int .i64 i, .bool ok], H) ∧
   (ok = true → ∃ a, l[i]? = some a ∧ a.name = t) ∧ (ok = false → ∀ a ∈ l, a.name ≠ t) := by
 obtain ⟨i, ok, c1, h1, h2⟩ := l_search (t := t) h hl hp
 refine ⟨i, ok, ?_, h1, h2⟩
 apply Ret.eq
 rw [op337]
 have ld := load1 (o := 1) (v := va) he rfl
 simp [code337, Tryz.f337, ld, c1]
theorem i_values {H : List Ob} {ide : Nat} {own : Bool} {es : Nat} {vd va : V} {l : List PAttr} {t : Str} (he : H[ide]? = some (.mk own es [vd, va])) (h : AAttrs H va l) (hl : l.length ≤ 1000) (hp : l.Pairwise fun a b => a.name < b.name) :
  ∃ w, callW C 287 [.ptr (some (ide, 0)), .str t] H = some (w, H) ∧ AStrs H w (valsOf l t) := by
 obtain ⟨i, ok, c1, h1, h2⟩ := i_find (t := t) he h hl hp
 suffices hs : Ret C 287 [.ptr (some (ide, 0)), .str t] H fun q H' => AStrs H q (valsOf l t) ∧ H' = H by
  obtain ⟨q, H', hc, hr, rfl⟩ := hs
  exact ⟨q, hc, hr⟩
 rw [op287]
 have ld := load1 (o := 1) (v := va) he rfl
 cases ok with
 | false =>
  have hv : valsOf l t = [] := by unfold valsOf; rw [first_none (h2 rfl)]
  simp [code287, Tryz.f287, c1, hv]
  exact At_slice.2 ⟨_, _, rfl, rfl, by simp, .inl ⟨rfl, rfl⟩⟩
 | true =>
  obtain ⟨a, ha, hat⟩ := h1 rfl
  obtain ⟨id, o, w, e1, l0, l1, _, hw, _⟩ := attrs_idx h ha
  have hv : valsOf l t = a.vals := by unfold valsOf; rw [first_uniq hp ha hat]
  simp [code287, Tryz.f287, c1, ld, e1, l1, hv]
  exact hw
theorem i_hasIt {H : List Ob} {ide idp : Nat} {own own' : Bool} {es es' : Nat} {vd va : V} {l : List PAttr} {t : Str} (he : H[ide]? = some (.mk own es [vd, va])) (hq : H[idp]? = some (.mk own' es' [.ptr (some (ide, 0))])) (h : AAttrs H va l) (hl : l.length ≤ 1000) (hp : l.Pairwise fun a b => a.name < b.name) :
  callW C 344 [.str t, .ptr (some (idp, 0))] H = some (.bool (decide (0 < (valsOf l t).length)), H) := by
 obtain ⟨w, c1, hw⟩ := i_values (t := t) he h hl hp
 apply Ret.eq
 rw [op344]
 have ld := load1 (o := 0) (v := .ptr (some (ide, 0))) hq rfl
 simp [code344, Tryz.f344, ld, c1, hw.len]
theorem i_named {H : List Ob} {idn : Nat} {own : Bool} {es : Nat} {n t : Str} {w1 w2 w3 : V} (hq : H[idn]? = some (.mk own es [.str t])) (h1 : cellsOf w1 = some [w1]) :
  callW C 356 [.agg [.str n, w1, w2, w3], .ptr (some (idn, 0))] H = some (.bool (decide (n = t)), H) := by
 apply Ret.eq
 rw [op356]
 have ld := load1 (o := 0) (v := .str t) hq rfl
 simp [code356, Tryz.f356, ld]
theorem l_idxClass {H : List Ob} {idn : Nat} {own : Bool} {es : Nat} {v : V} {l : List PClass} {t : Str} (hq : H[idn]? = some (.mk own es [.str t])) (h : AClasses H v l) :
  ∃ r : Int, callW C 355 [v, .fn 356 [] [.ptr (some (idn, 0))]] H = some (.int .i64 r, H) ∧ FirstAt PClass.name l t r := by
 suffices hs : Ret C 355 [v, .fn 356 [] [.ptr (some (idn, 0))]] H fun q H' => (∃ r : Int, q = .int .i64 r ∧ FirstAt PClass.name l t r) ∧ H' = H by
  obtain ⟨q, H', hc, ⟨r, rfl, hr⟩, rfl⟩ := hs
  exact ⟨r, hc, hr⟩
 rw [op355]
 have hb : l.length ≤ 9223372036854775807 := h.bound
 simp [code355, Tryz.f355, h.len]
 refine WP_loop (fun k σ => ∃ (i : Nat) (r : Nat → R), i + k = l.length ∧ σ = ⟨r, 0, H⟩ ∧ r 0 = .val v ∧ r 1 = .val (.fn 356 [] [.ptr (some (idn, 0))]) ∧ r 7 = .val (.int .i64 l.length) ∧ r 8 = .val (.int .i64 i) ∧ ∀ j x, j < i → l[j]? = some x → x.name ≠ t) ?_ l.length _ ⟨0, _, by simp, rfl, by simp, by simp, by simp, by simp, by simp⟩
 rintro k σ ⟨i, r, hik, rfl, r0, r1, r7, r8, hall⟩
 cases k with
 | zero =>
  have hi : i = l.length := by omega
  subst hi
  have hx := at_all (P := fun j (x : PClass) => x.name ≠ t) hall
  simp [r0, r1, r7, r8]
  exact .inr ⟨hx, rfl⟩
 | succ k =>
  have hi : i < l.length := by omega
  obtain ⟨x, hx⟩ : ∃ c, l[i]? = some c := ⟨l[i], by simp [hi]⟩
  have hw : IntKind.i64.wrap ((i : Int) + 1) = ((i : Int) + 1) := wrap_i64 (by omega) (by omega)
  obtain ⟨id, o, w1, w2, w3, e1, l0, l4, q1, q2, q3, _⟩ := classes_idx h hx
  have c1 := i_named (n := x.name) (w1 := w1) (w2 := w2) (w3 := w3) hq q1.one.2
  by_cases g1 : x.name = t
  ·rw [decide_eq_true g1] at c1
   simp [r0, r1, r7, r8, hi, e1, l4, c1]
   exact .inl ⟨i, x, hx, g1, hall, rfl⟩
  ·rw [decide_eq_false g1] at c1
   simp [r0, r1, r7, r8, hi, e1, l4, c1, hw]
   exact ⟨k, by omega, i + 1, by omega, by omega, at_step (P := fun j (x : PClass) => x.name ≠ t) hall hx g1⟩
theorem strs_low {H T : List Ob} {w : V} {l : List Str} (h : AStrs (H ++ T) w l) (hl : lowV H w) : AStrs H w l := by
 obtain ⟨w', us, hw, hu, hb, hs⟩ := At_slice.1 h.at
 cases hw
 cases hu
 refine At_slice.2 ⟨_, _, rfl, rfl, hb, ?_⟩
 rcases hs with h | ⟨id, off, own, cells, rfl, h2, h3, h4⟩
 ·exact .inl h
 ·obtain ⟨_, _, _, h5⟩ := hl
  have hid := (List.getElem?_eq_some_iff.1 h5).1
  rw [List.getElem?_append_left hid] at h2
  refine .inr ⟨id, off, own, cells, rfl, h2, h3, fun i x hx => ?_⟩
  have := h4 i x hx
  rw [At_str] at this ⊢
  exact this
theorem class_gc {H T : List Ob} {m : Option PClass} {cs : List V} {ok : Bool} (h : ClassRes (H ++ T) m cs ok) : ∃ T', gcH H (H ++ T) (.tup [.agg cs, .bool ok]) = H ++ T' ∧ ClassRes (H ++ T') m cs ok := by
 by_cases hl : lowV H (.tup [.agg cs, .bool ok])
 ·refine ⟨[], by rw [gcH_low hl, List.append_nil], ?_⟩
  rw [List.append_nil]
  rcases h with ⟨rfl, c, w1, w2, w3, h1, rfl, h2, h3, h4⟩ | h
  ·simp only [lowV, lowVs, and_true, true_and] at hl
   exact .inl ⟨rfl, c, w1, w2, w3, h1, rfl, strs_low h2 hl.1, strs_low h3 hl.2.1, strs_low h4 hl.2.2⟩
  ·exact .inr h
 ·refine ⟨T, ?_, h⟩
  unfold gcH
  rw [if_neg fun h => hl h.2]
theorem l_Clone' {H : List Ob} {v : V} {l : List Str} (h : AStrs H v l) (hl : l.length ≤ 1000000) : ∃ T w, callW C 277 [v] H = some (w, H ++ T) ∧ Own H (H ++ T) w l ∧ AStrs (H ++ T) w l ∧ isOne w = true ∧ cellsOf w = some [w] := by
 obtain ⟨T, w, h1, h2⟩ := l_Clone h hl
 exact ⟨T, w, h1, h2, h2.strs (by unfold maxLen; omega) (strs_max h), h2.one⟩
theorem i_classOf {H : List Ob} {v : V} {l : List PClass} {t : Str} (h : AClasses H v l) (hb : ∀ c ∈ l, c.must.length ≤ 1000 ∧ c.may.length ≤ 1000 ∧ c.single.length ≤ 1000) :
  ∃ T cs ok, callW C 335 [v, .str t] H = some (.tup [.agg cs, .bool ok], H ++ T) ∧ ClassRes (H ++ T) (firstOf PClass.name l t) cs ok := by
 suffices hs : Ret C 335 [v, .str t] H fun q H' => ∃ T cs ok, q = .tup [.agg cs, .bool ok] ∧ H' = H ++ T ∧ ClassRes (H ++ T) (firstOf PClass.name l t) cs ok by
  obtain ⟨q, H', hc, T, cs, ok, rfl, rfl, hr⟩ := hs
  exact ⟨T, cs, ok, hc, hr⟩
 rw [op335]
 obtain ⟨r, c1, hr⟩ := l_idxClass (H := H ++ [.mk true 1 [.str t]]) (idn := H.length) (t := t) get_last h.ext
 rcases hr.pos with ⟨k, a, h1, rfl, h2⟩ | ⟨rfl, h2⟩
 ·obtain ⟨id, o, w1, w2, w3, e1, l4, q1, q2, q3⟩ := classes_idxT h h1
  have l4 := l4 [.mk true 1 [.str t]]
  obtain ⟨b1, b2, b3⟩ := hb a (List.mem_of_getElem? h1)
  have hk : ¬ ((k : Int) < 0) := by omega
  obtain ⟨T1, x1, d1, _, s1, o1⟩ := l_Clone' (q1.ext (T := [.mk true 1 [.str t]])) (by omega)
  obtain ⟨T2, x2, d2, _, s2, o2⟩ := l_Clone' (q2.ext.ext (T := T1) (H := H ++ [.mk true 1 [.str t]])) (by omega)
  obtain ⟨T3, x3, d3, _, s3, o3⟩ := l_Clone' (q3.ext.ext.ext (T := T2) (H := H ++ [.mk true 1 [.str t]] ++ T1)) (by omega)
  have hres : ClassRes (H ++ ([.mk true 1 [.str t]] ++ (T1 ++ (T2 ++ T3)))) (firstOf PClass.name l t) [.str a.name, x1, x2, x3] true := by
   refine .inl ⟨rfl, a, x1, x2, x3, h2, rfl, ?_, ?_, ?_⟩
   ·have := s1.ext (T := T2 ++ T3); simpa only [List.append_assoc] using this
   ·have := s2.ext (T := T3); simpa only [List.append_assoc] using this
   ·simpa only [List.append_assoc] using s3
  obtain ⟨T', hg, hres⟩ := class_gc hres
  simp only [List.append_assoc, List.cons_append, List.nil_append] at d1 d2 d3 hg
  simp [code335, Tryz.f335, c1, hk, e1, l4, d1, d2, d3, o1, o2, o3, q1.one, q2.one, q3.one, strideOf, buildV, fillL, structPlace, List.lookup, hg]
  exact hres
 ·have hres : ClassRes (H ++ [.mk true 1 [.str t]]) (firstOf PClass.name l t) [.str [], .slc none 0, .slc none 0, .slc none 0] false := .inr ⟨rfl, h2, rfl⟩
  obtain ⟨T', hg, hres⟩ := class_gc hres
  simp [code335, Tryz.f335, c1, strideOf, buildV, fillL, structPlace, hg]
  exact hres
theorem i_valuesC {H : List Ob} {ide : Nat} {own : Bool} {es : Nat} {vd va : V} {l : List PAttr} (he : H[ide]? = some (.mk own es [vd, va])) (h : AAttrs H va l) (hl : l.length ≤ 1000) (hp : l.Pairwise fun a b => a.name < b.name) :
  ∃ w, callW C 287 [.ptr (some (ide, 0)), .str [99, 108, 97, 115, 115]] H = some (w, H) ∧ AStrs H w (valsOf l classT) := i_values he h hl hp
theorem i_ofEntry {H : List Ob} {ide : Nat} {own : Bool} {es : Nat} {vd va vl : V} {l : List PClass} {as' : List PAttr} (he : H[ide]? = some (.mk own es [vd, va])) (h : AAttrs H va as') (hl : as'.length ≤ 1000) (hp : as'.Pairwise fun a b => a.name < b.name)
  (hc : AClasses H vl l) (hb : ∀ c ∈ l, c.must.length ≤ 1000 ∧ c.may.length ≤ 1000 ∧ c.single.length ≤ 1000) :
  ∃ T cs ok, callW C 293 [vl, .ptr (some (ide, 0))] H = some (.tup [.agg cs, .bool ok], H ++ T) ∧ ClassRes (H ++ T) (mineOf l as') cs ok := by
 suffices hs : Ret C 293 [vl, .ptr (some (ide, 0))] H fun q H' => ∃ T cs ok, q = .tup [.agg cs, .bool ok] ∧ H' = H ++ T ∧ ClassRes (H ++ T) (mineOf l as') cs ok by
  obtain ⟨q, H', hc, T, cs, ok, rfl, rfl, hr⟩ := hs
  exact ⟨T, cs, ok, hc, hr⟩
 rw [op293]
 obtain ⟨w, c1, hw⟩ := i_valuesC he h hl hp
 by_cases g1 : (valsOf as' classT).length = 1
 rotate_left
 ·have hm : mineOf l as' = none := by
   unfold mineOf
   split
   ·rename_i v hv; rw [hv] at g1; exact absurd rfl g1
   ·rfl
  have g1' : ¬ ((valsOf as' classT).length : Int) = 1 := by omega
  simp [code293, Tryz.f293, c1, hw.len, g1', buildV, fillL]
  exact .inr ⟨rfl, hm, rfl⟩
 obtain ⟨s, hs⟩ : ∃ s, valsOf as' classT = [s] := by
  match h : valsOf as' classT, g1 with
  | [s], _ => exact ⟨s, rfl⟩
 rw [hs] at hw
 obtain ⟨id, o, e1, l0, _⟩ := strs_idx hw (i := 0) (s := s) rfl
 simp only [Int.ofNat_eq_natCast, Int.natCast_zero] at e1
 have c2 := i_Norm (t := s) (H := H)
 obtain ⟨T, cs, ok, c3, hres⟩ := i_classOf (t := norm s) hc hb
 have hm : mineOf l as' = firstOf PClass.name l (norm s) := by unfold mineOf; rw [hs]
 rw [← hm] at hres
 have hcs : cs.length = 4 ∧ cs.all isOne = true := by
  rcases hres with ⟨_, c, w1, w2, w3, _, rfl, h1, h2, h3⟩ | ⟨_, _, rfl⟩
  ·exact ⟨rfl, by simp [h1.one, h2.one, h3.one]⟩
  ·exact ⟨rfl, rfl⟩
 obtain ⟨T', hg, hres⟩ := class_gc hres
 obtain ⟨x1, x2, x3, x4, rfl⟩ : ∃ x1 x2 x3 x4, cs = [x1, x2, x3, x4] := by
  match cs, hcs.1 with
  | [x1, x2, x3, x4], _ => exact ⟨_, _, _, _, rfl⟩
 have hone := hcs.2
 simp at hone
 cases ok <;> simp [code293, Tryz.f293, c1, hw.len, e1, l0, c2, c3, hone, hg] <;> exact hres
theorem setRange_take {cells xs : List V} {i : Nat} (h : i ≤ cells.length) : (setRange cells i xs).take i = cells.take i := by
 unfold setRange
 rw [List.append_assoc, List.take_append_of_le_length (by simp; omega), List.take_take, Nat.min_self]
theorem obj_strs {G : List Ob} {id : Nat} {l : List Str} (h : G[id]? = some (.mk true 1 (l.map V.str))) (hl : l.length ≤ 1000000) (hs : ∀ s ∈ l, s.length ≤ maxLen) : AStrs G (.slc (some (id, 0)) l.length) l := by
 have := (Gs.strs (H := []) (G := G) (v := .slc (some (id, 0)) (l.map V.str).length) (l := l) ⟨G, id, rfl, by simp, h, rfl⟩ (by unfold maxLen; omega) hs).1
 simpa using this
theorem l_Delete {G0 : List Ob} {id : Nat} {l : List Str} {g : Nat} {a b : List V} (p : Str → Bool) (h : G0[id]? = some (.mk true 1 (l.map V.str))) (hl : l.length ≤ 1000) (hs : ∀ s ∈ l, s.length ≤ maxLen)
  (hg : ∀ G' : List Ob, G'.length = G0.length → (∀ q, q ≠ id → G'[q]? = G0[q]?) → ∀ x, callW C g (a ++ ([.str x] ++ b)) G' = some (.bool (p x), G')) :
  ∃ G' k cs, callW C 343 [.slc (some (id, 0)) l.length, .fn g a b] G0 = some (.slc (some (id, 0)) k, G') ∧ G'.length = G0.length ∧ (∀ q, q ≠ id → G'[q]? = G0[q]?) ∧
   G'[id]? = some (.mk true 1 cs) ∧ cs.length = l.length ∧ k = (l.filter fun x => !p x).length ∧ cs.take k = (l.filter fun x => !p x).map V.str := by
 suffices hs : Ret C 343 [.slc (some (id, 0)) l.length, .fn g a b] G0 fun w G' => ∃ k cs, w = .slc (some (id, 0)) k ∧ G'.length = G0.length ∧ (∀ q, q ≠ id → G'[q]? = G0[q]?) ∧
   G'[id]? = some (.mk true 1 cs) ∧ cs.length = l.length ∧ k = (l.filter fun x => !p x).length ∧ cs.take k = (l.filter fun x => !p x).map V.str by
  obtain ⟨w, G', hc, k, cs, rfl, h1⟩ := hs
  exact ⟨G', k, cs, hc, h1⟩
 rw [op343]
 obtain ⟨r, c1, hr⟩ := l_IndexFunc (obj_strs h (by omega) hs) p (fun x _ => hg G0 rfl (fun _ _ => rfl) x)
 rcases hr with ⟨k0, x0, hx0, hp0, hlt0, rfl⟩ | ⟨hn, rfl⟩
 rotate_left
 ·have hf : (l.filter fun x => !p x) = l := by
   rw [List.filter_eq_self]
   intro x hx
   obtain ⟨j, hj, rfl⟩ := List.getElem_of_mem hx
   rw [hn j _ (List.getElem?_eq_getElem hj)]
   rfl
  rw [hf]
  simp [code343, Tryz.f343, c1]
  exact ⟨l.map V.str, h, by simp, by rw [List.take_of_length_le (by simp)]⟩
 have hk0 : k0 < l.length := (List.getElem?_eq_some_iff.1 hx0).1
 have hm1 : ¬ ((k0 : Int) = -1) := by omega
 have hw0 : IntKind.i64.wrap ((k0 : Int) + 1) = (k0 : Int) + 1 := wrap_i64 (by omega) (by omega)
 have hpre : (l.take (k0 + 1)).filter (fun x => !p x) = l.take k0 := by
  rw [take_get hx0, List.filter_append]
  have : (l.take k0).filter (fun x => !p x) = l.take k0 := by
   rw [List.filter_eq_self]
   intro x hx
   obtain ⟨j, hj, rfl⟩ := List.getElem_of_mem hx
   simp at hj
   rw [List.getElem_take, hlt0 j _ (by omega) (List.getElem?_eq_getElem (by omega))]
   rfl
  rw [this]
  simp [hp0]
 simp [code343, Tryz.f343, c1, hm1, hw0]
 refine WP_loop (fun m σ => ∃ (i j : Nat) (r : Nat → R) (G : List Ob) (cs : List Str), j + m = l.length ∧ σ = ⟨r, 0, G⟩ ∧ r 0 = .val (.slc (some (id, 0)) l.length) ∧ r 1 = .val (.fn g a b) ∧ r 5 = .val (.int .i64 i) ∧ r 6 = .val (.int .i64 j) ∧ i < j ∧ G.length = G0.length ∧ (∀ q, q ≠ id → G[q]? = G0[q]?) ∧
  G[id]? = some (.mk true 1 (cs.map V.str)) ∧ cs.length = l.length ∧ i = ((l.take j).filter fun x => !p x).length ∧ cs.take i = (l.take j).filter (fun x => !p x) ∧ cs.drop j = l.drop j) ?_ (l.length - (k0 + 1)) _
  ⟨k0, k0 + 1, _, G0, l, by omega, rfl, by simp, by simp, by simp, by simp, by omega, rfl, fun _ _ => rfl, h, rfl, by rw [hpre]; simp; omega, by rw [hpre], rfl⟩
 clear hm1 hw0
 rintro m σ ⟨i, j, r, G, cs, hjm, rfl, r0, r1, r5, r6, hij, hG1, hG2, hG3, hcs, hi, htk, hdr⟩
 have hid : id < G.length := (List.getElem?_eq_some_iff.1 hG3).1
 have hst : strideIs G id 1 = true := by simp [strideIs, hG3]
 cases m with
 | zero =>
  have hj : j = l.length := by omega
  subst hj
  rw [List.take_length] at hi htk
  have hil : i ≤ l.length := by omega
  have hnz : ¬ (l.length - i = 0) := by omega
  have hwa : ∀ r c, writeAt ⟨r, c, G⟩ (.hp id i) (zerosL LTstr (l.length - i)) = some ⟨r, c, G.set id (.mk true 1 (setRange (cs.map V.str) i (zerosL LTstr (l.length - i))))⟩ := by
   intro r c
   simp only [writeAt, hG3]
   rw [if_pos (by rw [zerosL_str, List.length_map]; omega)]
  have hst2 : ∀ o, strideIs (G.set id (.mk true 1 o)) id 1 = true := fun o => by simp [strideIs, hid]
  have hgl : ∀ o w, gcH G0 (G.set id o) w = G.set id o := fun o w => gcH_leq (by rw [List.length_set]; exact hG1)
  simp [r0, r1, r5, r6, hil, hst, elemT, hnz, hwa, hst2, hgl, -setRange]
  refine ⟨hG1, fun q hq => by rw [List.getElem?_set_ne (Ne.symm hq)]; exact hG2 q hq, setRange (cs.map V.str) i (zerosL LTstr (l.length - i)), by simp [hid, -setRange], by rw [setRange_len (by rw [zerosL_str, List.length_map]; omega), List.length_map, hcs], hi, ?_⟩
  rw [setRange_take (by rw [List.length_map]; omega), ← List.map_take, htk]
 | succ m =>
  have hj : j < l.length := by omega
  obtain ⟨x, hx⟩ : ∃ x, l[j]? = some x := ⟨l[j], List.getElem?_eq_getElem hj⟩
  have hxc : cs[j]? = some x := by
   have := congrArg (fun l => l[0]?) hdr
   simpa [hx] using this
  have ld := load1 (o := j) (v := .str x) hG3 (by simp [hxc])
  have c2 := hg G hG1 hG2 x
  simp only [List.singleton_append] at c2
  have hw : IntKind.i64.wrap ((j : Int) + 1) = (j : Int) + 1 := wrap_i64 (by omega) (by omega)
  have hw2 : IntKind.i64.wrap ((i : Int) + 1) = (i : Int) + 1 := wrap_i64 (by omega) (by omega)
  have hil : i < l.length := by omega
  have hdr' : cs.drop (j + 1) = l.drop (j + 1) := by
   have := congrArg (List.drop 1) hdr
   simpa [List.drop_drop, Nat.add_comm] using this
  have hft := filter_take hx fun x => !p x
  cases hp : p x with
  | true =>
   rw [hp] at c2 hft
   simp at hft
   simp [r0, r1, r5, r6, hj, ld, c2, hw]
   exact ⟨m, by omega, i, j + 1, by omega, _, G, ⟨rfl, rfl⟩, by simp [r0], by simp [r1], by simp [r5], by simp, by omega, hG1, hG2, cs, hG3, hcs, by rw [hft]; exact hi, by rw [hft]; exact htk, hdr'⟩
  | false =>
   rw [hp] at c2 hft
   simp at hft
   have st := store1 (v := .str x) (o := i) hG3 (by simp; omega) rfl rfl
   simp [r0, r1, r5, r6, hj, hil, ld, c2, hw, hw2, st]
   refine ⟨m, by omega, i + 1, j + 1, by omega, _, _, ⟨rfl, rfl⟩, by simp [r0], by simp [r1], by simp, by simp, by omega, by simpa using hG1, fun q hq => by rw [List.getElem?_set_ne (Ne.symm hq)]; exact hG2 q hq, cs.set i x, by rw [List.getElem?_set_self hid, List.map_set], by simpa using hcs, ?_, ?_, ?_⟩
   ·rw [hft, List.length_append, ← hi]; rfl
   ·rw [hft, ← htk, List.take_add_one, List.getElem?_set_self (by omega), List.take_set, List.set_eq_of_length_le (by simp; omega)]
    rfl
   ·rw [List.drop_set_of_lt (by omega)]; exact hdr'
theorem prefix_F {G : List Ob} {id k : Nat} {cs : List V} {l : List Str} (h : G[id]? = some (.mk true 1 cs)) (hk : k = l.length) (hc : cs.take k = l.map V.str) (hl : l.length ≤ maxLen) (hs : ∀ s ∈ l, s.length ≤ maxLen) : AtF G (.slice .str) [.slc (some (id, 0)) k] (.lst (l.map strU)) [id] := by
 have hlen : k ≤ cs.length := by
  have := congrArg List.length hc
  simp at this
  omega
 refine AtF_slice.2 ⟨_, _, rfl, rfl, by simpa using hl, .inr ⟨id, 0, cs, List.replicate l.length [], by simp [hk], h, by simp; omega, by simp, by simp, fun i x F hx hF => ?_⟩⟩
 rw [List.getElem?_map] at hx
 obtain ⟨s, hs', rfl⟩ := Option.map_eq_some_iff.1 hx
 have hi : i < l.length := (List.getElem?_eq_some_iff.1 hs').1
 rw [List.getElem?_replicate, if_pos hi] at hF
 cases hF
 refine AtF_str.2 ⟨⟨s, ?_, rfl, hs s (List.mem_of_getElem? hs')⟩, rfl⟩
 have h1 : cs[i]? = some (.str s) := by
  have := congrArg (fun l => l[i]?) hc
  simp only [List.getElem?_take_of_lt (show i < k by omega), List.getElem?_map, hs'] at this
  exact this
 obtain ⟨hi2, h1⟩ := List.getElem?_eq_some_iff.1 h1
 rw [Sh.size_str, Nat.zero_add, Nat.mul_one, List.drop_eq_getElem_cons hi2, h1]
 rfl
def Back (H G : List Ob) (w : V) (l : List Str) : Prop := ∃ F, AtF G (.slice .str) [w] (.lst (l.map strU)) F ∧ F.Nodup ∧ ∀ q ∈ F, H.length ≤ q
theorem Back.nil {H G : List Ob} : Back H G (.slc none 0) [] := ⟨[], AtF_slice.2 ⟨_, _, rfl, rfl, by simp, .inl ⟨rfl, rfl, rfl⟩⟩, by simp, by simp⟩
theorem i_missing {H : List Ob} {ide : Nat} {own : Bool} {es : Nat} {vd va w1 w2 w3 : V} {c : PClass} {as' : List PAttr} (he : H[ide]? = some (.mk own es [vd, va])) (h : AAttrs H va as') (hl : as'.length ≤ 1000) (hp : as'.Pairwise fun a b => a.name < b.name)
  (h1 : AStrs H w1 c.must) (o2 : isOne w2 = true ∧ cellsOf w2 = some [w2]) (o3 : isOne w3 = true ∧ cellsOf w3 = some [w3]) (hm : c.must.length ≤ 1000) :
  ∃ T w, callW C 294 [.agg [.str c.name, w1, w2, w3], .ptr (some (ide, 0))] H = some (w, H ++ T) ∧ Back H (H ++ T) w (c.must.filter fun t => !decide (0 < (valsOf as' t).length)) := by
 suffices hs : Ret C 294 [.agg [.str c.name, w1, w2, w3], .ptr (some (ide, 0))] H fun q H' => ∃ T, H' = H ++ T ∧ Back H (H ++ T) q (c.must.filter fun t => !decide (0 < (valsOf as' t).length)) by
  obtain ⟨q, H', hc, T, rfl, hr⟩ := hs
  exact ⟨T, q, hc, hr⟩
 rw [op294]
 have hide : ide < H.length := (List.getElem?_eq_some_iff.1 he).1
 obtain ⟨T, w, c1, hown⟩ := l_Clone (h1.ext (T := [.mk true 1 [.ptr (some (ide, 0))]])) (by omega)
 rcases hown with ⟨rfl, hm0⟩ | ⟨T', id', hT, g1, g2, rfl⟩
 ·have c2 : callW C 343 [.slc none 0, .fn 344 [] [.ptr (some (H.length, 0))]] (H ++ [.mk true 1 [.ptr (some (ide, 0))]] ++ T) = some (.slc none 0, H ++ [.mk true 1 [.ptr (some (ide, 0))]] ++ T) := by
   obtain ⟨r, c3, hr⟩ := l_IndexFunc (H := H ++ [.mk true 1 [.ptr (some (ide, 0))]] ++ T) (v := .slc none 0) (l := []) (g := 344) (a := []) (b := [.ptr (some (H.length, 0))]) (At_slice.2 ⟨_, _, rfl, rfl, by simp, .inl ⟨rfl, rfl⟩⟩) (fun _ => false) (fun x hx => by cases hx)
   have hr1 : r = -1 := by
    rcases hr with ⟨k, x, hx, _⟩ | ⟨_, rfl⟩
    ·simp at hx
    ·rfl
   subst hr1
   simp only [List.append_assoc, List.cons_append, List.nil_append] at c3 ⊢
   apply Ret.eq
   rw [op343]
   simp [code343, Tryz.f343, c3]
  simp only [List.append_assoc, List.cons_append, List.nil_append] at c1 c2
  have hgn : gcH H (H ++ .mk true 1 [.ptr (some (ide, 0))] :: T) (.slc none 0) = H := gcH_low trivial
  simp [code294, Tryz.f294, strideOf, c1, c2, h1.one, o2, o3, hm0, hgn]
  exact Back.nil
 ·have hT' := List.append_cancel_left hT
  subst hT'
  rw [List.length_map] at c1
  have hob : (H ++ [.mk true 1 [.ptr (some (ide, 0))]] ++ T)[H.length]? = some (.mk true 1 [.ptr (some (ide, 0))]) := by rw [List.append_assoc]; simp
  have hg1 : H.length + 1 ≤ id' := by simpa using g1
  obtain ⟨G', k, cs, c2, k1, k2, k3, k4, k5, k6⟩ := l_Delete (g := 344) (a := []) (b := [.ptr (some (H.length, 0))]) (fun t => decide (0 < (valsOf as' t).length)) g2 hm (strs_max h1) (fun G' e1 e2 x => by
   have hup : ∀ (q : Nat) o, H[q]? = some o → G'[q]? = some o := fun q o hq => by
    have := (List.getElem?_eq_some_iff.1 hq).1
    rw [e2 q (by omega), List.append_assoc]
    exact up_append _ _ hq
   exact i_hasIt (hup _ _ he) (by rw [e2 _ (by omega)]; exact hob) (h.up hup) hl hp)
  obtain ⟨T2, rfl⟩ : ∃ T2, G' = H ++ T2 := keep_append (fun q hq => by
   rw [k2 q (by omega), List.append_assoc, List.getElem?_append_left hq]) (by rw [k1, List.append_assoc]; simp)
  have hgc : ∀ n, gcH H (H ++ T2) (.slc (some (id', 0)) n) = H ++ T2 := fun n => by
   unfold gcH
   rw [if_neg]
   rintro ⟨_, own, es, cells, h⟩
   have := (List.getElem?_eq_some_iff.1 h).1
   omega
  have hF := prefix_F k3 k5 k6 (by have := List.length_filter_le (fun t => !decide (0 < (valsOf as' t).length)) c.must; unfold maxLen; omega) (fun s hs => strs_max h1 s (List.mem_filter.1 hs).1)
  simp only [List.append_assoc, List.cons_append, List.nil_append] at c1 c2
  simp [code294, Tryz.f294, strideOf, c1, c2, h1.one, o2, o3, hgc]
  exact ⟨_, by simpa using hF, by simp, by simp; omega⟩
theorem load_lt {H : List Ob} {id o : Nat} {x : V} (h : ∀ T : LT, T.one → ∀ r c, loadAt T ⟨r, c, H⟩ (.hp id o) = some x) : id < H.length := by
 by_cases hi : id < H.length
 ·exact hi
 ·have h1 := h ⟨.str, 1, 16, [.str []]⟩ one_str (fun _ => .val .undef) 0
  have h2 : H[id]? = none := List.getElem?_eq_none (by omega)
  simp [loadAt, cellsAt, h2] at h1
theorem s_Key {H : List Ob} {v : V} {l : List PRdn} (h : ARdns H v l) (hd : DnOk l) : callW C 161 [v] H = some (.str (keyD l), H) := by
 apply Ret.eq
 rw [op161]
 have hb := hd.2
 have hw0 : IntKind.i64.wrap ((l.length : Int) - 1) = (l.length : Int) - 1 := wrap_i64 (by omega) (by omega)
 simp [code161, Tryz.f161, h.len, hw0]
 refine WP_loop (fun m σ => ∃ (r : Nat → R), m ≤ l.length ∧ σ = ⟨r, 0, H⟩ ∧ r 0 = .val v ∧ r 3 = .val (.str (kacc l m)) ∧ r 4 = .val (.int .i64 ((m : Int) - 1))) ?_ l.length _ ⟨_, by omega, rfl, by simp, by simp [kacc_end], by simp⟩
 rintro m σ ⟨r, hm, rfl, r0, r3, r4⟩
 cases m with
 | zero =>
  simp at r4
  simp [r0, r3, r4, kacc_zero]
 | succ m =>
  have hi : m < l.length := by omega
  obtain ⟨x, hx⟩ : ∃ c, l[m]? = some c := ⟨l[m], by simp [hi]⟩
  have r4' : r 4 = .val (.int .i64 m) := by rw [r4]; congr 2; omega
  have hw : IntKind.i64.wrap ((m : Int) - 1) = (m : Int) - 1 := wrap_i64 (by omega) (by omega)
  obtain ⟨id, o, e1, l0, l1, _, _⟩ := rdns_idx h hx
  have c1 := s_Norm (t := x.value) (H := H)
  have k1 := kacc_len hd (m + 1)
  have k2 := (hd.1 m x hx).1.2.1
  have k3 := norm_len (t := x.value)
  have kst := kacc_step hx
  have b1 : (kacc l (m + 1)).length + 1 ≤ maxStr := by unfold maxStr; omega
  have b2 : (kacc l (m + 1)).length + (x.attr.length + 1) ≤ maxStr := by unfold maxStr; omega
  have b3 : (kacc l (m + 1)).length + (x.attr.length + 1 + 1) ≤ maxStr := by unfold maxStr; omega
  have b4 : (kacc l (m + 1)).length + (x.attr.length + ((norm x.value).length + 1) + 1) ≤ maxStr := by unfold maxStr; omega
  have hid := load_lt l0
  have b5 : (kacc l (m + 1)).length + 1 + x.attr.length ≤ maxStr := by unfold maxStr; omega
  have b6 : (kacc l (m + 1)).length + (x.attr.length + 1) + 1 ≤ maxStr := by unfold maxStr; omega
  have b7 : (kacc l (m + 1)).length + (x.attr.length + 1 + 1) + (norm x.value).length ≤ maxStr := by unfold maxStr; omega
  simp [r0, r3, r4', e1, l0, l1, c1, hw, strBin, b1, b2, b3, b4, b5, b6, b7, hid]
  exact ⟨m, by omega, by omega, by rw [kst]; simp [keyStep], rfl⟩
theorem i_Key {H : List Ob} {v : V} {l : List PRdn} (h : ARdns H v l) (hd : DnOk l) : callW C 170 [v] H = some (.str (keyD l), H) := by
 rw [callW_prim (show C.prim 170 = some dkPrim from rfl)]
 exact dkPrim_eq h hd.small.1 hd.small.2
theorem i_isNorm {H : List Ob} {id : Nat} {own : Bool} {es : Nat} {t n : Str} (hq : H[id]? = some (.mk own es [.str n])) : callW C 288 [.str t, .ptr (some (id, 0))] H = some (.bool (dec (norm t = n)), H) := by
 apply Ret.dec
 rw [op288]
 have ld := load1 (o := 0) (v := .str n) hq rfl
 have c1 := i_Norm (t := t) (H := H)
 have hid : id < H.length := (List.getElem?_eq_some_iff.1 hq).1
 simp [code288, Tryz.f288, ld, c1, hid]
 exact (Classical.em _).symm
theorem i_has {H : List Ob} {ide : Nat} {own : Bool} {es : Nat} {vd va : V} {l : List PAttr} {t n : Str} (he : H[ide]? = some (.mk own es [vd, va])) (h : AAttrs H va l) (hl : l.length ≤ 1000) (hp : l.Pairwise fun a b => a.name < b.name) :
  callW C 210 [.ptr (some (ide, 0)), .str t, .str n] H = some (.bool (dec (HasOk l t n)), H) := by
 apply Ret.dec
 rw [op210]
 have ld := load1 (H := H ++ [.mk true 1 [.str n]]) (o := 0) (v := .str n) get_last rfl
 have hgb : ∀ X b, gcH H (H ++ X) (.bool b) = H := fun X b => gcH_bool
 by_cases hn : n = []
 ·subst hn
  simp [code210, Tryz.f210, strideOf, ld, HasOk, hgb]
 ·obtain ⟨w, c1, hw⟩ := i_values (H := H ++ [.mk true 1 [.str n]]) (t := t) (up_append _ _ he) h.ext hl hp
  have c2 := l_ContainsFunc hw (fun x => dec (norm x = n)) (g := 288) (a := []) (b := [.ptr (some (H.length, 0))]) (fun x _ => i_isNorm get_last)
  simp [code210, Tryz.f210, strideOf, ld, hn, c1, c2, hgb, HasOk]
  have e : (∃ x, x ∈ valsOf l t ∧ dec (norm x = n) = true) ↔ ∃ v, v ∈ valsOf l t ∧ norm v = n := by simp only [dec_true]
  rw [dec_iff e]
  by_cases hx : ∃ v, v ∈ valsOf l t ∧ norm v = n
  ·exact .inr ⟨dec_pos hx, hx⟩
  ·exact .inl ⟨dec_neg hx, fun x hx1 hx2 => hx ⟨x, hx1, hx2⟩⟩
theorem s_HasV {H : List Ob} {v v' : V} {l : List PAttr} {t s : Str} (h : AAttrs H v l) (ho : cellsOf v' = some [v']) (ho' : isOne v' = true) : callW C 203 [.agg [v', v], .str t, .str s] H = some (.bool (dec (HasOk l t (norm s))), H) := by
 apply Ret.dec
 rw [op203]
 have c1 := s_Norm (t := s) (H := H)
 obtain ⟨w, c2, hw⟩ := s_Of (t := t) h ho ho'
 obtain ⟨r, c3, hr⟩ := s_In (n := norm s) hw
 have hone := h.one
 by_cases hn : norm s = []
 ·simp [code203, Tryz.f203, c1, hn, ho, ho', hone, HasOk]
 ·rcases hr with ⟨k, a, h1, h2, h3, rfl⟩ | ⟨h1, rfl⟩
  ·have hk : (0 : Int) ≤ (k : Int) := by omega
   have hm : a ∈ valsOf l t := List.mem_of_getElem? h1
   have h2' : norm a = norm s := by simpa using h2
   simp [code203, Tryz.f203, c1, c2, c3, hn, ho, ho', hone, HasOk, hk]
   exact ⟨a, hm, h2'⟩
  ·simp [code203, Tryz.f203, c1, c2, c3, hn, ho, ho', hone, HasOk]
   intro x hx
   obtain ⟨j, hj, rfl⟩ := List.getElem_of_mem hx
   have := h1 j _ (List.getElem?_eq_getElem hj)
   simpa using this
theorem s_CheckC {H : List Ob} {vl vd va : V} {l : List PClass} {e : PEntry} (hl : AClasses H vl l) (hd : ARdns H vd e.dn) (ha : AAttrs H va e.attrs) (hdn : 0 < e.dn.length) :
  ∃ r : Int, callW C 160 [vl, .agg [vd, va]] H = some (.int .i64 r, H) ∧ (r = 0 ↔ FitsOk l e) ∧ (r = 0 ∨ r = 12) := by
 suffices hs : Ret C 160 [vl, .agg [vd, va]] H fun q H' => (∃ r : Int, q = .int .i64 r ∧ (r = 0 ↔ FitsOk l e) ∧ (r = 0 ∨ r = 12)) ∧ H' = H by
  obtain ⟨q, H', hc, ⟨r, rfl, hr⟩, rfl⟩ := hs
  exact ⟨r, hc, hr⟩
 rw [op160]
 have hod := hd.one
 have hoa := ha.one
 obtain ⟨cs, ok, c1, hm⟩ := s_Mine (T := []) hl ha hod.2 hod.1
 rw [List.append_nil] at c1
 obtain ⟨x, hx⟩ : ∃ c, e.dn[0]? = some c := ⟨e.dn[0], by simp [hdn]⟩
 obtain ⟨id, o, e1, l0, l1, _, _⟩ := rdns_idx hd hx
 simp only [Int.ofNat_eq_natCast, Int.natCast_zero] at e1
 have hid := load_lt l0
 have c2 := s_HasV (t := x.attr) (s := x.value) ha hod.2 hod.1
 rcases hm with ⟨rfl, c, w1, w2, w3, hc, rfl, a1, a2, a3⟩ | ⟨rfl, hc, rfl⟩
 rotate_left
 ·simp [code160, Tryz.f160, regionL_some, regionL_none, List.lookup, c1, hod, hoa, hid]
  rintro ⟨c, h1, _⟩
  rw [hc] at h1
  cases h1
 by_cases hH : HasOk e.attrs x.attr (norm x.value)
 rotate_left
 ·rw [dec_neg hH] at c2
  simp [code160, Tryz.f160, regionL_some, regionL_none, List.lookup, c1, hod, hoa, a1.one, a2.one, a3.one, e1, l0, l1, hid, c2]
  rintro ⟨c, _, _, _, y, h1, h2⟩
  rw [hx] at h1
  cases h1
  exact hH h2
 rw [dec_pos hH] at c2
 simp [code160, Tryz.f160, regionL_some, regionL_none, List.lookup, c1, hod, hoa, a1.one, a2.one, a3.one, e1, l0, l1, hid, c2]
 have hb1 : c.must.length ≤ 9223372036854775807 := a1.bound
 have hb2 : e.attrs.length ≤ 9223372036854775807 := ha.bound
 have hfit : ∀ c', mineOf l e.attrs = some c' → c' = c := fun c' h => by rw [hc] at h; cases h; rfl
 refine WP_loop (fun k σ => ∃ (i : Nat) (r : Nat → R), i + k = c.must.length ∧ (∀ t ∈ c.must.take i, firstOf PAttr.name e.attrs t ≠ none) ∧ σ = ⟨r, 2, H⟩ ∧ r 3 = .box 0 [vd, va] ∧ r 5 = .box 1 [.str c.name, w1, w2, w3] ∧ r 7 = .val (.int .i64 i)) ?_ c.must.length _ ⟨0, _, by omega, by simp, rfl, by simp, by simp, by simp⟩
 rintro k σ ⟨i, r, hik, hpre, rfl, r3, r5, r7⟩
 cases k with
 | succ k =>
  have hi : i < c.must.length := by omega
  obtain ⟨s, hs⟩ : ∃ s, c.must[i]? = some s := ⟨c.must[i], by simp [hi]⟩
  obtain ⟨id2, o2, f1, l5, _⟩ := strs_idx a1 hs
  have hid2 := load_lt l5
  obtain ⟨q, c3, hq⟩ := s_At (t := s) ha hod.2
  have hw : IntKind.i64.wrap ((i : Int) + 1) = ((i : Int) + 1) := wrap_i64 (by omega) (by omega)
  rcases hq.pos with ⟨k', a, h1, rfl, h2⟩ | ⟨rfl, h2⟩
  ·have hk : ¬ ((k' : Int) < 0) := by omega
   simp [r3, r5, r7, regionL_some, regionL_none, List.lookup, a1.len, hi, f1, l5, hid2, c3, hk, hod, hoa, hw, a1.one]
   exact ⟨k, by omega, i + 1, by omega, fun t ht => by
    rw [take_get hs] at ht
    rcases List.mem_append.1 ht with h | h
    ·exact hpre t h
    ·obtain rfl := List.mem_singleton.1 h
     rw [h2]; simp, by simp⟩
  ·simp [r3, r5, r7, regionL_some, regionL_none, List.lookup, a1.len, hi, f1, l5, hid2, c3, hod, hoa, a1.one]
   rintro ⟨c', hc', hl', _⟩
   obtain rfl := hfit c' hc'
   have := List.filter_eq_nil_iff.1 hl' s (List.mem_of_getElem? hs)
   simp [h2] at this
 | zero =>
  have hi : i = c.must.length := by omega
  subst hi
  rw [List.take_length] at hpre
  simp [r3, r5, r7, regionL_some, regionL_none, a1.len, a1.one]
  refine WP_loop (fun k σ => ∃ (i : Nat) (r : Nat → R), i + k = e.attrs.length ∧ (∀ a ∈ e.attrs.take i, AttrFits c a) ∧ σ = ⟨r, 2 + i, H⟩ ∧ r 3 = .box 0 [vd, va] ∧ r 5 = .box 1 [.str c.name, w1, w2, w3] ∧ r 8 = .val (.int .i64 i)) ?_ e.attrs.length _ ⟨0, _, by omega, by simp, rfl, by simp [r3], by simp [r5], by simp⟩
  clear r3 r5 r7 r
  rintro k σ ⟨i, r, hik, hpre2, rfl, r3, r5, r8⟩
  cases k with
  | zero =>
   have hi : i = e.attrs.length := by omega
   subst hi
   rw [List.take_length] at hpre2
   simp [r3, r5, r8, ha.len, regionL_some, regionL_none, hoa]
   exact ⟨c, hc, List.filter_eq_nil_iff.2 fun t ht => by
    have := hpre t ht
    cases h : firstOf PAttr.name e.attrs t with
    | none => exact absurd h this
    | some _ => simp, hpre2, x, hx, hH⟩
  | succ k =>
   have hi : i < e.attrs.length := by omega
   obtain ⟨a, hs⟩ : ∃ a, e.attrs[i]? = some a := ⟨e.attrs[i], by simp [hi]⟩
   obtain ⟨id2, o2, w, f1, m1, m2, m3, aw, _⟩ := attrs_idx ha hs
   have hw : IntKind.i64.wrap ((i : Int) + 1) = ((i : Int) + 1) := wrap_i64 (by omega) (by omega)
   have d1 := s_Has (t := a.name) a1
   have d2 := s_Has (t := a.name) a2
   have d3 := s_Has (t := a.name) a3
   have hstep : AttrFits c a → ∀ t ∈ e.attrs.take (i + 1), AttrFits c t := fun h t ht => by
    rw [take_get hs] at ht
    rcases List.mem_append.1 ht with h' | h'
    ·exact hpre2 t h'
    ·obtain rfl := List.mem_singleton.1 h'
     exact h
   have hbad : ¬ AttrFits c a → ¬ FitsOk l e := by
    rintro h ⟨c', hc', _, hl', _⟩
    obtain rfl := hfit c' hc'
    exact h (hl' a (List.mem_of_getElem? hs))
   have hvl : (1 : Int) < (a.vals.length : Int) ↔ 1 < a.vals.length := by omega
   by_cases n1 : a.name = [99, 108, 97, 115, 115]
   ·by_cases n4 : 1 < a.vals.length
    ·by_cases n5 : a.name ∈ c.single
     ·rw [dec_pos n5] at d3
      rw [n1] at d1 d2 d3
      simp [r3, r5, r8, ha.len, hi, f1, m1, m2, m3, d1, d2, d3, aw.len, aw.one, hod, hoa, a1.one, a2.one, a3.one, hw, regionL_some, regionL_none, List.lookup, n1, n4, hvl]
      exact hbad fun h => h.2 ⟨n4, n5⟩
     ·rw [dec_neg n5] at d3
      rw [n1] at d1 d2 d3
      simp [r3, r5, r8, ha.len, hi, f1, m1, m2, m3, d1, d2, d3, aw.len, aw.one, hod, hoa, a1.one, a2.one, a3.one, hw, regionL_some, regionL_none, List.lookup, n1, n4, hvl]
      exact ⟨k, by omega, i + 1, by omega, hstep ⟨.inl n1, fun h => n5 h.2⟩, _, ⟨rfl, by omega⟩, by simp [r3], by simp [r5], by simp⟩
    ·rw [n1] at d1 d2 d3
     simp [r3, r5, r8, ha.len, hi, f1, m1, m2, m3, d1, d2, d3, aw.len, aw.one, hod, hoa, a1.one, a2.one, a3.one, hw, regionL_some, regionL_none, List.lookup, n1, n4, hvl]
     exact ⟨k, by omega, i + 1, by omega, hstep ⟨.inl n1, fun h => n4 h.1⟩, _, ⟨rfl, by omega⟩, by simp [r3], by simp [r5], by simp⟩
   by_cases n2 : a.name ∈ c.must
   ·rw [dec_pos n2] at d1
    by_cases n4 : 1 < a.vals.length
    ·by_cases n5 : a.name ∈ c.single
     ·rw [dec_pos n5] at d3
      simp [r3, r5, r8, ha.len, hi, f1, m1, m2, m3, d1, d2, d3, aw.len, aw.one, hod, hoa, a1.one, a2.one, a3.one, hw, regionL_some, regionL_none, List.lookup, n1, n4, hvl]
      exact hbad fun h => h.2 ⟨n4, n5⟩
     ·rw [dec_neg n5] at d3
      simp [r3, r5, r8, ha.len, hi, f1, m1, m2, m3, d1, d2, d3, aw.len, aw.one, hod, hoa, a1.one, a2.one, a3.one, hw, regionL_some, regionL_none, List.lookup, n1, n4, hvl]
      exact ⟨k, by omega, i + 1, by omega, hstep ⟨.inr (.inl n2), fun h => n5 h.2⟩, _, ⟨rfl, by omega⟩, by simp [r3], by simp [r5], by simp⟩
    ·simp [r3, r5, r8, ha.len, hi, f1, m1, m2, m3, d1, d2, d3, aw.len, aw.one, hod, hoa, a1.one, a2.one, a3.one, hw, regionL_some, regionL_none, List.lookup, n1, n4, hvl]
     exact ⟨k, by omega, i + 1, by omega, hstep ⟨.inr (.inl n2), fun h => n4 h.1⟩, _, ⟨rfl, by omega⟩, by simp [r3], by simp [r5], by simp⟩
   rw [dec_neg n2] at d1
   by_cases n3 : a.name ∈ c.may
   ·rw [dec_pos n3] at d2
    by_cases n4 : 1 < a.vals.length
    ·by_cases n5 : a.name ∈ c.single
     ·rw [dec_pos n5] at d3
      simp [r3, r5, r8, ha.len, hi, f1, m1, m2, m3, d1, d2, d3, aw.len, aw.one, hod, hoa, a1.one, a2.one, a3.one, hw, regionL_some, regionL_none, List.lookup, n1, n4, hvl]
      exact hbad fun h => h.2 ⟨n4, n5⟩
     ·rw [dec_neg n5] at d3
      simp [r3, r5, r8, ha.len, hi, f1, m1, m2, m3, d1, d2, d3, aw.len, aw.one, hod, hoa, a1.one, a2.one, a3.one, hw, regionL_some, regionL_none, List.lookup, n1, n4, hvl]
      exact ⟨k, by omega, i + 1, by omega, hstep ⟨.inr (.inr n3), fun h => n5 h.2⟩, _, ⟨rfl, by omega⟩, by simp [r3], by simp [r5], by simp⟩
    ·simp [r3, r5, r8, ha.len, hi, f1, m1, m2, m3, d1, d2, d3, aw.len, aw.one, hod, hoa, a1.one, a2.one, a3.one, hw, regionL_some, regionL_none, List.lookup, n1, n4, hvl]
     exact ⟨k, by omega, i + 1, by omega, hstep ⟨.inr (.inr n3), fun h => n4 h.1⟩, _, ⟨rfl, by omega⟩, by simp [r3], by simp [r5], by simp⟩
   ·rw [dec_neg n3] at d2
    simp [r3, r5, r8, ha.len, hi, f1, m1, m2, m3, d1, d2, d3, aw.len, aw.one, hod, hoa, a1.one, a2.one, a3.one, hw, regionL_some, regionL_none, List.lookup, n1, hvl]
    exact hbad fun h => by
     rcases h.1 with h | h | h
     ·exact n1 h
     ·exact n2 h
     ·exact n3 h
theorem s_Check {H : List Ob} {vl vd va : V} {l : List PClass} {e : PEntry} (hl : AClasses H vl l) (hd : ARdns H vd e.dn) (ha : AAttrs H va e.attrs) (hdn : 0 < e.dn.length) :
  ∃ r : Int, callW C 160 [vl, .agg [vd, va]] H = some (.int .i64 r, H) ∧ (r = 0 ↔ FitsOk l e) := by
 obtain ⟨r, h1, h2, _⟩ := s_CheckC hl hd ha hdn
 exact ⟨r, h1, h2⟩
noncomputable abbrev keyE (e : PEntry) : Str := keyD e.dn
theorem s_TAt {H : List Ob} {vs ve : V} {es : List PEntry} {t : Str} (h : AEntries H ve es) (hok : ∀ x ∈ es, DnOk x.dn) (ho : isOne vs = true ∧ cellsOf vs = some [vs]) :
  ∃ r : Int, callW C 162 [.agg [vs, ve], .str t] H = some (.int .i64 r, H) ∧ FirstAt keyE es t r := by
 suffices hs : Ret C 162 [.agg [vs, ve], .str t] H fun q H' => (∃ r : Int, q = .int .i64 r ∧ FirstAt keyE es t r) ∧ H' = H by
  obtain ⟨q, H', hc, ⟨r, rfl, hr⟩, rfl⟩ := hs
  exact ⟨r, hc, hr⟩
 rw [op162]
 have hb : es.length ≤ 9223372036854775807 := h.bound
 have hone := h.one
 simp [code162, Tryz.f162, ho, hone]
 refine WP_loop (fun k σ => ∃ (i : Nat) (r : Nat → R), i + k = es.length ∧ σ = ⟨r, 1, H⟩ ∧ r 1 = .val (.str t) ∧ r 2 = .box 0 [vs, ve] ∧ r 5 = .val (.int .i64 i) ∧ ∀ j x, j < i → es[j]? = some x → keyE x ≠ t) ?_ es.length _ ⟨0, _, by simp, rfl, by simp, by simp, by simp, by simp⟩
 rintro k σ ⟨i, r, hik, rfl, r1, r2, r5, hall⟩
 cases k with
 | zero =>
  have hi : i = es.length := by omega
  subst hi
  have hx := at_all (P := fun j (x : PEntry) => keyE x ≠ t) hall
  simp [r1, r2, r5, h.len, hone]
  exact .inr ⟨hx, rfl⟩
 | succ k =>
  have hi : i < es.length := by omega
  obtain ⟨x, hx⟩ : ∃ c, es[i]? = some c := ⟨es[i], by simp [hi]⟩
  have hw : IntKind.i64.wrap ((i : Int) + 1) = ((i : Int) + 1) := wrap_i64 (by omega) (by omega)
  obtain ⟨id, o, w1, w2, e1, l0, _, _, a1, _⟩ := entries_idx h hx
  have c1 := s_Key a1 (hok x (List.mem_of_getElem? hx))
  by_cases g1 : keyD x.dn = t
  ·simp [r1, r2, r5, hi, h.len, e1, l0, c1, g1, hone]
   exact .inl ⟨i, x, hx, g1, hall, rfl⟩
  ·simp [r1, r2, r5, hi, h.len, e1, l0, c1, g1, hone, hw]
   exact ⟨k, by omega, i + 1, by omega, by omega, at_step (P := fun j (x : PEntry) => keyE x ≠ t) hall hx g1⟩
theorem s_TreeRight {H : List Ob} {vs ve : V} {t : PTree} (hs : AClasses H vs t.schema) (h : AEntries H ve t.entries) : callW C 74 [.agg [vs, ve]] H = some (.bool (dec (TreeOk t)), H) := by
 apply Ret.dec
 rw [op74]
 have hos := hs.one
 have hoe := h.one
 have c1 := s_Schema hs
 by_cases g1 : SchemaOk t.schema
 rotate_left
 ·rw [dec_neg g1] at c1
  simp [code74, Tryz.f74, hos, hoe, c1]
  exact fun h => g1 h.1
 rw [dec_pos g1] at c1
 by_cases g2 : 20 < t.entries.length
 ·have g2' : (20 : Int) < t.entries.length := by omega
  simp [code74, Tryz.f74, hos, hoe, c1, h.len, g2']
  exact fun h => by have := h.2.1.1; omega
 have g2' : ¬ (20 : Int) < t.entries.length := by omega
 simp [code74, Tryz.f74, hos, hoe, c1, h.len, g2']
 have hb : t.entries.length ≤ 20 := by omega
 refine WP_loop (fun k σ => ∃ (i : Nat) (r : Nat → R), i + k = t.entries.length ∧ σ = ⟨r, 1 + i, H⟩ ∧ r 1 = .box 0 [vs, ve] ∧ r 3 = .val (.int .i64 i) ∧ ∀ j x, j < i → t.entries[j]? = some x → EntryOk x ∧ FitsOk t.schema x ∧ PrevLt (fun e => keyD e.dn) t.entries j x) ?_ t.entries.length _ ⟨0, _, by omega, rfl, by simp, by simp, by simp⟩
 rintro k σ ⟨i, r, hik, rfl, r1, r3, hall⟩
 cases k with
 | zero =>
  have hi : i = t.entries.length := by omega
  subst hi
  have hE := at_all (P := fun j (x : PEntry) => EntryOk x ∧ FitsOk t.schema x ∧ PrevLt (fun e => keyD e.dn) t.entries j x) hall
  simp [r1, r3, h.len, hos, hoe]
  have hdn : ∀ x ∈ t.entries, DnOk x.dn := fun x hx => by
   obtain ⟨j, hj, rfl⟩ := List.getElem_of_mem hx
   exact (hE j _ (List.getElem?_eq_getElem hj)).1.2.1
  refine WP_loop (fun k σ => ∃ (i : Nat) (r : Nat → R), i + k = t.entries.length ∧ σ = ⟨r, 1 + t.entries.length, H⟩ ∧ r 1 = .box 0 [vs, ve] ∧ r 5 = .val (.int .i64 i) ∧ ∀ j x, j < i → t.entries[j]? = some x → ParentOk t.entries x.dn) ?_ t.entries.length _ ⟨0, _, by omega, rfl, by simp [r1], by simp, by simp⟩
  clear r1 r3 r
  rintro k σ ⟨i, r, hik, rfl, r1, r5, hall2⟩
  cases k with
  | zero =>
   have hi : i = t.entries.length := by omega
   subst hi
   have hP := at_all (P := fun j (x : PEntry) => ParentOk t.entries x.dn) hall2
   have hT : TreeOk t := ⟨g1, ⟨hb, hE⟩, fun x hx => by
    obtain ⟨j, hj, rfl⟩ := List.getElem_of_mem hx
    exact hP j _ (List.getElem?_eq_getElem hj)⟩
   simp [r1, r5, h.len, hos, hoe, hT]
  | succ k =>
   have hi : i < t.entries.length := by omega
   obtain ⟨x, hx⟩ : ∃ c, t.entries[i]? = some c := ⟨t.entries[i], by simp [hi]⟩
   have hw : IntKind.i64.wrap ((i : Int) + 1) = ((i : Int) + 1) := wrap_i64 (by omega) (by omega)
   obtain ⟨id, o, w1, w2, e1, l0, l1, lm, a1, a2, _⟩ := entries_idx h hx
   have ho1 := a1.one
   have hstep := fun h => at_step (P := fun j (x : PEntry) => ParentOk t.entries x.dn) hall2 hx h
   have hxd := hdn x (List.mem_of_getElem? hx)
   by_cases q1 : 1 < x.dn.length
   rotate_left
   ·have q1' : ¬ (1 : Int) < x.dn.length := by omega
    have := hstep (.inl (by omega))
    simp [r1, r5, hi, h.len, e1, l0, a1.len, q1', hos, hoe, ho1, hw, regionL_none, regionL_some, List.lookup]
    exact ⟨k, by omega, i + 1, by omega, by omega, this⟩
   have q1' : (1 : Int) < x.dn.length := by omega
   obtain ⟨idt, off, own, cells, hv, hcell, at_⟩ := rdns_tail a1 (by omega)
   have hst : strideIs H idt 2 = true := by simp [strideIs, hcell]
   have q1'' : 1 ≤ x.dn.length := by omega
   have c2 := s_Key at_ hxd.tail
   obtain ⟨q, c3, hq⟩ := s_TAt (vs := vs) (t := keyD x.dn.tail) h hdn hos
   rcases hq.pos with ⟨k', y, h1, rfl, h2⟩ | ⟨rfl, h2⟩
   ·have hk : ¬ ((k' : Int) < 0) := by omega
    have hy : keyD y.dn = keyD x.dn.tail := by
     have := List.find?_some h2
     simpa using this
    have := hstep (.inr ⟨y, List.mem_of_getElem? h1, hy⟩)
    rw [hv] at l0 a1 ho1
    simp [r1, r5, hi, h.len, e1, l0, a1.len, q1', hos, hoe, hw, hst, q1'', c2, c3, hk, regionL_none, regionL_some, List.lookup]
    exact ⟨k, by omega, i + 1, by omega, by omega, this⟩
   ·have hn : ¬ TreeOk t := fun hd => by
     rcases hd.2.2 x (List.mem_of_getElem? hx) with h | ⟨y, hy, he⟩
     ·omega
     ·have := List.find?_eq_none.1 h2 y hy
      exact this (by simpa using he)
    rw [hv] at l0 a1 ho1
    simp [r1, r5, hi, h.len, e1, l0, a1.len, q1', hos, hoe, hw, hst, q1'', c2, c3, hn, regionL_none, regionL_some, List.lookup]
 | succ k =>
  have hi : i < t.entries.length := by omega
  obtain ⟨x, hx⟩ : ∃ c, t.entries[i]? = some c := ⟨t.entries[i], by simp [hi]⟩
  have hw : IntKind.i64.wrap ((i : Int) + 1) = ((i : Int) + 1) := wrap_i64 (by omega) (by omega)
  obtain ⟨id, o, w1, w2, e1, l0, l1, lm, a1, a2, _⟩ := entries_idx h hx
  have hid := lo_of l0
  have c2 := s_Entry a1 a2
  have hstep := fun h => at_step (P := fun j (x : PEntry) => EntryOk x ∧ FitsOk t.schema x ∧ PrevLt (fun e => keyD e.dn) t.entries j x) hall hx h
  have ho1 := a1.one
  have ho2 := a2.one
  by_cases q1 : EntryOk x
  rotate_left
  ·rw [dec_neg q1] at c2
   have hn : ¬ TreeOk t := fun hd => q1 (hd.2.1.2 i x hx).1
   simp [r1, r3, hi, h.len, e1, l0, l1, lm, hid, c2, hn, hos, hoe, ho1, ho2, regionL_none, regionL_some, List.lookup]
  rw [dec_pos q1] at c2
  obtain ⟨f, c3, hf⟩ := s_Check hs a1 a2 q1.1
  by_cases q2 : FitsOk t.schema x
  rotate_left
  ·have hf0 : ¬ f = 0 := fun e => q2 (hf.1 e)
   have hn : ¬ TreeOk t := fun hd => q2 (hd.2.1.2 i x hx).2.1
   simp [r1, r3, hi, h.len, e1, l0, l1, lm, hid, c2, c3, hf0, hn, hos, hoe, ho1, ho2, regionL_none, regionL_some, List.lookup]
  have hf0 : f = 0 := hf.2 q2
  subst hf0
  by_cases hi0 : i = 0
  ·have := hstep ⟨q1, q2, fun y hy => by omega⟩
   subst hi0
   simp at e1
   simp [r1, r3, hi, h.len, e1, l0, l1, lm, hid, c2, c3, hos, hoe, ho1, ho2, regionL_none, regionL_some, List.lookup]
   exact ⟨k, by omega, 1, by omega, _, ⟨rfl, by omega⟩, by simp [r1], by simp, this⟩
  ·have hip : 0 < i := by omega
   obtain ⟨y, hy⟩ : ∃ c, t.entries[i - 1]? = some c := ⟨t.entries[i - 1]'(by omega), by simp⟩
   obtain ⟨id', o', w1', w2', e1', l0', _, _, a1', _⟩ := entries_idx h hy
   have hid' := lo_of l0'
   have hyok := (hall (i - 1) y (by omega) hy).1
   have c4 := s_Key a1 q1.2.1
   have c5 := s_Key a1' hyok.2.1
   have hw1 : IntKind.i64.wrap ((i : Int) - 1) = ((i - 1 : Nat) : Int) := by rw [wrap_i64 (by omega) (by omega)]; omega
   by_cases q3 : LtS (keyD y.dn) (keyD x.dn)
   ·have := hstep ⟨q1, q2, fun z _ hz => by rw [hy] at hz; cases hz; exact q3⟩
    simp [r1, r3, hi, h.len, e1, l0, l1, lm, hid, hid', c2, c3, c4, c5, e1', l0', hw, hw1, hip, LtS_dec q3, hos, hoe, ho1, ho2, regionL_none, regionL_some, List.lookup]
    exact ⟨k, by omega, i + 1, by omega, _, ⟨rfl, by omega⟩, by simp [r1], by simp, this⟩
   ·have hn : ¬ TreeOk t := fun hd => q3 ((hd.2.1.2 i x hx).2.2 y hip hy)
    simp [r1, r3, hi, h.len, e1, l0, l1, lm, hid, hid', c2, c3, c4, c5, e1', l0', hw, hw1, hip, LtS_no q3, hos, hoe, ho1, ho2, regionL_none, regionL_some, List.lookup, hn]
end Go.Proofs.Try1
end
