/- Part 10 of the proof of a law: the interpreter, its soundness, and what functions of the program compute over it. Conditions: none but those that each theorem names. -/
import Derived.Test.YtdkbgdjfmbppfaaGreatDoorE09
import Derived.Test.YtdkbgdjfmbppfaaGreatDoorE08
import Derived.Test.YtdkbgdjfmbppfaaGreatDoorE07

set_option linter.all false
set_option maxRecDepth 20000
set_option maxHeartbeats 40000000
section
namespace Go.Proofs.Try1
open Go Go.Lite
theorem Own.strs {H G : List Ob} {w : V} {l : List Str} (h : Own H G w l) (hl : l.length ≤ maxLen) (hs : ∀ s ∈ l, s.length ≤ maxLen) : AStrs G w l := by
 rcases h with ⟨rfl, rfl⟩ | h
 ·exact aC.2 ⟨_, _, rfl, rfl, by simp, .inl ⟨rfl, rfl⟩⟩
 ·exact (h.strs hl hs).1
theorem oz {H X Y : List Ob} : Keep H.length (H ++ X) (H ++ Y) := fun id hid => by rw [List.getElem?_append_left hid, List.getElem?_append_left hid]
theorem qC {H Y : List Ob} : Keep H.length H (H ++ Y) := fun id hid => by rw [List.getElem?_append_left hid]
theorem Own.one {H G : List Ob} {w : V} {l : List Str} (h : Own H G w l) : aJ w = true ∧ cellsOf w = some [w] := by
 rcases h with ⟨rfl, rfl⟩ | h
 ·exact ⟨rfl, rfl⟩
 ·exact h.one
theorem bf : ∀ (a b : Str), bT a b ↔ a < b
 | a, [] => by simp [bT, Op.bytesLess]
 | [], b :: bs => by simp [bT, Op.bytesLess]
 | a :: as', b :: bs => by
  have := bf as' bs
  unfold bT at this ⊢
  simp [Op.bytesLess, List.cons_lt_cons_iff, this]
theorem vI : ∀ {l : List Str}, dI l → l.Pairwise fun a b => a < b
 | [], _ => .nil
 | [x], _ => by simp
 | x :: y :: l, h => by
  have h' : dI (y :: l) := fun j z hz => by
   obtain ⟨h1, h2⟩ := h (j + 1) z (by simpa using hz)
   refine ⟨h1, fun v hj hv => h2 v (by omega) ?_⟩
   rw [show j + 1 - 1 = (j - 1) + 1 by omega]
   simpa using hv
  have ih := vI h'
  have hxy : x < y := (bf x y).1 ((h 1 y rfl).2 x (by omega) rfl)
  rw [List.pairwise_cons]
  refine ⟨fun z hz => ?_, ih⟩
  rcases List.mem_cons.1 hz with rfl | hz
  ·exact hxy
  ·exact List.lt_trans hxy ((List.pairwise_cons.1 ih).1 z hz)
theorem tK {l : List Str} (h : dI l) : l.Nodup := (vI h).imp fun h e => by subst e; exact List.lt_irrefl _ h
theorem Kr {H : List Ob} {w1 w2 w3 : V} {c : PClass} (h1 : AStrs H w1 c.must) (h2 : AStrs H w2 c.may) (h3 : AStrs H w3 c.single) : callW C 120 [.agg [.str c.name, w1, w2, w3]] H = some (.bool (dec (ClassOk c)), H) := by
 apply Ret.dec
 rw [Np]
 simp [F9, Tryz.f120, h1.one, h2.one, h3.one, ay, ax, ah, St.new]
 refine aA (fun k σ => ∃ (i : Nat) (r : Nat → R), i + k = 3 ∧ σ = ⟨r, 1, H ++ [.mk true 1 [w1, w2, w3]]⟩ ∧ r 1 = .box 0 [.str c.name, w1, w2, w3] ∧ r 12 = .val (.slc (some (H.length, 0)) 3) ∧ r 13 = .val (.int .i64 3) ∧ r 14 = .val (.int .i64 i) ∧ ∀ j l, j < i → [c.must, c.may, c.single][j]? = some l → l.length ≤ 10 ∧ dI l) ?_ 3 _ ⟨0, _, by simp, rfl, by simp, by simp, by simp, by simp, by simp⟩
 rintro k σ ⟨i, r, hik, rfl, r1, r12, r13, r14, hall⟩
 cases k with
 | succ k =>
  have hi : i < 3 := by omega
  have hiI : (i : Int) < 3 := by omega
  obtain ⟨l, w, hli, hwi, hs, hcl⟩ : ∃ l w, [c.must, c.may, c.single][i]? = some l ∧ [w1, w2, w3][i]? = some w ∧ AStrs H w l ∧ (ClassOk c → l.length ≤ 10 ∧ dI l) := by
   match i, hi with
   | 0, _ => exact ⟨_, _, rfl, rfl, h1, fun h => ⟨h.l1, h.n1⟩⟩
   | 1, _ => exact ⟨_, _, rfl, rfl, h2, fun h => ⟨h.l2, h.n2⟩⟩
   | 2, _ => exact ⟨_, _, rfl, rfl, h3, fun h => ⟨h.l3, h.n3⟩⟩
  have ld := bM (H := H ++ [.mk true 1 [w1, w2, w3]]) (o := i) get_last hwi
  have hw : IntKind.i64.wrap ((i : Int) + 1) = ((i : Int) + 1) := wrap_i64 (by omega) (by omega)
  have c1 := J6 (hs.ext (T := [.mk true 1 [w1, w2, w3]]))
  by_cases g1 : (l.length : Int) > 10
  ·have hn : ¬ ClassOk c := fun h => by have := (hcl h).1; omega
   simp [r1, r12, r13, r14, hiI, hi, ld, (hs.ext (T := [.mk true 1 [w1, w2, w3]])).len, g1, hn]
  by_cases g2 : dI l
  ·rw [aj g2] at c1
   simp [r1, r12, r13, r14, hiI, hi, ld, (hs.ext (T := [.mk true 1 [w1, w2, w3]])).len, g1, c1, hw]
   exact ⟨k, by omega, i + 1, by omega, by omega, dm (P := fun j (l : List Str) => l.length ≤ 10 ∧ dI l) hall hli ⟨by omega, g2⟩⟩
  ·rw [ai g2] at c1
   have hn : ¬ ClassOk c := fun h => g2 (hcl h).2
   simp [r1, r12, r13, r14, hiI, hi, ld, (hs.ext (T := [.mk true 1 [w1, w2, w3]])).len, g1, c1, hn]
 | zero =>
 have hi : i = 3 := by omega
 subst hi
 obtain ⟨m1, m2⟩ := hall 0 c.must (by omega) rfl
 obtain ⟨m3, m4⟩ := hall 1 c.may (by omega) rfl
 obtain ⟨m5, m6⟩ := hall 2 c.single (by omega) rfl
 have hfl : fl [c.must, c.may] 2 = c.must ++ c.may := by simp [fl]
 obtain ⟨T, w, c1, hown⟩ := xh (H := H ++ [.mk true 1 [w1, w2, w3]] ++ [.mk true 1 [w1, w2]]) (id := H.length + 1) (ls := [c.must, c.may]) (ws := [w1, w2]) (own := true) (by rw [List.getElem?_append_right (by simp)]; simp) rfl (fun i v l g1 g2 => by
  match i with
  | 0 => cases g1; cases g2; exact h1.ext.ext
  | 1 => cases g1; cases g2; exact h2.ext.ext
  | i + 2 => simp at g1) (by simp only [List.length_cons, List.length_nil, Nat.reduceAdd, hfl, List.length_append]; omega) (by simp)
 simp only [List.length_cons, List.length_nil, Nat.reduceAdd, hfl, List.append_assoc, List.cons_append, List.nil_append] at c1 hown
 have how := hown.one
 have st := store1 (H := H ++ .mk true 1 [w1, w2, w3] :: .mk true 1 [w1, w2] :: (T ++ [.mk true 1 [.slc none 0]])) (id := H.length + (T.length + 1 + 1)) (es := 1) (cells := [.slc none 0]) (v := w) (o := 0) (by rw [List.getElem?_append_right (by omega)]; simp) (by simp) how.2 how.1
 have hmem : (H ++ Ob.mk true 1 [w1, w2, w3] :: Ob.mk true 1 [w1, w2] :: (T ++ [Ob.mk true 1 [V.slc none 0]])).length = H.length + (T.length + 1 + 1) + 1 := by simp; omega
 have hold : ∀ (q : Nat) o, (H ++ Ob.mk true 1 [w1, w2, w3] :: Ob.mk true 1 [w1, w2] :: T)[q]? = some o → ((H ++ Ob.mk true 1 [w1, w2, w3] :: Ob.mk true 1 [w1, w2] :: (T ++ [Ob.mk true 1 [V.slc none 0]])).set (H.length + (T.length + 1 + 1)) (Ob.mk true 1 ([V.slc none 0].set 0 w)))[q]? = some o := fun q o hq => by
  have hql := (List.getElem?_eq_some_iff.1 hq).1
  simp at hql
  rw [List.getElem?_set_ne (by omega), show H ++ Ob.mk true 1 [w1, w2, w3] :: Ob.mk true 1 [w1, w2] :: (T ++ [Ob.mk true 1 [V.slc none 0]]) = (H ++ Ob.mk true 1 [w1, w2, w3] :: Ob.mk true 1 [w1, w2] :: T) ++ [Ob.mk true 1 [V.slc none 0]] by simp]
  exact aW _ _ hq
 have hobj : ((H ++ Ob.mk true 1 [w1, w2, w3] :: Ob.mk true 1 [w1, w2] :: (T ++ [Ob.mk true 1 [V.slc none 0]])).set (H.length + (T.length + 1 + 1)) (Ob.mk true 1 ([V.slc none 0].set 0 w)))[H.length + (T.length + 1 + 1)]? = some (Ob.mk true 1 [w]) := by
  rw [List.getElem?_set_self (by omega)]
  rfl
 obtain ⟨H3, hH3⟩ : ∃ H3, H3 = (H ++ Ob.mk true 1 [w1, w2, w3] :: Ob.mk true 1 [w1, w2] :: (T ++ [Ob.mk true 1 [V.slc none 0]])).set (H.length + (T.length + 1 + 1)) (Ob.mk true 1 ([V.slc none 0].set 0 w)) := ⟨_, rfl⟩
 rw [← hH3] at st hobj hold
 obtain ⟨T3, hT3⟩ : ∃ T3, H3 = H ++ T3 := by
  refine ⟨(Ob.mk true 1 [w1, w2, w3] :: Ob.mk true 1 [w1, w2] :: (T ++ [Ob.mk true 1 [V.slc none 0]])).set (T.length + 1 + 1) (Ob.mk true 1 ([V.slc none 0].set 0 w)), ?_⟩
  rw [hH3, List.set_append_right _ _ (by omega), Nat.add_sub_cancel_left]
 simp [r1, r12, r13, r14, h1.one, h2.one, h3.one, ay, ax, ah, St.new, c1, aV, st, -af]
 generalize H.length + (T.length + 1 + 1) = id5 at hobj
 have hall3 : AStrs H3 w (c.must ++ c.may) := (hown.strs (by rw [List.length_append]; unfold maxLen; omega) (fun s hs => by
  rcases List.mem_append.1 hs with hs | hs
  ·exact kR h1 s hs
  ·exact kR h2 s hs)).up hold
 have hid5 : id5 < H3.length := (List.getElem?_eq_some_iff.1 hobj).1
 have h33 : AStrs H3 w3 c.single := by rw [hT3]; exact h3.ext
 have hgc1 : ∀ b, eU H H3 (.bool b) = H := fun b => by rw [hT3]; exact lW
 have hgc2 : ∀ b X, eU H (H3 ++ X) (.bool b) = H := fun b X => by rw [hT3, List.append_assoc]; exact lW
 clear hH3 hold hT3 st c1 hown hmem
 have ld := bM (o := 0) hobj rfl
 have c2 := Ag (t := c.name) (H := H3)
 have hok : ClassOk c ↔ aG c.name ∧ (c.must ++ c.may).Nodup ∧ dN ∉ c.must ++ c.may ∧ ∀ t ∈ c.single, t ∈ c.must ++ c.may := by
  constructor
  ·intro h
   refine ⟨h.name, ?_, ?_, ?_⟩
   ·rw [List.nodup_append]
    exact ⟨tK h.n1, tK h.n2, fun a ha b hb hab => h.apart a ha (hab ▸ hb)⟩
   ·rw [List.mem_append]; exact fun h' => h'.elim h.noMust h.noMay
   ·intro t ht; rw [List.mem_append]; exact (h.known t ht).symm
  ·rintro ⟨k1, k2, k3, k4⟩
   rw [List.nodup_append] at k2
   rw [List.mem_append] at k3
   exact ⟨k1, m1, m3, m5, m2, m4, m6, fun t ht ht' => k2.2.2 t ht t ht' rfl, fun t ht => (List.mem_append.1 (k4 t ht)).symm, fun h => k3 (.inl h), fun h => k3 (.inr h)⟩
 by_cases g1 : aG c.name
 rotate_left
 ·rw [ai g1] at c2
  have hn : ¬ ClassOk c := fun h => g1 h.name
  simp [r1, hid5, c2, hn, hgc1, hgc2, List.lookup]
 rw [aj g1] at c2
 obtain ⟨T4, p, n, c3, hn⟩ := KX (H := H3 ++ [Ob.mk true 1 [w]]) (id := H3.length) get_last hall3.ext (by rw [List.length_append]; omega)
 simp only [List.append_assoc, List.cons_append, List.nil_append] at c3
 have hln := fun {e s b : Nat} {z : List V} => hall3.len (e := e) (s := s) (b := b) (z := z)
 by_cases g2 : (n : Int) = (c.must ++ c.may).length
 rotate_left
 ·have hno : ¬ ClassOk c := fun h => g2 (by have := hn.2 (hok.1 h).2.1; omega)
  simp only [List.length_append, Int.natCast_add] at g2 hln
  simp [r1, hid5, c2, c3, ld, hln, g2, ay, ax, ah, St.new, oz, qC, hall3.one, hno, hgc1, hgc2, List.lookup]
 have c4 : callW C 199 [w, .str [99, 108, 97, 115, 115]] (H3 ++ Ob.mk true 1 [w] :: T4) = some (.bool (dec (dN ∈ c.must ++ c.may)), H3 ++ Ob.mk true 1 [w] :: T4) := kG hall3.ext
 have ld2 := bM (H := H3 ++ Ob.mk true 1 [w] :: T4) (o := 0) (v := w) (aW _ _ hobj) rfl
 have g2' : (c.must ++ c.may).Nodup := hn.1 (by omega)
 by_cases g3 : dN ∈ c.must ++ c.may
 ·rw [aj g3] at c4
  have hno : ¬ ClassOk c := fun h => (hok.1 h).2.2.1 g3
  simp only [List.length_append, Int.natCast_add] at g2 hln
  simp [r1, hid5, c2, c3, c4, ld, ld2, hln, g2, ay, ax, ah, St.new, oz, qC, hall3.one, hno, hgc1, hgc2, List.lookup]
 rw [ai g3] at c4
 have c5 := nZ (H := H3 ++ Ob.mk true 1 [w] :: T4) (g := 211) (a := []) (b := [.ptr (some (id5, 0))]) h33.ext (fun x => !dec (x ∈ c.must ++ c.may)) (fun x _ => Ju (aW _ _ hobj) hall3.ext)
 by_cases g4 : ∃ x ∈ c.single, (!dec (x ∈ c.must ++ c.may)) = true
 ·rw [aj g4] at c5
  have hno : ¬ ClassOk c := fun h => by
   obtain ⟨x, hx, hd⟩ := g4
   rw [aj ((hok.1 h).2.2.2 x hx)] at hd
   cases hd
  simp only [List.length_append, Int.natCast_add] at g2 hln
  simp [r1, hid5, c2, c3, c4, c5, ld, ld2, hln, g2, ay, ax, ah, St.new, oz, qC, hall3.one, hno, hgc1, hgc2, List.lookup, h3.one]
 ·rw [ai g4] at c5
  have hyes : ClassOk c := hok.2 ⟨g1, g2', g3, fun t ht => Classical.byContradiction fun h => g4 ⟨t, ht, by rw [ai h]; rfl⟩⟩
  simp only [List.length_append, Int.natCast_add] at g2 hln
  simp [r1, hid5, c2, c3, c4, c5, ld, ld2, hln, g2, ay, ax, ah, St.new, oz, qC, hall3.one, hyes, hgc1, hgc2, List.lookup, h3.one]
theorem nG {H : List Ob} {v : V} {l : List PClass} (h : aP H v l) : callW C 33 [v] H = some (.bool (dec (aZ l)), H) := by
 apply Ret.dec
 rw [TK]
 have hb : l.length ≤ 9223372036854775807 := h.bound
 by_cases g0 : (l.length : Int) > 6
 ·have hn : ¬ aZ l := fun h => by have := h.2; omega
  simp [Ea, Tryz.f33, h.len, g0, hn]
 simp [Ea, Tryz.f33, h.len, g0]
 refine aA (fun k σ => ∃ (i n : Nat) (r : Nat → R), i + k = l.length ∧ σ = ⟨r, n, H⟩ ∧ r 0 = .val v ∧ r 8 = .val v ∧ r 9 = .val (.int .i64 l.length) ∧ r 10 = .val (.int .i64 i) ∧ ∀ j x, j < i → l[j]? = some x → ClassOk x ∧ bK PClass.name l j x) ?_ l.length _ ⟨0, 0, _, by simp, rfl, by simp, by simp, by simp, by simp, by simp⟩
 rintro k σ ⟨i, n, r, hik, rfl, r0, r8, r9, r10, hall⟩
 cases k with
 | zero =>
  have hi : i = l.length := by omega
  subst hi
  have hx := fH (P := fun j (x : PClass) => ClassOk x ∧ bK PClass.name l j x) hall
  have hv : aZ l := ⟨hx, by omega⟩
  simp [r0, r8, r9, r10, hv]
 | succ k =>
  have hi : i < l.length := by omega
  obtain ⟨x, hx⟩ : ∃ c, l[i]? = some c := ⟨l[i], by simp [hi]⟩
  have hw : IntKind.i64.wrap ((i : Int) + 1) = ((i : Int) + 1) := wrap_i64 (by omega) (by omega)
  obtain ⟨id, o, w1, w2, w3, e1, l0, l4, q1, q2, q3, _⟩ := iH h hx
  have c1 := Kr q1 q2 q3
  have hstep := fun h => dm (P := fun j (x : PClass) => ClassOk x ∧ bK PClass.name l j x) hall hx h
  by_cases g1 : ClassOk x
  rotate_left
  ·rw [ai g1] at c1
   have hn : ¬ aZ l := fun hd => g1 (hd.1 i x hx).1
   simp [r0, r8, r9, r10, hi, e1, l4, c1, hn, ae, q1.one, q2.one, q3.one]
  rw [aj g1] at c1
  by_cases hi0 : i = 0
  ·have := hstep ⟨g1, fun y hy => by omega⟩
   subst hi0
   simp at e1
   simp [r0, r8, r9, r10, hi, e1, l4, c1, ae, q1.one, q2.one, q3.one]
   exact ⟨k, by omega, 1, by omega, n + 1, _, ⟨rfl, rfl⟩, by simp [r0], by simp [r8], by simp [r9], by simp, this⟩
  have hip : 0 < i := by omega
  obtain ⟨y, hy⟩ : ∃ c, l[i - 1]? = some c := ⟨l[i - 1]'(by omega), by simp⟩
  obtain ⟨id', o', _, _, _, e1', l0', _⟩ := iH h hy
  have hw1 : IntKind.i64.wrap ((i : Int) - 1) = ((i - 1 : Nat) : Int) := by rw [wrap_i64 (by omega) (by omega)]; omega
  by_cases g2 : bT y.name x.name
  ·have := hstep ⟨g1, fun z _ hz => by rw [hy] at hz; cases hz; exact g2⟩
   simp [r0, r8, r9, r10, hi, e1, l0, l4, c1, e1', l0', hw, hw1, hip, iq g2, ae, q1.one, q2.one, q3.one]
   exact ⟨k, by omega, i + 1, by omega, n + 1, _, ⟨rfl, rfl⟩, by simp [r0], by simp [r8], by simp [r9], by simp, this⟩
  ·have hn : ¬ aZ l := fun hd => g2 ((hd.1 i x hx).2 y hip hy)
   simp [r0, r8, r9, r10, hi, e1, l0, l4, c1, e1', l0', hw, hw1, hip, gU g2, ae, q1.one, q2.one, q3.one, hn]
noncomputable def qV (a b : Str) : Int := if dec (bT a b) = true then -1 else if dec (bT b a) = true then 1 else 0
theorem Fb {a b : Str} : qV a b < 0 ↔ bT a b := by
 unfold qV
 by_cases h : bT a b
 ·rw [aj h]; simp [h]
 ·rw [ai h]
  by_cases h' : bT b a
  ·rw [aj h']; simp [h]
  ·rw [ai h']; simp [h]
theorem Ae {a b : Str} : qV a b = 0 ↔ a = b := by
 unfold qV
 by_cases h : bT a b
 ·rw [aj h]
  have : a ≠ b := fun e => by subst e; exact List.lt_irrefl _ ((bf a a).1 h)
  simp [this]
 ·rw [ai h]
  by_cases h' : bT b a
  ·rw [aj h']
   have : a ≠ b := fun e => by subst e; exact List.lt_irrefl _ ((bf a a).1 h')
   simp [this]
  ·rw [ai h']
   have h1 : b ≤ a := fun hh => h ((bf a b).2 hh)
   have h2 : a ≤ b := fun hh => h' ((bf b a).2 hh)
   simp [List.le_antisymm h2 h1]
theorem NR {a b : Str} {H : List Ob} : callW C 222 [.str a, .str b] H = some (.int .i64 (qV a b), H) := by
 have c0 : ∀ x : Str, callW C 274 [.str x] H = some (.bool false, H) := fun x => by
  apply Ret.eq
  rw [PT]
  simp [ES, Tryz.f274]
 apply Ret.eq
 rw [PU]
 by_cases g1 : bT a b
 ·have : qV a b = -1 := by unfold qV; rw [aj g1]; rfl
  simp [uw, Tryz.f222, c0, iq g1, this]
 ·by_cases g2 : bT b a
  ·have hne : a ≠ b := fun e => by subst e; exact g1 g2
   have : qV a b = 1 := by unfold qV; rw [ai g1, aj g2]; rfl
   simp [uw, Tryz.f222, c0, gU g1, hne, this]
  ·have : qV a b = 0 := by unfold qV; rw [ai g1, ai g2]; rfl
   have he := Ae.1 this
   simp [uw, Tryz.f222, c0, gU g1, he, this]
   subst he
   simp [gU g1, this]
theorem Cc {n t : Str} {w : V} {H : List Ob} (ho : cellsOf w = some [w]) : callW C 261 [.agg [.str n, w], .str t] H = some (.int .i64 (qV n t), H) := by
 apply Ret.eq
 rw [Oe]
 simp [FI, Tryz.f261, NR]
theorem jl {α : Type} {key : α → Str} : ∀ {l : List α}, (∀ (j : Nat) x, l[j]? = some x → bK key l j x) → l.Pairwise fun a b => key a < key b
 | [], _ => .nil
 | [x], _ => by simp
 | x :: y :: l, h => by
  have h' : ∀ (j : Nat) z, (y :: l)[j]? = some z → bK key (y :: l) j z := fun j z hz v hj hv => by
   refine h (j + 1) z (by simpa using hz) v (by omega) ?_
   rw [show j + 1 - 1 = (j - 1) + 1 by omega]
   simpa using hv
  have ih := jl h'
  have hxy : key x < key y := (bf _ _).1 (h 1 y rfl x (by omega) rfl)
  rw [List.pairwise_cons]
  refine ⟨fun z hz => ?_, ih⟩
  rcases List.mem_cons.1 hz with rfl | hz
  ·exact hxy
  ·exact List.lt_trans hxy ((List.pairwise_cons.1 ih).1 z hz)
theorem Jj {H : List Ob} {v : V} {l : List PAttr} {t : Str} (h : bD H v l) (hl : l.length ≤ 1000) (hp : l.Pairwise fun a b => a.name < b.name) :
  ∃ (i : Nat) (ok : Bool), callW C 260 [v, .str t, .fn 261 [] []] H = some (.tup [.int .i64 i, .bool ok], H) ∧
   (ok = true → ∃ a, l[i]? = some a ∧ a.name = t) ∧ (ok = false → ∀ a ∈ l, a.name ≠ t) := by
 suffices hs : Ret C 260 [v, .str t, .fn 261 [] []] H fun q H' =>
   (∃ (i : Nat) (ok : Bool), q = .tup [.int .i64 i, .bool ok] ∧ (ok = true → ∃ a, l[i]? = some a ∧ a.name = t) ∧ (ok = false → ∀ a ∈ l, a.name ≠ t)) ∧ H' = H by
  obtain ⟨q, H', hc, ⟨i, ok, rfl, h1, h2⟩, rfl⟩ := hs
  exact ⟨i, ok, hc, h1, h2⟩
 rw [O5]
 simp [FV, Tryz.f260, h.len]
 refine aA (fun k σ => ∃ (i j : Nat) (r : Nat → R), j - i = k ∧ i ≤ j ∧ j ≤ l.length ∧ σ = ⟨r, 0, H⟩ ∧ r 0 = .val v ∧ r 1 = .val (.str t) ∧ r 2 = .val (.fn 261 [] []) ∧ r 8 = .val (.int .i64 l.length) ∧ r 9 = .val (.int .i64 i) ∧ r 10 = .val (.int .i64 j) ∧
  (∀ q a, q < i → l[q]? = some a → bT a.name t) ∧ (∀ q a, j ≤ q → l[q]? = some a → ¬ bT a.name t)) ?_ l.length _ ⟨0, l.length, _, by omega, by omega, by omega, rfl, by simp, by simp, by simp, by simp, by simp, by simp, fun q a h => by omega, fun q a h1 h2 => by have := (List.getElem?_eq_some_iff.1 h2).1; omega⟩
 rintro k σ ⟨i, j, r, hk, hij, hjl, rfl, r0, r1, r2, r8, r9, r10, hlo, hhi⟩
 cases k with
 | succ k =>
  have hlt : (i : Int) < j := by omega
  have hlt' : i < j := by omega
  have hw1 : IntKind.i64.wrap ((i : Int) + j) = (i : Int) + j := wrap_i64 (by omega) (by omega)
  have hw2 : IntKind.u64.wrap ((i : Int) + j) = (i : Int) + j := by unfold IntKind.wrap; simp [IntKind.bits, IntKind.signed]; omega
  have hq : ((i : Int) + j).fdiv 2 = (((i + j) / 2 : Nat) : Int) := by rw [Int.fdiv_eq_ediv_of_nonneg _ (by omega)]; omega
  obtain ⟨m, hm⟩ : ∃ m, m = (i + j) / 2 := ⟨_, rfl⟩
  rw [← hm] at hq
  have hw3 : IntKind.i64.wrap (m : Int) = m := wrap_i64 (by omega) (by omega)
  have hw4 : IntKind.i64.wrap ((m : Int) + 1) = (m : Int) + 1 := wrap_i64 (by omega) (by omega)
  have hml : m < l.length := by omega
  obtain ⟨a, ha⟩ : ∃ a, l[m]? = some a := ⟨l[m], List.getElem?_eq_getElem hml⟩
  obtain ⟨id, o, w, e1, l0, l1, l2, hvs, _⟩ := fC h ha
  have c1 := Cc (n := a.name) (t := t) (w := w) (H := H) hvs.one.2
  have hord : ∀ q b, l[q]? = some b → (q < m → b.name < a.name) ∧ (m < q → a.name < b.name) := fun q b hb => by
   obtain ⟨hq1, hb⟩ := List.getElem?_eq_some_iff.1 hb
   obtain ⟨_, ha⟩ := List.getElem?_eq_some_iff.1 ha
   have := List.pairwise_iff_getElem.1 hp
   exact ⟨fun hh => by have := this q m hq1 hml hh; rwa [hb, ha] at this, fun hh => by have := this m q hml hq1 hh; rwa [hb, ha] at this⟩
  by_cases g1 : bT a.name t
  ·have g1' := Fb.2 g1
   simp [r0, r1, r2, r8, r9, r10, hlt, hlt', hw1, hw2, hq, hw3, hw4, e1, l2, c1, g1', jG, IntKind.bits]
   refine ⟨j - (m + 1), by omega, m + 1, j, by omega, by omega, by omega, by omega, rfl, fun q b hq1 hb => ?_, hhi⟩
   by_cases hqm : q = m
   ·subst hqm; rw [ha] at hb; cases hb; exact g1
   ·exact (bf _ _).2 (List.lt_trans ((hord q b hb).1 (by omega)) ((bf _ _).1 g1))
  ·have g1' : ¬ qV a.name t < 0 := mt Fb.1 g1
   simp [r0, r1, r2, r8, r9, r10, hlt, hlt', hw1, hw2, hq, hw3, hw4, e1, l2, c1, g1', jG, IntKind.bits]
   refine ⟨m - i, by omega, i, m, by omega, by omega, by omega, rfl, rfl, hlo, fun q b hq1 hb hlt2 => ?_⟩
   by_cases hqm : q = m
   ·subst hqm; rw [ha] at hb; cases hb; exact g1 hlt2
   ·exact g1 ((bf _ _).2 (List.lt_trans ((hord q b hb).2 (by omega)) ((bf _ _).1 hlt2)))
 | zero =>
  have hij' : i = j := by omega
  subst hij'
  by_cases hil : i < l.length
  ·have hilI : (i : Int) < l.length := by omega
   obtain ⟨a, ha⟩ : ∃ a, l[i]? = some a := ⟨l[i], List.getElem?_eq_getElem hil⟩
   obtain ⟨id, o, w, e1, l0, l1, l2, hvs, _⟩ := fC h ha
   have c1 := Cc (n := a.name) (t := t) (w := w) (H := H) hvs.one.2
   by_cases g1 : a.name = t
   ·have g1' := Ae.2 g1
    simp [r0, r1, r2, r8, r9, r10, hil, e1, l2, c1, g1']
    exact ⟨i, rfl, a, ha, g1⟩
   ·have g1' : ¬ qV a.name t = 0 := mt Ae.1 g1
    simp [r0, r1, r2, r8, r9, r10, hil, e1, l2, c1, g1']
    refine ⟨⟨i, rfl⟩, fun b hb hbt => ?_⟩
    obtain ⟨q, hq1, rfl⟩ := List.getElem_of_mem hb
    have hqe := List.getElem?_eq_getElem hq1
    rcases Nat.lt_trichotomy q i with hh | hh | hh
    ·have := hlo q _ hh hqe
     rw [hbt] at this
     exact List.lt_irrefl _ ((bf _ _).1 this)
    ·subst hh; rw [ha] at hqe; cases hqe; exact g1 hbt
    ·have h1 := hhi i a (by omega) ha
     obtain ⟨_, ha'⟩ := List.getElem?_eq_some_iff.1 ha
     have h2 := List.pairwise_iff_getElem.1 hp i q hil hq1 hh
     rw [ha', hbt] at h2
     exact h1 ((bf _ _).2 h2)
  ·simp [r0, r1, r2, r8, r9, r10, hil]
   refine ⟨⟨i, rfl⟩, fun b hb hbt => ?_⟩
   obtain ⟨q, hq1, rfl⟩ := List.getElem_of_mem hb
   have := hlo q _ (by omega) (List.getElem?_eq_getElem hq1)
   rw [hbt] at this
   exact List.lt_irrefl _ ((bf _ _).1 this)
def pJ (e : PEntry) : Prop := e.dn.length ≤ 1048576 ∧ e.attrs.length ≤ 1048576 ∧ ∀ a ∈ e.attrs, a.vals.length ≤ 1048576
theorem MS {H : List Ob} {vd va : V} {e : PEntry} (hd : eu H vd e.dn) (ha : bD H va e.attrs) (hb : pJ e) :
  ∃ T w1 w2, callW C 90 [.agg [vd, va]] H = some (.agg [w1, w2], H ++ T) ∧ New H.length (H ++ T).length (H ++ T) gz [w1, w2] e.u := by
 suffices hs : Ret C 90 [.agg [vd, va]] H fun q H' => ∃ T w1 w2, q = .agg [w1, w2] ∧ H' = H ++ T ∧ New H.length (H ++ T).length (H ++ T) gz [w1, w2] e.u by
  obtain ⟨q, H', hc, T, w1, w2, rfl, rfl, hr⟩ := hs
  exact ⟨T, w1, w2, hc, hr⟩
 rw [Ug]
 have hod := hd.one
 have hoa := ha.one
 obtain ⟨w1, T1, a1, n1⟩ := gI (d := .struct [(0, 9), (1, 9)]) (by_ := 32) (z := [.str [], .str []]) (sz := 2) hd rfl rfl rfl (by decide) (by decide) (by decide) (by have := hb.1; unfold aB; omega)
 have hb2 := hb.2.1
 have how := New.one1 n1
 simp [Ic, Tryz.f90, hod, hoa, ay, ax, ah, St.new, aV, a1, aH, ak, how]
 obtain ⟨K, hK⟩ : ∃ K, K = H ++ T1 := ⟨_, rfl⟩
 rw [← hK] at n1 ⊢
 have haK : bD K va e.attrs := by rw [hK]; exact ha.ext
 refine aA (fun k σ => ∃ (i : Nat) (r : Nat → R) (G : List Ob) (w : V), i + k = e.attrs.length ∧ σ = ⟨r, 3, G⟩ ∧ r 1 = .box 0 [vd, va] ∧ r 2 = .box 1 [.slc none 0, .slc none 0] ∧ r 3 = .box 2 [w1, w] ∧ r 4 = .val (.int .i64 i) ∧ LstF K G dK PAttr.u w (e.attrs.take i)) ?_ e.attrs.length _ ⟨0, _, K, .slc none 0, by simp, rfl, by simp, by simp, by simp, by simp, by simpa using LstF.nil⟩
 rintro k σ ⟨i, r, G, w, hik, rfl, r1, r2, r3, r4, hG⟩
 obtain ⟨S, hS⟩ := hG.pre
 have haG : bD G va e.attrs := by rw [hS]; exact haK.ext
 have hwo := hG.one
 cases k with
 | zero =>
  have hi : i = e.attrs.length := by omega
  subst hi
  rw [List.take_length] at hG
  have n2 := hG.new ha.bound
  have hne : New H.length G.length G gz [w1, w] e.u := by
   refine New.st (News.cons (m := K.length) (c1 := [w1]) ?_ (News.one n2 (by rw [hS]; simp)) (by rw [hK]; simp) (by rw [hS]; simp))
   rw [hS]; exact n1.ext
  obtain ⟨T', hg, hn⟩ := (show New H.length G.length (H ++ (T1 ++ S)) gz [w1, w] e.u by rw [← List.append_assoc, ← hK, ← hS]; exact hne).gcA
  rw [← List.append_assoc, ← hK, ← hS] at hg
  simp [r1, r2, r3, r4, haG.len, hg, how, hwo]
  exact ⟨T', w1, w, ⟨rfl, rfl⟩, rfl, by simpa using hn⟩
 | succ k =>
  have hi : i < e.attrs.length := by omega
  obtain ⟨x, hx⟩ : ∃ c, e.attrs[i]? = some c := ⟨e.attrs[i], by simp [hi]⟩
  have hw : IntKind.i64.wrap ((i : Int) + 1) = ((i : Int) + 1) := wrap_i64 (by omega) (by omega)
  obtain ⟨id, o, wx, ex, lx, hvx, hnx, hidx, _⟩ := mr ha hx
  have hGH : G = H ++ (T1 ++ S) := by rw [hS, hK, List.append_assoc]
  obtain ⟨l0, l1, l2⟩ := lx G ⟨_, hGH⟩
  obtain ⟨l0', l1', l2'⟩ := lx (G ++ [.mk true 1 []]) ⟨_, by rw [hGH, List.append_assoc]⟩
  have hidG : id < G.length := by rw [hGH]; simp; omega
  have hvG : AStrs G wx x.vals := by rw [hGH]; exact hvx.ext
  have hbx := hb.2.2 x (List.mem_of_getElem? hx)
  obtain ⟨wv, T2, a2, n2⟩ := gI (d := .str) (by_ := 16) (z := [.str []]) (sz := 1) hvG rfl rfl rfl (by decide) (by decide) (by decide) (by unfold aB; omega)
  have hel : New G.length (G ++ T2).length (G ++ T2) dK [.str x.name, wv] x.u := New.st (News.str hnx (News.one n2 (by simp)))
  obtain ⟨w', G', a3, hG', _, _⟩ := hG.push (T := T2) (d := .struct [(0, 9), (1, 27)]) (by_ := 40) (z := [.str [], .slc none 0]) (sz := 2) hel rfl rfl (by decide) (by decide) (by decide) (by simp; unfold aB; omega)
  rw [← bg hx] at hG'
  have hwv := New.one1 n2
  have hk : Keep G.length (G ++ [.mk true 1 []]) (G ++ T2) := JO (Nat.le_refl _)
  have hw' := hG'.one
  simp only [List.append_assoc, List.length_append] at a3
  simp [r1, r2, r3, r4, hi, haG.len, ex, l0, l1, hidG, a2, a3, hk, BV, ay, ax, ah, St.new, aH, ak, hod, hoa, hwv, hwo, hw', hw, List.lookup]
  exact ⟨k, by omega, i + 1, by omega, _, _, ⟨rfl, rfl⟩, by simp [r1], by simp [r2], w', by simp, by simp, hG'⟩
noncomputable def fJ (pre : List PAttr) (n : Str) (vs : List Str) (done : Bool) : List PAttr := pre.filter (fun a => dec (bT a.name n)) ++ (if done = true ∧ vs ≠ [] then [⟨n, bV vs⟩] else []) ++ pre.filter (fun a => dec (bT n a.name))
theorem xW {a b c : Str} (h1 : bT a b) (h2 : bT b c) : bT a c := (bf _ _).2 (List.lt_trans ((bf _ _).1 h1) ((bf _ _).1 h2))
theorem eH {a b : Str} (h1 : bT a b) : ¬ bT b a := fun h => dG _ (xW h1 h)
theorem mJ (a b : Str) : bT a b ∨ a = b ∨ bT b a := by
 by_cases h1 : bT a b
 ·exact .inl h1
 ·by_cases h2 : bT b a
  ·exact .inr (.inr h2)
  ·refine .inr (.inl (List.le_antisymm (fun hh => h2 ((bf _ _).2 hh)) (fun hh => h1 ((bf _ _).2 hh))))
section
variable {pre : List PAttr} {a : PAttr} {n : Str} {vs : List Str} {done : Bool}
theorem oL {p : PAttr → Bool} (h : ∀ b ∈ pre, p b = false) : pre.filter p = [] := List.filter_eq_nil_iff.2 fun b hb => by rw [h b hb]; decide
theorem MJ (hs : ∀ b ∈ pre, bT b.name a.name) (hd : done = true ↔ vs = [] ∨ ∃ b ∈ pre, ¬ bT b.name n) (h : bT a.name n) : fJ pre n vs done ++ [a] = fJ (pre ++ [a]) n vs done ∧ (done = true ↔ vs = [] ∨ ∃ b ∈ pre ++ [a], ¬ bT b.name n) := by
 have h1 : ∀ b ∈ pre, bT b.name n := fun b hb => xW (hs b hb) h
 have hno : ¬ ∃ b ∈ pre, ¬ bT b.name n := fun ⟨b, hb, hn⟩ => hn (h1 b hb)
 have hmid : (if done = true ∧ vs ≠ [] then [(⟨n, bV vs⟩ : PAttr)] else []) = [] := if_neg fun ⟨h2, h3⟩ => (hd.1 h2).elim h3 hno
 have e1 := oL (pre := pre) (p := fun a => dec (bT n a.name)) fun b hb => ai (eH (h1 b hb))
 refine ⟨?_, ?_⟩
 ·unfold fJ
  rw [hmid, List.filter_append, List.filter_append, e1]
  simp [aj h, ai (eH h)]
 ·rw [hd]
  constructor
  ·rintro (h2 | ⟨b, hb, hn⟩)
   ·exact .inl h2
   ·exact absurd (h1 b hb) hn
  ·rintro (h2 | ⟨b, hb, hn⟩)
   ·exact .inl h2
   ·rcases List.mem_append.1 hb with hb | hb
    ·exact absurd (h1 b hb) hn
    ·simp at hb; subst hb; exact absurd h hn
theorem put_eq (hs : ∀ b ∈ pre, bT b.name a.name) (hd : done = true ↔ vs = [] ∨ ∃ b ∈ pre, ¬ bT b.name n) (h : a.name = n) :
  (done = true → vs = []) ∧ fJ pre n vs done ++ (if done = true then [] else [⟨n, bV vs⟩]) = fJ (pre ++ [a]) n vs true := by
 have h1 : ∀ b ∈ pre, bT b.name n := fun b hb => h ▸ hs b hb
 have hno : ¬ ∃ b ∈ pre, ¬ bT b.name n := fun ⟨b, hb, hn⟩ => hn (h1 b hb)
 have hv : done = true → vs = [] := fun h2 => (hd.1 h2).elim id fun h3 => absurd h3 hno
 have e1 := oL (pre := pre) (p := fun a => dec (bT n a.name)) fun b hb => ai (eH (h1 b hb))
 refine ⟨hv, ?_⟩
 unfold fJ
 rw [List.filter_append, List.filter_append, e1]
 subst h
 cases done with
 | true => simp [hv rfl, ai (dG a.name)]
 | false =>
  have : vs ≠ [] := fun h2 => by have := hd.2 (.inl h2); cases this
  simp [this, ai (dG a.name)]
theorem MP (hs : ∀ b ∈ pre, bT b.name a.name) (hd : done = true ↔ vs = [] ∨ ∃ b ∈ pre, ¬ bT b.name n) (h : bT n a.name) :
  (fJ pre n vs done ++ (if done = true then [] else [⟨n, bV vs⟩])) ++ [a] = fJ (pre ++ [a]) n vs true := by
 unfold fJ
 rw [List.filter_append, List.filter_append]
 cases done with
 | true => simp [aj h, ai (eH h)]
 | false =>
  have h2 : vs ≠ [] := fun h2 => by have := hd.2 (.inl h2); cases this
  have h1 : ∀ b ∈ pre, bT b.name n := fun b hb => Classical.byContradiction fun hn => by have := hd.2 (.inr ⟨b, hb, hn⟩); cases this
  have e1 := oL (pre := pre) (p := fun a => dec (bT n a.name)) fun b hb => ai (eH (h1 b hb))
  rw [e1]
  simp [h2, aj h, ai (eH h)]
theorem KW (hd : done = true ↔ vs = [] ∨ ∃ b ∈ pre, ¬ bT b.name n) : fJ pre n vs done ++ (if done = true then [] else [⟨n, bV vs⟩]) = bP pre n (bV vs) := by
 have hz : bV vs = [] ↔ vs = [] := by rw [← List.length_eq_zero_iff, oC, List.length_eq_zero_iff]
 unfold fJ bP
 cases done with
 | true =>
  by_cases h2 : vs = []
  ·simp [h2, xM]
  ·simp [h2, hz]
 | false =>
  have h2 : vs ≠ [] := fun h2 => by have := hd.2 (.inl h2); cases this
  have h1 : ∀ b ∈ pre, bT b.name n := fun b hb => Classical.byContradiction fun hn => by have := hd.2 (.inr ⟨b, hb, hn⟩); cases this
  have e1 := oL (pre := pre) (p := fun a => dec (bT n a.name)) fun b hb => ai (eH (h1 b hb))
  rw [e1]
  simp [h2, hz]
end
theorem Jw {H : List Ob} {vd va vv : V} {e : PEntry} {n : Str} {vs : List Str} (hd : eu H vd e.dn) (ha : bD H va e.attrs) (hb : pJ e) (hp : e.attrs.Pairwise fun a b => a.name < b.name) (hn : n.length ≤ maxLen) (hv : AStrs H vv vs) (hvl : vs.length ≤ 1000) :
  ∃ T w1 w2, callW C 109 [.agg [vd, va], .str n, vv] H = some (.agg [w1, w2], H ++ T) ∧ At (H ++ T) gz [w1, w2] (pI e n (bV vs)).u ∧ ¬ dZ H w2 ∧ EnR H.length (H ++ T) w1 w2 (pI e n (bV vs)) := by
 suffices hs : Ret C 109 [.agg [vd, va], .str n, vv] H fun q H' => ∃ T w1 w2, q = .agg [w1, w2] ∧ H' = H ++ T ∧ At (H ++ T) gz [w1, w2] (pI e n (bV vs)).u ∧ ¬ dZ H w2 ∧ EnR H.length (H ++ T) w1 w2 (pI e n (bV vs)) by
  obtain ⟨q, H', hc, T, w1, w2, rfl, rfl, hr⟩ := hs
  exact ⟨T, w1, w2, hc, hr⟩
 rw [Ph]
 have hod := hd.one
 have hoa := ha.one
 obtain ⟨T1, d1, a1, c1, n1⟩ := MS hd ha hb
 obtain ⟨K, hK⟩ : ∃ K, K = H ++ T1 := ⟨_, rfl⟩
 rw [← hK] at n1 c1
 obtain ⟨_, _, hcs, hd1, ha1⟩ := jC.1 n1.at
 cases hcs
 obtain ⟨T2, wv, c2, n2⟩ := LY (H := K ++ [.mk true 2 []]) (v := vv) (l := vs) (by rw [hK]; exact hv.ext.ext) hvl
 obtain ⟨K3, hK3⟩ : ∃ K3, K3 = K ++ [.mk true 2 []] ++ T2 := ⟨_, rfl⟩
 rw [← hK3] at n2 c2
 have hoD := hd1.one
 have hoA := ha1.one
 have hoV := New.one1 n2
 have hL0 : Lst K K3 dK PAttr.u (.slc (some (K.length, 0)) 0) [] := by
  rw [hK3]
  have h := Lst.init (B := K) (sh := dK) (f := PAttr.u)
  exact h.ext
 obtain ⟨F, f1, f2, f3⟩ := New.st (News.str hn (News.one n2 (by rw [hK3]; simp)))
 have fx : AtF K3 dK [.str n, wv] (⟨n, bV vs⟩ : PAttr).u F := f1
 have hvsI : ((vs.length : Int) = 0) = (vs = []) := by rw [← List.length_eq_zero_iff]; simp
 simp [Ez, Tryz.f109, c1, c2, hod, hoa, hoD, hoA, hoV, hv.len, ay, ax, ah, St.new, aV, aH, ak, hvsI]
 have hbl := hb.2.1
 refine aA (fun k σ => ∃ (i : Nat) (r : Nat → R) (G : List Ob) (w : V) (done : Bool), i + k = e.attrs.length ∧ σ = ⟨r, 4, G⟩ ∧ r 1 = .val (.str n) ∧ r 6 = .box 1 [.slc none 0, .slc none 0] ∧ r 7 = .box 2 [d1, a1] ∧ r 8 = .val w ∧ r 9 = .box 3 [.str n, wv] ∧ r 10 = .val (.bool done) ∧ r 11 = .val (.int .i64 i) ∧
  Lst K G dK PAttr.u w (fJ (e.attrs.take i) n vs done) ∧ (done = true ↔ vs = [] ∨ ∃ b ∈ e.attrs.take i, ¬ bT b.name n) ∧ AtF G dK [.str n, wv] (⟨n, bV vs⟩ : PAttr).u F ∧ (∀ q ∈ F, ∀ m, w ≠ .slc (some (q, 0)) m) ∧ w ≠ .slc none 0) ?_ e.attrs.length _
  ⟨0, _, K3, .slc (some (K.length, 0)) 0, decide (vs = []), by simp, rfl, by simp, by simp, by simp, by simp, by simp, by simp, by simp, by simpa [fJ] using hL0, by simp, fx, fun q hq m => by have := (f3 q hq).1; simp at this ⊢; omega, by simp⟩
 rintro k σ ⟨i, r, G, w, done, hik, rfl, r1, r6, r7, r8, r9, r10, r11, hG, hdone, hx, hxw, hwn⟩
 obtain ⟨S, hS⟩ := hG.pre
 have hwo := hG.one
 have haG : bD G a1 e.attrs := by rw [hS]; exact ha1.ext
 have hxc : [V.str n, wv].length = 2 := rfl
 have hpl : ∀ d, (fJ (e.attrs.take i) n vs d).length ≤ 2097160 := fun d => by
  unfold fJ
  have e1 := List.length_filter_le (fun a : PAttr => dec (bT a.name n)) (e.attrs.take i)
  have e2 := List.length_filter_le (fun a : PAttr => dec (bT n a.name)) (e.attrs.take i)
  have e3 := List.length_take_le i e.attrs
  have e4 : (if d = true ∧ vs ≠ [] then [(⟨n, bV vs⟩ : PAttr)] else []).length ≤ 1 := by split <;> simp
  simp only [List.length_append]
  omega
 have hmm : ∀ k : Nat, k ≤ 2097165 → k * 40 ≤ aB := fun k hk => by unfold aB; omega
 cases k with
 | zero =>
  have hi : i = e.attrs.length := by omega
  subst hi
  rw [List.take_length] at hG hdone hpl
  have hend := KW hdone
  cases done with
  | true =>
   simp only [if_true, List.append_nil] at hend
   rw [hend] at hG
   have hb3 : (bP e.attrs n (bV vs)).length ≤ maxLen := by rw [← hend]; have := hpl true; unfold maxLen; omega
   have hat : At G gz [d1, w] (pI e n (bV vs)).u := jC.2 ⟨d1, w, rfl, by rw [hS]; exact hd1.ext, hG.at hb3⟩
   have hnl : ¬ dZ H w := hG.notlow hwn (by rw [hK]; simp)
   have hgc : eU H G (.agg [d1, w]) = G := gJ fun h => hnl h.2.1
   simp [r1, r6, r7, r8, r9, r10, r11, haG.len, hgc, hoD, hoA, hwo]
   exact ⟨T1 ++ S, d1, w, ⟨rfl, rfl⟩, by rw [hS, hK]; simp, by rw [← List.append_assoc, ← hK, ← hS]; exact hat, hnl, by rw [← List.append_assoc, ← hK, ← hS]; exact (Lst.enr hG hd1).wide (by rw [hK]; simp)⟩
  | false =>
   simp only [Bool.false_eq_true, if_false] at hend
   obtain ⟨w', G', p1, hG', _, _, hw', hfr, _⟩ := hG.push (T := []) (x := ⟨n, bV vs⟩) (c := [.str n, wv]) (d := .struct [(0, 9), (1, 27)]) (by_ := 40) (z := [.str [], .slc none 0]) (sz := 2) (.inl ⟨F, by rw [List.append_nil]; exact hx, hxw⟩) rfl rfl (by decide) (by decide) (by decide) (hmm _ (by have := hpl false; omega))
   rw [hend] at hG'
   obtain ⟨S', hS'⟩ := hG'.pre
   have hwo' := hG'.one
   have hb3 : (bP e.attrs n (bV vs)).length ≤ maxLen := by rw [← hend]; have := hpl false; simp; unfold maxLen; omega
   have hat : At G' gz [d1, w'] (pI e n (bV vs)).u := jC.2 ⟨d1, w', rfl, by rw [hS']; exact hd1.ext, hG'.at hb3⟩
   have hnl : ¬ dZ H w' := hG'.notlow (by rw [hw']; simp) (by rw [hK]; simp)
   have hgc : eU H G' (.agg [d1, w']) = G' := gJ fun h => hnl h.2.1
   simp only [List.append_nil] at p1
   simp [r1, r6, r7, r8, r9, r10, r11, haG.len, hgc, hoD, hoA, hoV, hwo, hwo', ay, ax, ah, St.new, p1]
   exact ⟨T1 ++ S', d1, w', ⟨rfl, rfl⟩, by rw [hS', hK]; simp, by rw [← List.append_assoc, ← hK, ← hS']; exact hat, hnl, by rw [← List.append_assoc, ← hK, ← hS']; exact (Lst.enr hG' hd1).wide (by rw [hK]; simp)⟩
 | succ k =>
  have hi : i < e.attrs.length := by omega
  obtain ⟨a, hxa⟩ : ∃ c, e.attrs[i]? = some c := ⟨e.attrs[i], by simp [hi]⟩
  have hw : IntKind.i64.wrap ((i : Int) + 1) = ((i : Int) + 1) := wrap_i64 (by omega) (by omega)
  have htk := bg hxa
  have hsort : ∀ b ∈ e.attrs.take i, bT b.name a.name := fun b hb => by
   obtain ⟨j, hj, rfl⟩ := List.getElem_of_mem hb
   have hj2 : j < i ∧ j < e.attrs.length := by rw [List.length_take] at hj; omega
   rw [List.getElem_take]
   obtain ⟨hi', rfl⟩ := List.getElem?_eq_some_iff.1 hxa
   exact (bf _ _).2 (List.pairwise_iff_getElem.1 hp j i hj2.2 hi hj2.1)
  obtain ⟨id, o, wx, ex, lx, hvx, hnx, hidx, hatx⟩ := mr ha1 hxa
  obtain ⟨l0, l1, l2⟩ := lx G ⟨_, hS⟩
  have hox := hvx.one
  rcases mJ a.name n with hlt | heq | hgt
  ·obtain ⟨q1, q2⟩ := MJ hsort hdone hlt
   obtain ⟨w', G', p1, hG', _, _, hw', hfr, _⟩ := hG.push (T := []) (x := a) (c := [.str a.name, wx]) (d := .struct [(0, 9), (1, 27)]) (by_ := 40) (z := [.str [], .slc none 0]) (sz := 2) (.inr hatx) rfl rfl (by decide) (by decide) (by decide) (hmm _ (by have := hpl done; omega))
   rw [q1, ← htk] at hG'
   rw [← htk] at q2
   rw [List.append_nil] at hw' hfr
   obtain ⟨k1, k2⟩ := lV hx hxw hw' hfr
   simp only [List.append_nil] at p1
   have hne : ¬ a.name = n := fun e => dG _ (e ▸ hlt)
   cases done with
   | false =>
    simp [r1, r6, r7, r8, r9, r10, r11, hi, haG.len, ex, l0, l2, gU (eH hlt), hne, hoD, hoA, hoV, hox, ay, ax, ah, St.new, p1, hw]
    exact ⟨k, by omega, i + 1, by omega, _, _, ⟨rfl, rfl⟩, by simp [r1], by simp [r6], by simp [r7], w', by simp, by simp [r9], .inl ⟨by simp [r10], by simp, hG', by simpa using q2, k1, k2, by rw [hw']; simp⟩⟩
   | true =>
    simp [r1, r6, r7, r8, r9, r10, r11, hi, haG.len, ex, l0, l2, gU (eH hlt), hne, hoD, hoA, hoV, hox, ay, ax, ah, St.new, p1, hw]
    exact ⟨k, by omega, i + 1, by omega, _, _, ⟨rfl, rfl⟩, by simp [r1], by simp [r6], by simp [r7], w', by simp, by simp [r9], .inr ⟨by simp [r10], by simp, hG', by simpa using q2, k1, k2, by rw [hw']; simp⟩⟩
  ·obtain ⟨q1, q2⟩ := put_eq hsort hdone heq
   have hdone' : true = true ↔ vs = [] ∨ ∃ b ∈ e.attrs.take (i + 1), ¬ bT b.name n := ⟨fun _ => .inr ⟨a, by rw [htk]; simp, by rw [heq]; exact dG n⟩, fun _ => rfl⟩
   cases done with
   | true =>
    simp only [if_true, List.append_nil] at q2
    rw [q2, ← htk] at hG
    simp [r1, r6, r7, r8, r9, r10, r11, hi, haG.len, ex, l0, l2, heq, gU (dG n), hoD, hoA, hoV, hox, hw]
    exact ⟨k, by omega, i + 1, by omega, _, _, ⟨rfl, rfl⟩, by simp [r1], by simp [r6], by simp [r7], w, by simp [r8], by simp [r9], .inr ⟨by simp [r10], by simp, hG, by simpa using hdone', hx, hxw, hwn⟩⟩
   | false =>
    simp only [Bool.false_eq_true, if_false] at q2
    obtain ⟨w', G', p1, hG', _, _, hw', hfr, _⟩ := hG.push (T := []) (x := ⟨n, bV vs⟩) (c := [.str n, wv]) (d := .struct [(0, 9), (1, 27)]) (by_ := 40) (z := [.str [], .slc none 0]) (sz := 2) (.inl ⟨F, by rw [List.append_nil]; exact hx, hxw⟩) rfl rfl (by decide) (by decide) (by decide) (hmm _ (by have := hpl false; omega))
    rw [q2, ← htk] at hG'
    rw [List.append_nil] at hw' hfr
    obtain ⟨k1, k2⟩ := lV hx hxw hw' hfr
    simp only [List.append_nil] at p1
    simp [r1, r6, r7, r8, r9, r10, r11, hi, haG.len, ex, l0, l2, heq, gU (dG n), hoD, hoA, hoV, hox, ay, ax, ah, St.new, p1, hw]
    exact ⟨k, by omega, i + 1, by omega, _, _, ⟨rfl, rfl⟩, by simp [r1], by simp [r6], by simp [r7], w', by simp, by simp [r9], .inr ⟨by simp, by simp, hG', by simpa using hdone', k1, k2, by rw [hw']; simp⟩⟩
  ·have q2 := MP hsort hdone hgt
   have hne : ¬ a.name = n := fun e => dG _ (e ▸ hgt)
   have hdone' : true = true ↔ vs = [] ∨ ∃ b ∈ e.attrs.take (i + 1), ¬ bT b.name n := ⟨fun _ => .inr ⟨a, by rw [htk]; simp, eH hgt⟩, fun _ => rfl⟩
   cases done with
   | true =>
    simp only [if_true, List.append_nil] at q2
    obtain ⟨w', G', p1, hG', _, _, hw', hfr, _⟩ := hG.push (T := []) (x := a) (c := [.str a.name, wx]) (d := .struct [(0, 9), (1, 27)]) (by_ := 40) (z := [.str [], .slc none 0]) (sz := 2) (.inr hatx) rfl rfl (by decide) (by decide) (by decide) (hmm _ (by have := hpl true; omega))
    rw [q2, ← htk] at hG'
    rw [List.append_nil] at hw' hfr
    obtain ⟨k1, k2⟩ := lV hx hxw hw' hfr
    simp only [List.append_nil] at p1
    simp [r1, r6, r7, r8, r9, r10, r11, hi, haG.len, ex, l0, l2, hne, hoD, hoA, hoV, hox, ay, ax, ah, St.new, p1, hw]
    exact ⟨k, by omega, i + 1, by omega, _, _, ⟨rfl, rfl⟩, by simp [r1], by simp [r6], by simp [r7], w', by simp, by simp [r9], .inr ⟨by simp [r10], by simp, hG', by simpa using hdone', k1, k2, by rw [hw']; simp⟩⟩
   | false =>
    simp only [Bool.false_eq_true, if_false] at q2
    obtain ⟨w', G', p1, hG', _, _, hw', hfr, _⟩ := hG.push (T := []) (x := ⟨n, bV vs⟩) (c := [.str n, wv]) (d := .struct [(0, 9), (1, 27)]) (by_ := 40) (z := [.str [], .slc none 0]) (sz := 2) (.inl ⟨F, by rw [List.append_nil]; exact hx, hxw⟩) rfl rfl (by decide) (by decide) (by decide) (hmm _ (by have := hpl false; omega))
    rw [List.append_nil] at hw' hfr
    obtain ⟨k1, k2⟩ := lV hx hxw hw' hfr
    obtain ⟨S', hS'⟩ := hG'.pre
    have haG' : bD G' a1 e.attrs := by rw [hS']; exact ha1.ext
    obtain ⟨l0', l1', l2'⟩ := lx G' ⟨_, hS'⟩
    obtain ⟨w'', G'', p2, hG'', _, _, hw'', hfr', _⟩ := hG'.push (T := []) (x := a) (c := [.str a.name, wx]) (d := .struct [(0, 9), (1, 27)]) (by_ := 40) (z := [.str [], .slc none 0]) (sz := 2) (.inr hatx) rfl rfl (by decide) (by decide) (by decide) (hmm _ (by have := hpl false; simp; omega))
    rw [q2, ← htk] at hG''
    rw [List.append_nil] at hw'' hfr'
    obtain ⟨k3, k4⟩ := lV k1 k2 hw'' hfr'
    simp only [List.append_nil] at p1 p2
    simp [r1, r6, r7, r8, r9, r10, r11, hi, haG.len, haG'.len, ex, l0, l2, l0', l2', hne, iq hgt, hoD, hoA, hoV, hox, ay, ax, ah, St.new, p1, p2, hw]
    exact ⟨k, by omega, i + 1, by omega, _, _, ⟨rfl, rfl⟩, by simp [r1], by simp [r6], by simp [r7], w'', by simp, by simp [r9], .inr ⟨by simp, by simp, hG'', by simpa using hdone', k3, k4, by rw [hw'']; simp⟩⟩
theorem EntryOk.small {e : PEntry} (h : EntryOk e) : pJ e := by
 obtain ⟨_, h1, h2⟩ := h
 refine ⟨by have := h1.2; omega, by have := h2.2; omega, fun a ha => ?_⟩
 obtain ⟨j, hj, rfl⟩ := List.getElem_of_mem ha
 have := (h2.1 j _ (List.getElem?_eq_getElem hj)).2.2.2.2
 omega
theorem EntryOk.rise {e : PEntry} (h : EntryOk e) : e.attrs.Pairwise fun a b => a.name < b.name := jl (fun j x hx => (h.2.2.1 j x hx).2.1)
theorem KP {H : List Ob} {c : Int} (h : (Lit.int .i64 c).wf = true) : At H jg [.slc none 0, .slc none 0, .int .i64 c] (jb c).u :=
 dD.2 ⟨_, _, rfl, aC.2 ⟨_, _, rfl, rfl, by simp [jb], .inl ⟨rfl, rfl⟩⟩, aC.2 ⟨_, _, rfl, rfl, by simp [jb], .inl ⟨rfl, rfl⟩⟩, h⟩
def EOut (H : List Ob) (o : PEntryOut) (q : V) (H' : List Ob) : Prop := ∃ T w1 w2, q = .agg [w1, w2, .int .i64 o.code] ∧ H' = H ++ T ∧ At (H ++ T) jg [w1, w2, .int .i64 o.code] o.u ∧ eU H (H ++ T) (.agg [w1, w2, .int .i64 o.code]) = H ++ T ∧ (o.code = 0 → ¬ dZ H w2) ∧ (o.code ≠ 0 → w1 = .slc none 0 ∧ w2 = .slc none 0 ∧ T = []) ∧ (o.code = 0 → EnR H.length (H ++ T) w1 w2 o.entry)
theorem EOut.ill {H : List Ob} {c : Int} (h : (Lit.int .i64 c).wf = true ∧ c ≠ 0) : EOut H (jb c) (.agg [.slc none 0, .slc none 0, .int .i64 c]) H :=
 ⟨[], .slc none 0, .slc none 0, rfl, by simp, by rw [List.append_nil]; exact KP h.1, by rw [List.append_nil]; exact vN, fun hc => absurd hc h.2, fun _ => ⟨rfl, rfl, rfl⟩, fun hc => absurd hc h.2⟩
theorem NF {H : List Ob} {vd va vv : V} {e : PEntry} {n : Str} {vs : List Str} (hd : eu H vd e.dn) (ha : bD H va e.attrs) (hb : pJ e) (hp : e.attrs.Pairwise fun a b => a.name < b.name) (hn : n.length ≤ maxLen) (hv : AStrs H vv vs) (hvl : vs.length ≤ 1000) :
  ∃ q H', callW C 95 [.agg [vd, va], .str n, vv] H = some (q, H') ∧ EOut H (mQ e n vs) q H' := by
 suffices hs : Ret C 95 [.agg [vd, va], .str n, vv] H fun q H' => EOut H (mQ e n vs) q H' by
  obtain ⟨q, H', hc, hr⟩ := hs
  exact ⟨q, H', hc, hr⟩
 rw [TS]
 have hod := hd.one
 have hoa := ha.one
 obtain ⟨r, c1, hr⟩ := KU (t := n) ha hod.2
 have c2 := wF (H := H) (c := 9)
 by_cases g : vs ≠ [] ∧ 8 ≤ e.attrs.length ∧ bi PAttr.name e.attrs n = none
 ·have hz : 0 < vs.length := List.length_pos_iff.2 g.1
  have hz' : ¬ vs = [] := g.1
  have h8 : (8 : Int) ≤ e.attrs.length := by have := g.2.1; omega
  have hr0 : r = -1 := by
   rcases hr.pos with ⟨k, a, h1, h2, h3⟩ | ⟨h1, _⟩
   ·rw [g.2.2] at h3; cases h3
   ·exact h1
  subst hr0
  have hpo : mQ e n vs = jb 9 := if_pos g
  rw [hpo]
  simp [uQ, Tryz.f95, c1, c2, hod, hoa, hv.len, ha.len, hz, h8]
  exact EOut.ill (by decide)
 ·have hpo : mQ e n vs = ⟨pI e n (bV vs), 0⟩ := if_neg g
  obtain ⟨T, w1, w2, c3, hat, hnl, hen⟩ := Jw hd ha hb hp hn hv hvl
  obtain ⟨v1, v2, hcs, a1, a2⟩ := jC.1 hat
  cases hcs
  have ho1 := a1.one
  have ho2 := a2.one
  have hgc : eU H (H ++ T) (.agg [w1, w2, .int .i64 0]) = H ++ T := gJ fun h => hnl h.2.1
  rw [hpo]
  have fin : EOut H ⟨pI e n (bV vs), 0⟩ (.agg [w1, w2, .int .i64 0]) (H ++ T) := ⟨T, w1, w2, rfl, rfl, dD.2 ⟨_, _, rfl, a1, a2, show (Lit.int .i64 0).wf = true by decide⟩, hgc, fun _ => hnl, fun h => absurd rfl h, fun _ => hen⟩
  by_cases g1 : vs = []
  ·subst g1
   simp [uQ, Tryz.f95, c1, c2, c3, hod, hoa, hv.len, ha.len, aH, ak, ax, ho1, ho2, hgc]
   exact fin
  have hz : 0 < vs.length := List.length_pos_iff.2 g1
  by_cases g2 : 8 ≤ e.attrs.length
  ·have h8 : (8 : Int) ≤ e.attrs.length := by omega
   have hr0 : ¬ r < 0 := by
    rcases hr.pos with ⟨k, a, h1, h2, h3⟩ | ⟨h1, h3⟩
    ·omega
    ·exact absurd ⟨g1, g2, h3⟩ g
   simp [uQ, Tryz.f95, c1, c2, c3, hod, hoa, hv.len, ha.len, hz, h8, hr0, aH, ak, ax, ho1, ho2, hgc]
   exact fin
  ·have h8 : ¬ (8 : Int) ≤ e.attrs.length := by omega
   simp [uQ, Tryz.f95, c1, c2, c3, hod, hoa, hv.len, ha.len, hz, h8, aH, ak, ax, ho1, ho2, hgc]
   exact fin
theorem xY {H : List Ob} {vd va vv : V} {e : PEntry} {n : Str} {vs : List Str} (hd : eu H vd e.dn) (ha : bD H va e.attrs) (hn : n.length ≤ maxLen) (hv : AStrs H vv vs) :
  ∃ q H', callW C 14 [.agg [vd, va], .str n, vv] H = some (q, H') ∧ EOut H (bF e n vs) q H' := by
 suffices hs : Ret C 14 [.agg [vd, va], .str n, vv] H fun q H' => EOut H (bF e n vs) q H' by
  obtain ⟨q, H', hc, hr⟩ := hs
  exact ⟨q, H', hc, hr⟩
 rw [SX]
 have hod := hd.one
 have hoa := ha.one
 have c1 := wF (H := H) (c := 2)
 have c2 := wF (H := H) (c := 1)
 have c3 := qw hd ha
 have c4 := rG (t := n) (H := H)
 have c5 := Oc hv
 by_cases g1 : 8000 < n.length ∨ 400 < vs.length
 ·have ho : bF e n vs = jb 2 := if_pos g1
  rw [ho]
  by_cases g2 : 8000 < n.length
  ·have g2' : (8000 : Int) < n.length := by omega
   simp [pR, Tryz.f14, c1, hod, hoa, hv.len, g2']
   exact EOut.ill (by decide)
  ·have g2' : ¬ (8000 : Int) < n.length := by omega
   have g3' : (400 : Int) < vs.length := by omega
   simp [pR, Tryz.f14, c1, hod, hoa, hv.len, g2', g3']
   exact EOut.ill (by decide)
 ·have g2' : ¬ (8000 : Int) < n.length := by omega
  have g3' : ¬ (400 : Int) < vs.length := by omega
  have ho0 : bF e n vs = if dec (EntryOk e ∧ aG n ∧ kH vs) = true then mQ e n vs else jb 1 := if_neg g1
  have hill : ¬ (EntryOk e ∧ aG n ∧ kH vs) → bF e n vs = jb 1 := fun h => by rw [ho0, ai h]; rfl
  by_cases h1 : EntryOk e
  rotate_left
  ·rw [ai h1] at c3
   rw [hill fun h => h1 h.1]
   simp [pR, Tryz.f14, c2, c3, hod, hoa, hv.len, g2', g3']
   exact EOut.ill (by decide)
  rw [aj h1] at c3
  by_cases h2 : aG n
  rotate_left
  ·rw [ai h2] at c4
   rw [hill fun h => h2 h.2.1]
   simp [pR, Tryz.f14, c2, c3, c4, hod, hoa, hv.len, g2', g3']
   exact EOut.ill (by decide)
  rw [aj h2] at c4
  by_cases h3 : kH vs
  rotate_left
  ·rw [ai h3] at c5
   rw [hill fun h => h3 h.2.2]
   simp [pR, Tryz.f14, c2, c3, c4, c5, hod, hoa, hv.len, g2', g3']
   exact EOut.ill (by decide)
  rw [aj h3] at c5
  have ho : bF e n vs = mQ e n vs := by rw [ho0, aj ⟨h1, h2, h3⟩]; rfl
  rw [ho]
  obtain ⟨q, H', c6, T, w1, w2, rfl, rfl, hat, hgc, hnl⟩ := NF hd ha (EntryOk.small h1) (EntryOk.rise h1) hn hv (by omega)
  obtain ⟨_, _, hcs, a1, a2, hwf⟩ := dD.1 hat
  cases hcs
  have ho1 := a1.one
  have ho2 := a2.one
  simp [pR, Tryz.f14, c3, c4, c5, c6, hod, hoa, hv.len, g2', g3', ho1, ho2, hgc]
  exact ⟨T, w1, w2, rfl, rfl, hat, hgc, hnl⟩
noncomputable def nI (e : PEntry) (n v : Str) : PEntryOut :=
 if ∃ x ∈ valsOf e.attrs n, norm x = norm v then jb 7 else if 4 ≤ (valsOf e.attrs n).length ∨ (valsOf e.attrs n = [] ∧ 8 ≤ e.attrs.length) then jb 9 else ⟨pI e n (bV (valsOf e.attrs n ++ [v])), 0⟩
noncomputable def cO (e : PEntry) (n v : Str) : PEntryOut :=
 if 8000 < n.length ∨ 8000 < v.length then jb 2 else if dec (EntryOk e ∧ aG n ∧ aO v) = true then nI e n v else jb 1
theorem Kw {H : List Ob} {n v : Str} : callW C 197 [.str n, .str v] H = some (.bool (dec (8000 < n.length ∨ 8000 < v.length)), H) := by
 apply Ret.dec
 rw [OU]
 by_cases g1 : 8000 < n.length
 ·have g1' : (8000 : Int) < n.length := by omega
  simp [uo, Tryz.f197, g1, g1']
 ·have g1' : ¬ (8000 : Int) < n.length := by omega
  by_cases g2 : 8000 < v.length
  ·have g2' : (8000 : Int) < v.length := by omega
   simp [uo, Tryz.f197, g1, g1', g2, g2']
  ·have g2' : ¬ (8000 : Int) < v.length := by omega
   simp [uo, Tryz.f197, g1, g1', g2, g2']
theorem JV {H : List Ob} {w : V} {l : List Str} {v : Str} (hw : AStrs H w l) (hl : l.length ≤ 1000) (hv : v.length ≤ maxLen) :
  ∃ p1 X1, aT ⟨.str, 1, 16, [.str []]⟩ (H ++ [.mk true 1 [], .dead]) (.slc (some (H.length, 0)) 0) w = some (p1, H ++ X1) ∧ fK [1] 0 [.mk true 1 [], .mk true 1 [.str v]] X1 = X1.set 1 (.mk true 1 [.str v]) ∧ 2 ≤ X1.length ∧ aJ p1 = true ∧ cellsOf p1 = some [p1] ∧
   ∃ p2 X2, aT ⟨.str, 1, 16, [.str []]⟩ (H ++ X1.set 1 (.mk true 1 [.str v])) p1 (.slc (some (H.length + 1, 0)) 1) = some (p2, H ++ X2) ∧ X1.length ≤ X2.length ∧ AStrs (H ++ X2) p2 (l ++ [v]) := by
 obtain ⟨p, rfl, hc, hp, _⟩ := kF (T := [.mk true 1 [], .dead]) hw
 have hmx := hw.max
 have fin : ∀ (X : List Ob) (id : Nat), H.length ≤ id → (H ++ X)[id]? = some (.mk true 1 ((l ++ [v]).map V.str)) → AStrs (H ++ X) (.slc (some (id, 0)) (l.length + 1)) (l ++ [v]) := fun X id h1 h2 => by
  have hg : Gs H (H ++ X) (.slc (some (id, 0)) (l.length + 1)) ((l ++ [v]).map V.str) := ⟨X, id, rfl, h1, h2, by simp⟩
  refine (hg.strs (by simp [maxLen]; omega) fun s hs => ?_).1
  rcases List.mem_append.1 hs with h | h
  ·exact hmx s h
  ·rw [List.mem_singleton.1 h]; exact hv
 by_cases h0 : l.length = 0
 ·have hl0 : l = [] := List.length_eq_zero_iff.1 h0
  subst hl0
  refine ⟨.slc (some (H.length, 0)) 0, [.mk true 1 [], .dead], ?_, rfl, by simp, rfl, rfl, ?_⟩
  ·unfold aT
   simp [fU, aI, aQ]
   cases p <;> simp
  ·have e : [Ob.mk true 1 [], .dead].set 1 (.mk true 1 [.str v]) = [.mk true 1 [], .mk true 1 [.str v]] := rfl
   rw [e]
   have hr : (H ++ [Ob.mk true 1 [], Ob.mk true 1 [.str v]])[H.length]? = some (.mk true 1 []) := by simp
   have hx : aI ⟨.str, 1, 16, [.str []]⟩ (H ++ [Ob.mk true 1 [], Ob.mk true 1 [.str v]]) (.slc (some (H.length + 1, 0)) 1) = some ([.str v], 1) := by
    simp [aI, aQ, dw, dO]
   have := dM (n := 0) (by rfl) (by decide) (by decide) (by decide) hr (by simp) hx (by decide) (by rfl) (by simp [aB])
   refine ⟨.slc (some (H.length + 2, 0)) 1, [.dead, .mk true 1 [.str v], .mk true 1 [.str v]], by rw [this]; simp, by simp, ?_⟩
   have := fin [.dead, .mk true 1 [.str v], .mk true 1 [.str v]] (H.length + 2) (by omega) (by rw [dw]; rfl)
   simpa using this
 ·have hm : aI ⟨.str, 1, 16, [.str []]⟩ (H ++ [Ob.mk true 1 [], .dead]) (.slc p l.length) = some (l.map V.str, l.length) := by
   simp [aI, hc]
  have hr : (H ++ [Ob.mk true 1 [], .dead])[H.length]? = some (.mk true 1 []) := by simp
  have ha := dM (n := 0) (by rfl) (by decide) (by decide) (by decide) hr (by simp) hm h0 (by simp [aJ]) (by unfold aB; omega)
  refine ⟨.slc (some (H.length + 2, 0)) l.length, [.dead, .dead, .mk true 1 (l.map V.str)], by rw [ha]; simp, rfl, by simp, rfl, rfl, ?_⟩
  have e : [Ob.dead, .dead, .mk true 1 (l.map V.str)].set 1 (.mk true 1 [.str v]) = [.dead, .mk true 1 [.str v], .mk true 1 (l.map V.str)] := rfl
  rw [e]
  have hr2 : (H ++ [Ob.dead, Ob.mk true 1 [.str v], .mk true 1 (l.map V.str)])[H.length + 2]? = some (.mk true 1 (l.map V.str)) := by rw [dw]; rfl
  have hx : aI ⟨.str, 1, 16, [.str []]⟩ (H ++ [Ob.dead, Ob.mk true 1 [.str v], .mk true 1 (l.map V.str)]) (.slc (some (H.length + 1, 0)) 1) = some ([.str v], 1) := by
   simp [aI, aQ, dw, dO]
  have h2 := dM (n := l.length) (by rfl) (by decide) (by decide) (by decide) hr2 (by simp) hx (by decide) (by rfl) (by unfold aB; omega)
  refine ⟨.slc (some (H.length + 3, 0)) (l.length + 1), [.dead, .mk true 1 [.str v], .dead, .mk true 1 ((l ++ [v]).map V.str)], by rw [h2]; simp [iy], by simp, ?_⟩
  have := fin [.dead, .mk true 1 [.str v], .dead, .mk true 1 ((l ++ [v]).map V.str)] (H.length + 3) (by omega) (by rw [dw]; rfl)
  simpa using this
theorem Oo {H : List Ob} {vd va : V} {e : PEntry} {n v : Str} (hd : eu H vd e.dn) (ha : bD H va e.attrs) (hb : pJ e) (hp : e.attrs.Pairwise fun a b => a.name < b.name) (hn : n.length ≤ maxLen) (hv : v.length ≤ maxLen) (hvl : ∀ a ∈ e.attrs, a.vals.length ≤ 500) :
  ∃ q H', callW C 198 [.agg [vd, va], .str n, .str v] H = some (q, H') ∧ EOut H (nI e n v) q H' := by
 suffices hs : Ret C 198 [.agg [vd, va], .str n, .str v] H fun q H' => EOut H (nI e n v) q H' by
  obtain ⟨q, H', hc, hr⟩ := hs
  exact ⟨q, H', hc, hr⟩
 rw [PM]
 have hod := hd.one
 have hoa := ha.one
 obtain ⟨w, c1, hw⟩ := L9 (t := n) ha hod.2 hod.1
 have hwl : (valsOf e.attrs n).length ≤ 500 := by
  unfold valsOf
  split
  ·rename_i a h; exact hvl a (List.mem_of_find?_eq_some h)
  ·simp
 have c2 := kQ (t := v) (H := H)
 obtain ⟨r, c3, hr⟩ := Me (n := norm v) hw
 have c4 := wF (H := H) (c := 7)
 have c5 := wF (H := H) (c := 9)
 rcases hr with ⟨k, x, h1, h2, h3, rfl⟩ | ⟨h1, rfl⟩
 ·have ho : nI e n v = jb 7 := if_pos ⟨x, List.mem_of_getElem? h1, by simpa using h2⟩
  have hk : (0 : Int) ≤ k := by omega
  rw [ho]
  simp [oh, Tryz.f198, c1, c2, c3, c4, hk, hod, hoa]
  exact EOut.ill (by decide)
 have hno : ¬ ∃ x ∈ valsOf e.attrs n, norm x = norm v := by
  rintro ⟨x, hx, he⟩
  obtain ⟨j, hj, rfl⟩ := List.getElem_of_mem hx
  have := h1 j _ (List.getElem?_eq_getElem hj)
  simp [he] at this
 by_cases g : 4 ≤ (valsOf e.attrs n).length ∨ (valsOf e.attrs n = [] ∧ 8 ≤ e.attrs.length)
 ·have ho : nI e n v = jb 9 := by unfold nI; rw [if_neg hno, if_pos g]
  rw [ho]
  by_cases g1 : 4 ≤ (valsOf e.attrs n).length
  ·have g1' : (4 : Int) ≤ (valsOf e.attrs n).length := by omega
   simp [oh, Tryz.f198, c1, c2, c3, c5, hod, hoa, hw.len, g1']
   exact EOut.ill (by decide)
  ·have g1' : ¬ (4 : Int) ≤ (valsOf e.attrs n).length := by omega
   obtain ⟨g2, g3⟩ := g.resolve_left g1
   have g2' : (valsOf e.attrs n).length = 0 := by rw [g2]; rfl
   have g3' : (8 : Int) ≤ e.attrs.length := by omega
   simp [oh, Tryz.f198, c1, c2, c3, c5, hod, hoa, hw.len, g1', g2, g3', ha.len]
   exact EOut.ill (by decide)
 have g1 : ¬ 4 ≤ (valsOf e.attrs n).length := fun h => g (.inl h)
 have g1' : ¬ (4 : Int) ≤ (valsOf e.attrs n).length := by omega
 have ho : nI e n v = ⟨pI e n (bV (valsOf e.attrs n ++ [v])), 0⟩ := by unfold nI; rw [if_neg hno, if_neg g]
 obtain ⟨p1, X1, a1, x0, x1, o1, o1', p2, X2, a2, x2, hv2⟩ := JV (v := v) hw (by omega) hv
 obtain ⟨T, w1, w2, c6, hat, hnl, hen⟩ := Jw (H := H ++ X2) hd.ext ha.ext hb hp hn hv2 (by simp; omega)
 obtain ⟨v1, v2, hcs, b1, b2⟩ := jC.1 hat
 cases hcs
 have ho1 := b1.one
 have ho2 := b2.one
 have hnl' : ¬ dZ H w2 := fun h => hnl (by
  obtain ⟨p, rfl⟩ := b2.shape
  exact qL h)
 have hgc : eU H (H ++ X2 ++ T) (.agg [w1, w2, .int .i64 0]) = H ++ X2 ++ T := by
  rw [List.append_assoc]
  exact gJ fun h => hnl' h.2.1
 rw [ho]
 have fin : EOut H ⟨pI e n (bV (valsOf e.attrs n ++ [v])), 0⟩ (.agg [w1, w2, .int .i64 0]) (H ++ X2 ++ T) := ⟨X2 ++ T, w1, w2, rfl, by simp, by rw [← List.append_assoc]; exact dD.2 ⟨_, _, rfl, b1, b2, show (Lit.int .i64 0).wf = true by decide⟩, by rw [← List.append_assoc]; exact hgc, fun _ => hnl', fun h => absurd rfl h, fun _ => by rw [← List.append_assoc]; exact hen.wide (by simp)⟩
 have hk1 : dP [1] H.length (H ++ [.mk true 1 [], .mk true 1 [.str v]]) = H ++ [.mk true 1 [], .dead] := by rw [lH]; rfl
 have op2 : aJ p2 = true ∧ cellsOf p2 = some [p2] := hv2.one
 simp only [List.append_assoc] at hgc fin c6
 by_cases g2 : valsOf e.attrs n = []
 ·have g3 : ¬ (8 : Int) ≤ e.attrs.length := fun h => g (.inr ⟨g2, by omega⟩)
  have g2' : ((valsOf e.attrs n).length : Int) = 0 := by rw [g2]; rfl
  simp [oh, Tryz.f198, c1, c2, c3, hod, hoa, hw.len, ha.len, g1', g2', g3, ae, af, List.lookup, List.replicate, ay, ax, ah, iy, lZ, hk1, lM, lT, lU, x0, a1, a2, o1, o1', op2, x1, x2, c6, ho1, ho2, aH, ak, hgc]
  exact fin
 ·have g2' : ¬ ((valsOf e.attrs n).length : Int) = 0 := fun h => g2 (List.length_eq_zero_iff.1 (by omega))
  simp [oh, Tryz.f198, c1, c2, c3, hod, hoa, hw.len, ha.len, g1', g2, g2', ae, af, List.lookup, List.replicate, ay, ax, ah, iy, lZ, hk1, lM, lT, lU, x0, a1, a2, o1, o1', op2, x1, x2, c6, ho1, ho2, aH, ak, hgc]
  exact fin
theorem mF {H : List Ob} {vd va : V} {e : PEntry} {n v : Str} (hd : eu H vd e.dn) (ha : bD H va e.attrs) (hn : n.length ≤ maxLen) (hv : v.length ≤ maxLen) :
  ∃ q H', callW C 106 [.agg [vd, va], .str n, .str v] H = some (q, H') ∧ EOut H (cO e n v) q H' := by
 suffices hs : Ret C 106 [.agg [vd, va], .str n, .str v] H fun q H' => EOut H (cO e n v) q H' by
  obtain ⟨q, H', hc, hr⟩ := hs
  exact ⟨q, H', hc, hr⟩
 rw [NP]
 have hod := hd.one
 have hoa := ha.one
 have c0 := Kw (n := n) (v := v) (H := H)
 have c1 := wF (H := H) (c := 2)
 have c2 := wF (H := H) (c := 1)
 have c3 := qw hd ha
 have c4 := rG (t := n) (H := H)
 have c5 := uu (t := v) (H := H)
 by_cases g1 : 8000 < n.length ∨ 8000 < v.length
 ·have ho : cO e n v = jb 2 := if_pos g1
  rw [aj g1] at c0
  rw [ho]
  simp [og, Tryz.f106, c0, c1, hod, hoa]
  exact EOut.ill (by decide)
 rw [ai g1] at c0
 have ho0 : cO e n v = if dec (EntryOk e ∧ aG n ∧ aO v) = true then nI e n v else jb 1 := if_neg g1
 have hill : ¬ (EntryOk e ∧ aG n ∧ aO v) → cO e n v = jb 1 := fun h => by rw [ho0, ai h]; rfl
 by_cases h1 : EntryOk e
 rotate_left
 ·rw [ai h1] at c3
  rw [hill fun h => h1 h.1]
  simp [og, Tryz.f106, c0, c2, c3, hod, hoa]
  exact EOut.ill (by decide)
 rw [aj h1] at c3
 by_cases h2 : aG n
 rotate_left
 ·rw [ai h2] at c4
  rw [hill fun h => h2 h.2.1]
  simp [og, Tryz.f106, c0, c2, c3, c4, hod, hoa]
  exact EOut.ill (by decide)
 rw [aj h2] at c4
 by_cases h3 : aO v
 rotate_left
 ·rw [ai h3] at c5
  rw [hill fun h => h3 h.2.2]
  simp [og, Tryz.f106, c0, c2, c3, c4, c5, hod, hoa]
  exact EOut.ill (by decide)
 rw [aj h3] at c5
 have ho : cO e n v = nI e n v := by rw [ho0, aj ⟨h1, h2, h3⟩]; rfl
 rw [ho]
 obtain ⟨q, H', c6, T, w1, w2, rfl, rfl, hat, hgc, hnl⟩ := Oo (v := v) hd ha (EntryOk.small h1) (EntryOk.rise h1) hn hv (fun a ha => by
  obtain ⟨j, hj, rfl⟩ := List.getElem_of_mem ha
  have := (h1.2.2.1 j _ (List.getElem?_eq_getElem hj)).2.2.2.2
  omega)
 obtain ⟨_, _, hcs, a1, a2, hwf⟩ := dD.1 hat
 cases hcs
 have ho1 := a1.one
 have ho2 := a2.one
 simp [og, Tryz.f106, c0, c3, c4, c5, c6, hod, hoa, ho1, ho2, hgc]
 exact ⟨T, w1, w2, rfl, rfl, hat, hgc, hnl⟩
end Go.Proofs.Try1
end
section
namespace Go.Proofs.Try1
open Go Go.Lite
attribute [-simp] df eP
attribute [local simp] bZ dY bW cZ bY bJ
attribute [local simp low] cu
theorem jT {e : PEntry} {n v : Str} (h : (cO e n v).code = 0) : (cO e n v).entry.dn = e.dn ∧ (cO e n v).entry.attrs.length ≤ 17 ∧ ∀ a ∈ (cO e n v).entry.attrs, a.vals.length ≤ 100 ∧ ∀ s ∈ a.vals, s.length ≤ 200 := by
 unfold cO at h ⊢
 split at h
 ·simp [jb] at h
 ·rename_i g1
  rw [if_neg g1]
  by_cases g0 : EntryOk e ∧ aG n ∧ aO v
  ·rw [aj g0, if_pos rfl] at h ⊢
   have hok : EntryOk e := g0.1
   unfold nI at h ⊢
   split at h
   ·simp [jb] at h
   ·rename_i g3
    rw [if_neg g3]
    split at h
    ·simp [jb] at h
    ·rename_i g4
     rw [if_neg g4]
     refine ⟨rfl, ?_, ?_⟩
     rotate_left
     ·intro a ha
      simp only [pI, bP, List.mem_append, List.mem_filter] at ha
      have hall : ∀ a ∈ e.attrs, a.vals.length ≤ 100 ∧ ∀ s ∈ a.vals, s.length ≤ 200 := fun a ha => by
       obtain ⟨j, hj, rfl⟩ := List.getElem_of_mem ha
       have hv := (hok.2.2.1 j _ (List.getElem?_eq_getElem hj)).2.2
       refine ⟨by have := hv.2.2; omega, fun s hs => ?_⟩
       obtain ⟨k, hk, rfl⟩ := List.getElem_of_mem hs
       have := (hv.1 k _ (List.getElem?_eq_getElem hk)).1.2.1
       omega
      rcases ha with (ha | ha) | ha
      ·exact hall a ha.1
      ·split at ha
       ·cases ha
       ·simp at ha
        subst ha
        refine ⟨?_, fun s hs => ?_⟩
        ·simp only [oC, List.length_append, List.length_singleton]
         have h4 : ¬ 4 ≤ (valsOf e.attrs n).length := fun h => g4 (.inl h)
         omega
        ·rcases List.mem_append.1 ((pX _).mem_iff.1 hs) with h | h
         ·unfold valsOf at h
          split at h
          ·rename_i x hx
           exact (hall x (List.mem_of_find?_eq_some hx)).2 s h
          ·cases h
         ·simp at h
          subst h
          have := g0.2.2.2.1
          omega
      ·exact hall a ha.1
     have h8 := hok.2.2.2
     have f1 := List.length_filter_le (fun a : PAttr => dec (bT a.name n)) e.attrs
     have f2 := List.length_filter_le (fun a : PAttr => dec (bT n a.name)) e.attrs
     simp only [pI, bP, List.length_append]
     split <;> simp <;> omega
  ·rw [ai g0] at h
   simp [jb] at h
theorem vP {G : List Ob} (A : List Ob) {s : Str} {l : List Str} (hl : l.length ≤ 1000) (hb : ∀ s ∈ l, s.length ≤ 100) (hs : s.length ≤ 200) : At (G ++ (A ++ [.mk true 1 (l.map V.str)])) dK [.str s, .slc (some (G.length + A.length, 0)) l.length] (PAttr.u ⟨s, l⟩) := by
 have := ru (G := G ++ A) (T := []) hl hb
 simp at this
 exact jv.2 ⟨_, rfl, by unfold maxLen; simp; omega, this⟩
theorem yg {G : List Ob} (A : List Ob) {s : Str} {l : List Str} (hl : l.length ≤ 1000) (hb : ∀ s ∈ l, s.length ≤ 100) (hs : s.length ≤ 200) : ∀ id, id < G.length → At ((G ++ (A ++ [Ob.mk true 1 (l.map V.str)])).set id .dead) dK [.str s, .slc (some (G.length + A.length, 0)) l.length] (PAttr.u ⟨s, l⟩) := by
 intro id hid
 rw [ku hid]
 have := vP (G := G.set id .dead) A (s := s) hl hb hs
 rwa [List.length_set] at this
theorem yz {b : Nat} {K G : List Ob} {w1 w2 : V} {e : PEntry} (h : EnR b K w1 w2 e) (hb : G.length ≤ b) (h2 : w2 ≠ .slc none 0 ∨ ¬ dZ G w1) : ¬ dZ G (.agg [w1, w2]) := by
 intro hl
 obtain ⟨l1, l2, _⟩ := hl
 rcases h2 with h2 | h2
 ·obtain ⟨_, ⟨rfl, _⟩ | ⟨id, cs, q1, rfl, _⟩⟩ := h
  ·exact h2 rfl
  ·obtain ⟨own, es, cells, hx⟩ := l2
   have := (List.getElem?_eq_some_iff.1 hx).1
   omega
 ·exact h2 l1
def EnQ (id : Nat) (v : V) (G K : List Ob) (w1 w2 : V) (n : Nat) : Prop := Ev id G K ∧ SrcIn K id v ∧ ∃ e, EnR G.length K w1 w2 e ∧ (w2 ≠ .slc none 0 ∨ ¬ dZ G w1) ∧ e.dn.length ≤ 10 ∧ e.attrs.length ≤ n ∧ ∀ a ∈ e.attrs, a.vals.length ≤ 100 ∧ ∀ s ∈ a.vals, s.length ≤ 200
section
variable {id : Nat} {v : V} {G K K' : List Ob} {w1 w2 : V} {n : Nat}
theorem EnQ.gc (h : EnQ id v G K w1 w2 n) : eU G K (.agg [w1, w2]) = K := by
 obtain ⟨_, _, e, h1, h2, _⟩ := h
 exact gJ (yz h1 (Nat.le_refl _) h2)
theorem EnQ.to (h : EnQ id v G K w1 w2 n) (hE : Ev id K K') (hS : SrcIn K' id v) {m : Nat} (hm : n ≤ m) : EnQ id v G K' w1 w2 m := by
 obtain ⟨h1, h2, e, h3, h4, h5, h6, h7⟩ := h
 exact ⟨h1.trans hE, hS, e, h3.ev h2.at hS.at hE, h4, h5, Nat.le_trans h6 hm, h7⟩
theorem EnQ.ones (h : EnQ id v G K w1 w2 n) (hn : n ≤ 1000) : (aJ w1 = true ∧ cellsOf w1 = some [w1]) ∧ (aJ w2 = true ∧ cellsOf w2 = some [w2]) := by
 obtain ⟨h1, h2, e, h3, h4, h5, h6, h7⟩ := h
 exact ⟨h3.1.one, (h3.attrs (by unfold maxLen; omega)).one⟩
def EnX (id : Nat) (v : V) (G K : List Ob) (w1 w2 : V) (n : Nat) : Prop := Ev id G K ∧ SrcIn K id v ∧ ∃ e, EnR G.length K w1 w2 e ∧ (w2 ≠ .slc none 0 ∨ ¬ dZ G w1) ∧ e.dn.length ≤ 10 ∧ e.attrs.length = n ∧ ∀ a ∈ e.attrs, a.vals.length ≤ 100 ∧ ∀ s ∈ a.vals, s.length ≤ 200
theorem EnX.q (h : EnX id v G K w1 w2 n) {m : Nat} (hm : n ≤ m) : EnQ id v G K w1 w2 m := by
 obtain ⟨h1, h2, e, h3, h4, h5, h6, h7⟩ := h
 exact ⟨h1, h2, e, h3, h4, h5, by omega, h7⟩
theorem EnQ.x (h : EnQ id v G K w1 w2 n) : ∃ m, m ≤ n ∧ EnX id v G K w1 w2 m := by
 obtain ⟨h1, h2, e, h3, h4, h5, h6, h7⟩ := h
 exact ⟨_, h6, h1, h2, e, h3, h4, h5, rfl, h7⟩
theorem EnX.to (h : EnX id v G K w1 w2 n) (hE : Ev id K K') (hS : SrcIn K' id v) : EnX id v G K' w1 w2 n := by
 obtain ⟨h1, h2, e, h3, h4, h5, h6, h7⟩ := h
 exact ⟨h1.trans hE, hS, e, h3.ev h2.at hS.at hE, h4, h5, h6, h7⟩
theorem EnX.len (h : EnX id v G K w1 w2 n) (hn : n ≤ 1000) {e s b : Nat} {z : List V} : lenV ⟨.slice e, s, b, z⟩ w2 = some (.int .i64 n) := by
 obtain ⟨h1, h2, e, h3, h4, h5, rfl, _⟩ := h
 exact (h3.attrs (by unfold maxLen; omega)).len
theorem EnX.push {T : List Ob} {c : List V} {d : LD} {z : List V} (hs : SrcIn G id v) (h : EnX id v G K w1 w2 n) {s : Str} {l : List Str} (hc : c.length = 2) (hx : ∀ i, i < K.length → At ((K ++ T).set i .dead) dK c (PAttr.u ⟨s, l⟩)) (hx0 : At (K ++ T) dK c (PAttr.u ⟨s, l⟩)) (hz : z.length = 2) (hn : n ≤ 900) (hll : l.length ≤ 100 ∧ ∀ s ∈ l, s.length ≤ 200) :
  ∃ w' K', aT ⟨d, 2, 40, z⟩ (K ++ (T ++ [.mk true 2 c])) w2 (.slc (some (K.length + T.length, 0)) 1) = some (w', K') ∧ EnX id v G K' w1 w' (n + 1) ∧ (aJ w' = true ∧ cellsOf w' = some [w']) ∧ K.length + T.length + 1 ≤ K'.length := by
 obtain ⟨h1, h2, e, h3, h4, h5, h6, h7⟩ := h
 have hid := hs.lt
 obtain ⟨w', K', p1, p2, p3, p4, p5⟩ := EnR.push (x := ⟨s, l⟩) (c := c) (d := d) (z := z) h3 h1.1 hc hx hx0 hz (by omega)
 have hE : Ev id G K' := ⟨Nat.le_trans h1.1 p3, fun q hq hql => by rw [p4 q hql, h1.2 q hq hql]⟩
 have hS : SrcIn K' id v := SrcIn.of hs h2 hE (p4 id hid)
 rw [List.append_assoc, List.length_append] at p1
 have hq : EnX id v G K' w1 w' (n + 1) := ⟨hE, hS, ⟨e.dn, e.attrs ++ [⟨s, l⟩]⟩, p2, .inl ?_, h5, by simp; omega, fun a ha => by
  rcases List.mem_append.1 ha with ha | ha
  ·exact h7 a ha
  ·simp at ha; subst ha; exact hll⟩
 ·exact ⟨w', K', p1, hq, ((hq.q (Nat.le_refl _)).ones (by omega)).2, by have := A8 p1; simp at this; omega⟩
 ·rintro rfl
  obtain ⟨_, ⟨_, h⟩ | ⟨i, cs, _, h, _⟩⟩ := p2
  ·simp at h
  ·cases h
theorem EnQ.push {T : List Ob} {c : List V} {d : LD} {z : List V} (hs : SrcIn G id v) (h : EnQ id v G K w1 w2 n) {s : Str} {l : List Str} (hc : c.length = 2) (hx : ∀ i, i < K.length → At ((K ++ T).set i .dead) dK c (PAttr.u ⟨s, l⟩)) (hx0 : At (K ++ T) dK c (PAttr.u ⟨s, l⟩)) (hz : z.length = 2) (hn : n ≤ 900) (hll : l.length ≤ 100 ∧ ∀ s ∈ l, s.length ≤ 200) :
  ∃ w' K', aT ⟨d, 2, 40, z⟩ (K ++ (T ++ [.mk true 2 c])) w2 (.slc (some (K.length + T.length, 0)) 1) = some (w', K') ∧ EnQ id v G K' w1 w' (n + 1) ∧ (aJ w' = true ∧ cellsOf w' = some [w']) ∧ K.length + T.length + 1 ≤ K'.length := by
 obtain ⟨m, hm, hx'⟩ := h.x
 obtain ⟨w', K', p1, p2, p3⟩ := EnX.push (d := d) (z := z) hs hx' hc hx hx0 hz (by omega) hll
 exact ⟨w', K', p1, p2.q (by omega), p3⟩
theorem EnQ.setDn (h : EnQ id v G K w1 w2 n) {u : V} {dn : List PRdn} (hE : Ev id K K') (hS : SrcIn K' id v) (hr : RowF K.length K' 2 u dn.length (fF dn)) (hl : dn.length ≤ 10) (hb : ∀ r ∈ dn, r.attr.length ≤ 100 ∧ r.value.length ≤ 100) : EnQ id v G K' u w2 n := by
 obtain ⟨h1, h2, e, h3, h4, h5, h6, h7⟩ := h
 have h3' := h3.ev h2.at hS.at hE
 obtain ⟨i0, q1, q2, q3, q4⟩ := hr
 have hK := h1.1
 have hnl : ¬ dZ G u := by
  rw [q2]
  rintro ⟨own, es, cells, h⟩
  have := (List.getElem?_eq_some_iff.1 h).1
  omega
 refine ⟨h1.trans hE, hS, ⟨dn, e.attrs⟩, ⟨qm ⟨i0, q1, q2, q3, q4⟩ (by show dn.length ≤ 1000; omega) hb, ?_⟩, .inr hnl, hl, h6, h7⟩
 obtain ⟨_, h7 | ⟨i, cs, f1, f2, f3, f4, f5, f6⟩⟩ := h3'
 ·exact .inl h7
 ·have hiK : i < K.length := by
   obtain ⟨_, ⟨k1, k2⟩ | ⟨i', cs', k1, k2, k3, _⟩⟩ := h3
   ·rw [k1] at f2; cases f2
   ·rw [k2] at f2
    injection f2 with f2 _
    injection f2 with f2
    injection f2 with f2 _
    rw [← f2]
    exact (List.getElem?_eq_some_iff.1 k3).1
  refine .inr ⟨i, cs, f1, f2, f3, f4, qm ⟨i0, q1, q2, by rw [List.getElem?_set_ne (by omega)]; exact q3, q4⟩ (by show dn.length ≤ 1000; omega) hb, f6⟩
end
theorem yL {id : Nat} {v : V} {G : List Ob} (hs : SrcIn G id v) : ∃ w1 w2 G', callW C 77 [.ptr (some (id, 0))] G = some (.agg [w1, w2], G') ∧ EnQ id v G G' w1 w2 40 := by
 suffices hg : Ret C 77 [.ptr (some (id, 0))] G fun q G' => ∃ w1 w2, q = .agg [w1, w2] ∧ EnQ id v G G' w1 w2 40 by
  obtain ⟨q, G', hc, w1, w2, rfl, hr⟩ := hg
  exact ⟨w1, w2, G', hc, hr⟩
 rw [Uu]
 have hid := hs.lt
 obtain ⟨_, K1, c1, l1, e1, s1, nm, rfl, hnm, _⟩ := gq (S := []) hs [[97, 110, 110], [98, 111, 98], [99, 97, 116]] (by decide) (by decide) (by decide)
 have f1 := Ev.app.trans (e1.appS (S := [Ob.mk true 1 [.str [97, 110, 110], .str [98, 111, 98], .str [99, 97, 116]]]) l1)
 obtain ⟨_, K2, c2, l2, e2, s2, n, rfl, hn, _⟩ := LH (S := []) (G := K1 ++ [.mk true 1 [.str [97, 110, 110], .str [98, 111, 98], .str [99, 97, 116]], .mk true 2 [.str [99, 110], .str nm, .str [100, 99], .str [120]]]) s1.app (most := 6) (by decide)
 have f2 : Ev id G K2 := (f1.trans (Ev.app (T := [.mk true 2 [.str [99, 110], .str nm, .str [100, 99], .str [120]]]))).trans (by simpa using e2)
 have hn6 : n < 6 := by have := hn (by decide); omega
 have hrow : RowF G.length (K1 ++ [.mk true 1 [.str [97, 110, 110], .str [98, 111, 98], .str [99, 97, 116]], .mk true 2 [.str [99, 110], .str nm, .str [100, 99], .str [120]]]) 2 (.slc (some (K1.length + 1, 0)) 2) 2 (fF [⟨[99, 110], nm⟩, ⟨[100, 99], [120]⟩]) := ⟨K1.length + 1, by omega, rfl, by simp only [dw]; rfl, rfl⟩
 have hrow2 := hrow.ev e2 hid
 have hd2 : eu K2 (.slc (some (K1.length + 1, 0)) 2) [⟨[99, 110], nm⟩, ⟨[100, 99], [120]⟩] := qm hrow2 (by simp) (by simp; exact hnm)
 have hq2 : EnQ id v G K2 (.slc (some (K1.length + 1, 0)) 2) (.slc none 0) 17 := ⟨f2, s2, ⟨[⟨[99, 110], nm⟩, ⟨[100, 99], [120]⟩], []⟩, EnR.nil hd2, .inr (hrow2.notlow (Nat.le_refl _)), by simp, by simp, by simp⟩
 simp at c1 c2
 simp [Jd, Tryz.f77, ay, ax, ah, St.new, aH, ak, c1, c2]
 refine aA (fun k σ => ∃ (r : Nat → R) (K : List Ob) (n : Nat) (w1 w2 : V), σ = ⟨r, n, K⟩ ∧ r 0 = .val (.ptr (some (id, 0))) ∧ r 2 = .box 0 [.slc none 0, .slc none 0] ∧ r 3 = .box 1 [w1, w2] ∧ r 4 = .val (.int .i64 k) ∧ k ≤ 6 ∧ EnQ id v G K w1 w2 17) ?_ n _ ⟨_, K2, _, _, _, rfl, by simp, by simp, by simp, by simp, by omega, hq2⟩
 clear hq2 hd2 hrow2 hrow hn6 f2 c1 c2 e2 s2 f1 e1 s1 l1 l2 hn
 rintro k σ ⟨r, K, n, w1, w2, rfl, r0, r2, r3, r4, hk6, hq⟩
 obtain ⟨hp1, hp2⟩ := hq.ones (by omega)
 cases k with
 | zero =>
  obtain ⟨_, K2, c2, l2, e2, s2, t, rfl⟩ := nN (S := []) hq.2.1 (most := 20) (by decide)
  simp at c2
  have hq2 := hq.to e2 s2 (m := 17) (by omega)
  clear hq
  cases t with
  | false =>
   simp [r0, r2, r3, r4, ae, af, List.lookup, c2, hp1, hp2, hq2.gc]
   exact ⟨_, _, ⟨rfl, rfl⟩, hq2.to .refl hq2.2.1 (by omega)⟩
  | true =>
  obtain ⟨_, K3, c3, l3, e3, s3, m, rfl, _, _⟩ := LH (S := []) hq2.2.1 (most := 4) (by decide)
  simp at c3
  have hq3 := hq2.to e3 s3 (m := 17) (by omega)
  clear hq2 e2 s2 l2 e3 s3 l3
  simp [r0, r2, r3, r4, ae, af, List.lookup, c2, c3]
  clear c2 c3
  by_cases g0 : m = 0
  ·subst g0
   obtain ⟨u, K4, c4, e4, s4, dn, hr, hdl, hdb⟩ := LV hq3.2.1
   have hq4 := hq3.setDn e4 s4 hr hdl hdb
   obtain ⟨hp3, _⟩ := hq4.ones (by omega)
   simp [r0, r2, r3, r4, ae, af, List.lookup, c4, hp1, hp2, hp3, hq4.gc]
   exact ⟨_, _, ⟨rfl, rfl⟩, hq4.to .refl hq4.2.1 (by omega)⟩
  have g0' : ¬ (m : Int) = 0 := by omega
  by_cases g1 : m = 1
  ·subst g1
   obtain ⟨_, K4, c4, l4, e4, s4, nm, rfl, hnm, _⟩ := gq (S := [.dead]) hq3.2.1 [[97], [122, 122]] (by decide) (by decide) (by decide)
   have hq4 := hq3.to e4 s4 (m := 17) (by omega)
   have y1 := vP (G := K4) [.mk true 1 [.str [97], .str [122, 122]]] (s := nm) (l := [[98], [97]]) (by decide) (by decide) (by omega)
   have y2 := yg (G := K4) [.mk true 1 [.str [97], .str [122, 122]]] (s := nm) (l := [[98], [97]]) (by decide) (by decide) (by omega)
   obtain ⟨w', K5, c5, hq5, hp4, hlK⟩ := EnQ.push (d := .struct [(0, 9), (1, 27)]) (z := [.str [], .slc none 0]) hs hq4 (by rfl) y2 y1 rfl (by omega) (by simp)
   have k1 : dP [1] K3.length (K3 ++ [Ob.mk true 1 [.str [97], .str [122, 122]], .mk true 1 [.str [98], .str [97]]]) = K3 ++ [Ob.mk true 1 [.str [97], .str [122, 122]], .dead] := by rw [lH]; rfl
   have k2 : fK [1] K3.length (K3 ++ [Ob.mk true 1 [.str [97], .str [122, 122]], .mk true 1 [.str [98], .str [97]]]) (K4 ++ [Ob.mk true 1 [.str [97], .str [122, 122]], .dead]) = K4 ++ [Ob.mk true 1 [.str [97], .str [122, 122]], .mk true 1 [.str [98], .str [97]]] := by rw [wG l4]; rfl
   simp at c4 c5
   rw [l4] at c5
   have hlK' : K3.length + 3 ≤ K5.length := by simp at hlK; omega
   simp [hlK', r0, r2, r3, r4, ae, af, List.lookup, List.replicate, g0', c4, c5, l4, hp1, hp2, hp4, hq5.gc, ay, ax, ah, St.new, aH, ak, lM, lT, iy, lZ, o9, k1, k2]
   exact ⟨_, _, ⟨rfl, rfl⟩, hq5.to .refl hq5.2.1 (by omega)⟩
  have g1' : ¬ (m : Int) = 1 := by omega
  by_cases g2 : m = 2
  ·subst g2
   obtain ⟨nn, hnn, hx⟩ := hq3.x
   clear hq3 r4
   simp [r0, r2, r3, ae, af, List.lookup, g0', g1']
   refine aA (fun k σ => ∃ (i nn : Nat) (r : Nat → R) (K : List Ob) (n : Nat) (w1 w2 : V), σ = ⟨r, n, K⟩ ∧ r 0 = .val (.ptr (some (id, 0))) ∧ r 2 = .box 0 [.slc none 0, .slc none 0] ∧ r 3 = .box 1 [w1, w2] ∧ r 6 = .val (.int .i64 i) ∧ (nn + k = 20 ∧ i ≤ nn) ∧ EnX id v G K w1 w2 nn) ?_ (20 - nn) _ ⟨0, nn, _, K3, _, w1, w2, rfl, by simp [r0], by simp [r2], by simp [r3], by simp, by omega, hx⟩
   clear hx r0 r2 r3 r hp1 hp2
   rintro k σ ⟨i, nn, r, K, n, w1, w2, rfl, r0, r2, r3, r6, ⟨hk, hin⟩, hq⟩
   obtain ⟨_, K2, c2, l2, e2, s2, m, rfl, hm, _⟩ := LH (S := []) hq.2.1 (most := 3) (by decide)
   have hm3 : m < 3 := by have := hm (by decide); omega
   simp at c2
   have hq2 := hq.to e2 s2
   obtain ⟨hp1, hp2⟩ := (hq2.q (Nat.le_refl _)).ones (by omega)
   have hwr : IntKind.i64.wrap (7 + (m : Int)) = 7 + m := wrap_i64 (by omega) (by omega)
   have hln := fun {e s b : Nat} {z : List V} => hq.len (by omega) (e := e) (s := s) (b := b) (z := z)
   by_cases g : (nn : Int) < 7 + m
   ·cases k with
    | zero => omega
    | succ k =>
     have hi10 : i < 10 := by omega
     obtain ⟨ds, c3, hds⟩ := Pm (H := K2 ++ [.dead]) hi10
     have y1 := vP (G := K2) [] (s := [122] ++ ds) (l := [[97]]) (by decide) (by decide) (by simp; omega)
     have y2 := yg (G := K2) [] (s := [122] ++ ds) (l := [[97]]) (by decide) (by decide) (by simp; omega)
     obtain ⟨w', K5, c5, hq5, hp4, hlK⟩ := EnX.push (d := .struct [(0, 9), (1, 27)]) (z := [.str [], .slc none 0]) hs hq2 (by rfl) y2 y1 rfl (by omega) (by simp)
     have k1 : dP [0] K2.length (K2 ++ [Ob.mk true 1 [.str [97]]]) = K2 ++ [.dead] := by rw [lH]; rfl
     have k2 : fK [0] K2.length (K2 ++ [Ob.mk true 1 [.str [97]]]) (K2 ++ [.dead]) = K2 ++ [Ob.mk true 1 [.str [97]]] := by rw [lU]; rfl
     have hms : ds.length + 1 ≤ maxStr := by unfold maxStr; omega
     have hwi : IntKind.i64.wrap ((i : Int) + 1) = (i : Int) + 1 := wrap_i64 (by omega) (by omega)
     have hlK' : K2.length + 2 ≤ K5.length := by simp at hlK; omega
     have hms' : 1 + ds.length ≤ maxStr := by omega
     simp at c5
     simp [hlK', r0, r2, r3, r6, ae, af, List.lookup, List.replicate, c2, c3, c5, hp1, hp2, hp4, hln, hwr, hwi, g, hms, hms', ay, ax, ah, St.new, aH, ak, lM, lT, iy, lZ, o9, k1, k2]
     exact ⟨k, by omega, i + 1, nn + 1, _, _, ⟨rfl, rfl⟩, by simp [r0], by simp [r2], _, _, by simp, by simp, by omega, hq5⟩
   ·simp [r0, r2, r3, r6, ae, af, List.lookup, c2, hp1, hp2, hln, hwr, g, (hq2.q (Nat.le_refl _)).gc]
    exact ⟨_, _, ⟨rfl, rfl⟩, hq2.q (by omega)⟩
  have g2' : ¬ (m : Int) = 2 := by omega
  have y1 : At (K3 ++ []) dK [.str [122, 122], .slc none 0] (PAttr.u ⟨[122, 122], []⟩) := jv.2 ⟨_, rfl, by unfold maxLen; simp, aC.2 ⟨_, _, rfl, rfl, by simp, .inl ⟨rfl, rfl⟩⟩⟩
  have y2 : ∀ i, i < K3.length → At ((K3 ++ []).set i .dead) dK [.str [122, 122], .slc none 0] (PAttr.u ⟨[122, 122], []⟩) := fun i _ => jv.2 ⟨_, rfl, by unfold maxLen; simp, aC.2 ⟨_, _, rfl, rfl, by simp, .inl ⟨rfl, rfl⟩⟩⟩
  obtain ⟨w', K5, c5, hq5, hp4, hlK⟩ := EnQ.push (d := .struct [(0, 9), (1, 27)]) (z := [.str [], .slc none 0]) hs hq3 (by rfl) y2 y1 rfl (by omega) (by simp)
  simp at c5
  simp [r0, r2, r3, r4, ae, af, List.lookup, List.replicate, g0', g1', g2', g0, g1, g2, c5, hp1, hp2, hp4, hq5.gc, ay, ax, ah, St.new, aH, ak]
  exact ⟨_, _, ⟨rfl, rfl⟩, hq5.to .refl hq5.2.1 (by omega)⟩
 | succ k =>
  have hk0 : (0 : Int) < (k : Int) + 1 := by omega
  have hw1 : IntKind.i64.wrap ((k : Int) + 1 - 1) = k := by rw [wrap_i64 (by omega) (by omega)]; omega
  have hwk : IntKind.i64.wrap (k : Int) = k := by rw [wrap_i64 (by omega) (by omega)]
  obtain ⟨_, K2, c2, e2, s2, nm, rfl, hnm⟩ := IW hq.2.1
  obtain ⟨_, K3, c3, e3, s3, vl, rfl, hvl⟩ := rY s2
  have hq3 := hq.to (e2.trans e3) s3 (m := 17) (by omega)
  obtain ⟨h1, h2, e, h3, h4, h5, h6, h7⟩ := hq3
  obtain ⟨q, H', c4, T, u1, u2, rfl, rfl, hat, hgc, hnl2, hill, hen4⟩ := mF h3.1 (h3.attrs (by unfold maxLen; omega)) (n := nm) (v := vl) (by unfold maxLen; omega) (by unfold maxLen; omega)
  obtain ⟨_, _, hcs, a1, a2, hwf⟩ := dD.1 hat
  cases hcs
  have ho1 := a1.one
  have ho2 := a2.one
  by_cases g : (cO e nm vl).code = 0
  ·have hlen := jT g
   have hq4 : EnQ id v G (K3 ++ T) u1 u2 17 := ⟨h1.trans .app, h2.app, _, (hen4 g).wide h1.1, .inl fun h => hnl2 g (by rw [h]; trivial), by rw [hlen.1]; exact h5, hlen.2.1, hlen.2.2⟩
   simp [r0, r2, r3, r4, ae, af, List.lookup, c2, c3, c4, hk0, hw1, hwk, g, ho1, ho2, hp1, hp2]
   exact ⟨k, by omega, _, _, ⟨rfl, rfl⟩, by simp [r0], by simp [r2], _, _, by simp, by simp, by omega, hq4⟩
  ·have hT := hill g
   obtain ⟨rfl, rfl, rfl⟩ := hT
   have hq4 : EnQ id v G K3 w1 w2 17 := ⟨h1, h2, e, h3, h4, h5, h6, h7⟩
   simp [r0, r2, r3, r4, ae, af, List.lookup, c2, c3, c4, hk0, hw1, hwk, g, ho1, ho2, hp1, hp2]
   exact ⟨k, by omega, _, _, ⟨rfl, rfl⟩, by simp [r0], by simp [r2], _, _, by simp [r3], by simp, by omega, hq4⟩
end Go.Proofs.Try1
end
