/- Part 15 of the proof of a law: the interpreter, its soundness, and what functions of the program compute over it. Conditions: none but those that each theorem names. -/
import Derived.Test.YtipjjjlomghdfaaGreatDoorS14
import Derived.Test.YtipjjjlomghdfaaGreatDoorS12
import Derived.Test.YtipjjjlomghdfaaGreatDoorS10
import Derived.Test.YtipjjjlomghdfaaGreatDoorS13
import Derived.Test.YtipjjjlomghdfaaGreatDoorS08
import Derived.Sort.AssemblyPlain
import Derived.Test.YtipjjjlomghdfaaGreatDoorS07
import Derived.Test.YtipjjjlomghdfaaGreatDoorS09
import Derived.Test.YtipjjjlomghdfaaGreatDoorS11
import Derived.Test.YtipjjjlomghdfaaGreatDoorS06

set_option linter.all false
set_option maxRecDepth 20000
set_option maxHeartbeats 40000000
section
namespace Go.Proofs.Try1
open Go Go.Lite
attribute [-simp] WP_region WP_cond
attribute [local simp] WP_regionF WP_condF ThenW_some ThenW_none CondW_true CondW_false
attribute [local simp low] CondW_bool
theorem mem_push {a x : Int} {xs : List Int} {t : Int → Int} : dec (a ∈ (xs ++ [x]).map t) = (dec (a ∈ xs.map t) || decide (t x = a)) := by
 by_cases h : a ∈ xs.map t
 ·have : a ∈ (xs ++ [x]).map t := by rw [List.map_append]; exact List.mem_append_left _ h
  rw [dec_pos this, dec_pos h]
  rfl
 ·rw [dec_neg h, Bool.false_or]
  by_cases e : t x = a
  ·have : a ∈ (xs ++ [x]).map t := by rw [List.map_append]; exact List.mem_append_right _ (by simp [e])
   rw [dec_pos this]
   simp [e]
  ·have : ¬ a ∈ (xs ++ [x]).map t := by
    rw [List.map_append, List.mem_append]
    rintro (h1 | h1)
    ·exact h h1
    ·simp at h1; exact e h1.symm
   rw [dec_neg this]
   simp [e]
theorem mV {n : PNode} (h : NodeOk n) (hn : ¬ n.Inner) : n.op = 4 ∨ n.op = 5 ∨ n.op = 6 ∨ n.op = 7 ∨ n.op = 8 := by
 rcases h with ⟨a, _⟩ | ⟨a, _⟩ | ⟨a, _⟩
 ·exact absurd a hn
 ·omega
 ·omega
theorem lH {g : Nat → Option (Int × Nat)} (hg : ∀ i q, g i = some q → Tri q.1) : ∀ k i xs q, dF g k i xs = some q → (∀ x ∈ xs, Tri x) → (∀ x ∈ q.1, Tri x) ∧ q.1.length = xs.length + k
 | 0, i, xs, q, h, hx => by cases h; exact ⟨hx, rfl⟩
 | k + 1, i, xs, q, h, hx => by
  unfold dF at h
  cases hq : g i with
  | none => rw [hq] at h; cases h
  | some r =>
   rw [hq] at h
   obtain ⟨h1, h2⟩ := lH hg k r.2 (xs ++ [r.1]) q h (by
    intro x hm
    rcases List.mem_append.1 hm with hm | hm
    ·exact hx x hm
    ·simp at hm; subst hm; exact hg _ _ hq)
   exact ⟨h1, by rw [h2]; simp; omega⟩
theorem tC {f : List PNode} {az : List PAttr} {known : List Str} : ∀ d i q, iZ f az known d i = some q → Tri q.1
 | 0, i, q, h => by cases h
 | d + 1, i, q, h => by
  unfold iZ at h
  cases hn : f[i]? with
  | none => rw [hn] at h; cases h
  | some n =>
   rw [hn] at h
   simp only at h
   split at h
   ·split at h
    ·cases hr : dF (iZ f az known d) n.many.toNat (i + 1) [] with
     | none => rw [hr] at h; cases h
     | some r =>
      rw [hr] at h
      cases h
      exact pg (lH (fun i q h => tC d i q h) _ _ _ _ hr (by simp)).1
    ·cases h
     exact pI
   ·cases h
theorem zh {H : List Ob} {v vk v1 v2 : V} {f : List PNode} {az : List PAttr} {known : List Str} (h : ANodes H v f) (hl : f.length ≤ 100) (ha : AAttrs H v2 az) (hk : AStrs H vk known) (ho : cellsOf v1 = some [v1]) (ho' : isOne v1 = true) :
  ∀ d (i : Nat) q, iZ f az known d i = some q → callW C 222 [v, .int .i64 i, .agg [v1, v2], vk] H = some (.tup [.int .i64 q.1, .int .i64 q.2], H)
 | 0, i, q, hq => by cases hq
 | d + 1, i, q, hq => by
  suffices hs : Ret C 222 [v, .int .i64 i, .agg [v1, v2], vk] H fun r H' => r = .tup [.int .i64 q.1, .int .i64 q.2] ∧ H' = H by
   obtain ⟨r, H', hc, rfl, rfl⟩ := hs
   exact hc
  rw [I5]
  have ho2 := ha.one
  unfold iZ at hq
  cases hx : f[i]? with
  | none => rw [hx] at hq; cases hq
  | some x =>
  rw [hx] at hq
  simp only at hq
  by_cases hok : NodeOk x
  rotate_left
  ·rw [dec_neg hok] at hq; cases hq
  simp only [dec_pos hok, if_true] at hq
  have hi : i < f.length := (List.getElem?_eq_some_iff.1 hx).1
  have hw : IntKind.i64.wrap ((i : Int) + 1) = ((i : Int) + 1) := wrap_i64 (by omega) (by omega)
  obtain ⟨id, o, e1, l0, l1, _, _, _, w4⟩ := nodes_idx h hx
  have l1' := l1 []
  simp only [List.append_nil] at l1'
  have c1 := uJ (n := x) (H := H)
  by_cases hin : x.Inner
  rotate_left
  ·rw [dec_neg hin] at hq c1
   simp only [Bool.false_eq_true, if_false] at hq
   cases hq
   have c2 := fQ (t := x.attr) hk
   unfold fH
   by_cases g : x.attr ∈ known
   ·rw [dec_pos g] at c2 ⊢
    have c3 := Et ha ho ho' (mV hok hin)
    have c4 := BI (b := dec (jc x az)) (H := H)
    simp [jX, Tryz.f222, fillL, zerosL, buildV, structPlace, e1, l1', c1, c2, c3, c4, hw, ho, ho', ho2]
   ·rw [dec_neg g] at c2 ⊢
    simp [jX, Tryz.f222, fillL, zerosL, buildV, structPlace, e1, l1', c1, c2, hw, ho, ho', ho2]
  rw [dec_pos hin] at hq c1
  simp only [if_true] at hq
  have hm := hok.many_le
  obtain ⟨mm, hmm⟩ : ∃ mm, mm = x.many.toNat := ⟨_, rfl⟩
  have hmn : x.many = (mm : Int) := by omega
  rw [← hmm] at hq
  cases her : dF (iZ f az known d) mm (i + 1) [] with
  | none => rw [her] at hq; cases hq
  | some p =>
  rw [her] at hq
  cases hq
  have hinv : ∀ xs, dF (iZ f az known d) mm (i + 1) [] = some (xs, p.2) → (∀ x ∈ xs, Tri x) ∧ xs.length = mm := by
   intro xs hxs
   have := lH (fun i q h => tC d i q h) mm (i + 1) [] (xs, p.2) hxs (by simp)
   simpa using this
  simp [jX, Tryz.f222, fillL, zerosL, buildV, structPlace, e1, l1', c1, hw, ho, ho', ho2]
  refine WP_loop (fun k σ => ∃ (j : Nat) (xs : List Int) (r : Nat → R), σ = ⟨r, 2, H⟩ ∧ r 0 = .val v ∧ r 1 = .val (.int .i64 j) ∧ r 3 = .val vk ∧ r 6 = .box 0 [v1, v2] ∧ r 10 = .box 1 x.cs ∧ r 11 = .val (.bool (dec (0 ∈ xs.map (iW x.op)))) ∧ r 12 = .val (.bool (dec (2 ∈ xs.map (iW x.op)))) ∧ r 13 = .val (.int .i64 k) ∧ k ≤ mm ∧ dF (iZ f az known d) k j xs = some p) ?_ mm _ ⟨i + 1, [], _, rfl, by simp, by simp, by simp, by simp, by simp, by simp [dec_neg], by simp [dec_neg], by simp [hmn], Nat.le_refl _, her⟩
  rintro k σ ⟨j, xs, r, rfl, r0, r1, r3, r6, r10, r11, r12, r13, hkm, hp⟩
  cases k with
  | zero =>
   simp only [dF] at hp
   cases hp
   obtain ⟨hys, hlen⟩ : (∀ x ∈ xs, Tri x) ∧ xs.length = mm := hinv _ her
   have hout : jh x.op xs = BX x.op xs := (xE hin hys (fun h => by rw [hlen]; rcases hok with ⟨_, _, _, _, _, a⟩ | ⟨a, _⟩ | ⟨a, _⟩ <;> omega)).symm
   rw [hout]
   unfold BX
   have c5 := fun n => Eg (n := n) (H := H)
   by_cases g0 : (0 : Int) ∈ xs.map (iW x.op)
   ·rw [dec_pos g0] at r11
    by_cases o2 : x.op = 2
    ·rw [o2] at g0
     simp [r0, r1, r3, r6, r10, r11, r12, r13, g0, o2, c5]
    ·simp [r0, r1, r3, r6, r10, r11, r12, r13, g0, o2]
   ·rw [dec_neg g0] at r11
    by_cases g2 : (2 : Int) ∈ xs.map (iW x.op)
    ·rw [dec_pos g2] at r12
     by_cases o2 : x.op = 2
     ·have g0' := g0
      have g2' := g2
      rw [o2] at g0' g2'
      simp [r0, r1, r3, r6, r10, r11, r12, r13, g0, g2, o2, c5]
      rw [if_neg (by simpa using g0'), if_pos (by simpa using g2')]
     ·simp [r0, r1, r3, r6, r10, r11, r12, r13, g0, g2, o2]
    ·rw [dec_neg g2] at r12
     by_cases o2 : x.op = 2
     ·have g0' := g0
      have g2' := g2
      rw [o2] at g0' g2'
      simp [r0, r1, r3, r6, r10, r11, r12, r13, g0, g2, o2, c5]
      rw [if_neg (by simpa using g0'), if_neg (by simpa using g2')]
     ·simp [r0, r1, r3, r6, r10, r11, r12, r13, g0, g2, o2]
  | succ k =>
   cases hsub : iZ f az known d j with
   | none => simp only [dF, hsub] at hp; cases hp
   | some q2 =>
   simp only [dF, hsub] at hp
   have c2 := zh h hl ha hk ho ho' d j q2 hsub
   have c5 := fun n => Eg (n := n) (H := H)
   have hw2 : IntKind.i64.wrap ((k : Int) + 1 - 1) = (k : Int) := by rw [wrap_i64 (by omega) (by omega)]; omega
   have h0 : (0 : Int) < (k : Int) + 1 := by omega
   have m0 := mem_push (a := 0) (x := q2.1) (xs := xs) (t := iW x.op)
   have m2 := mem_push (a := 2) (x := q2.1) (xs := xs) (t := iW x.op)
   obtain ⟨b0, hb0⟩ : ∃ b, b = dec (0 ∈ xs.map (iW x.op)) := ⟨_, rfl⟩
   obtain ⟨b2, hb2⟩ : ∃ b, b = dec (2 ∈ xs.map (iW x.op)) := ⟨_, rfl⟩
   obtain ⟨n0, hn0⟩ : ∃ b, b = dec (0 ∈ (xs ++ [q2.1]).map (iW x.op)) := ⟨_, rfl⟩
   obtain ⟨n2, hn2⟩ : ∃ b, b = dec (2 ∈ (xs ++ [q2.1]).map (iW x.op)) := ⟨_, rfl⟩
   rw [← hb0] at r11 m0
   rw [← hb2] at r12 m2
   rw [← hn0] at m0
   rw [← hn2] at m2
   by_cases o1 : x.op = 1
   ·have ht : iW x.op q2.1 = q2.1 := by simp [iW, o1]
    rw [ht] at m0 m2
    have e0 : dec (∃ a, a ∈ xs ++ [q2.1] ∧ iW 1 a = 0) = n0 := by rw [hn0, o1]; exact dec_iff (by rw [List.mem_map])
    have e2 : dec (∃ a, a ∈ xs ++ [q2.1] ∧ iW 1 a = 2) = n2 := by rw [hn2, o1]; exact dec_iff (by rw [List.mem_map])
    cases b0 <;> cases b2 <;> simp [r0, r1, r3, r6, r10, r11, r12, r13, h0, hw2, c2, o1]
    all_goals exact ⟨k, by omega, q2.2, rfl, xs ++ [q2.1], by rw [e0, m0]; simp, by rw [e2, m2]; simp, by rw [wrap_i64 (by omega) (by omega)], by omega, hp⟩
   ·have ht : iW x.op q2.1 = dE q2.1 := by simp [iW, o1]
    rw [ht] at m0 m2
    have e0 : dec (∃ a, a ∈ xs ++ [q2.1] ∧ iW x.op a = 0) = n0 := by rw [hn0]; exact dec_iff (by rw [List.mem_map])
    have e2 : dec (∃ a, a ∈ xs ++ [q2.1] ∧ iW x.op a = 2) = n2 := by rw [hn2]; exact dec_iff (by rw [List.mem_map])
    cases b0 <;> cases b2 <;> simp [r0, r1, r3, r6, r10, r11, r12, r13, h0, hw2, c2, c5, o1]
    all_goals exact ⟨k, by omega, q2.2, rfl, xs ++ [q2.1], by rw [e0, m0]; simp, by rw [e2, m2]; simp, by rw [wrap_i64 (by omega) (by omega)], by omega, hp⟩
def ints (xs : List Int) : List V := xs.map fun x => .int .i64 x
theorem qi {xs : List Int} : (ints xs).length = xs.length := by simp [ints]
theorem yB {xs : List Int} {i : Nat} {x : Int} (h : xs[i]? = some x) : (ints xs)[i]? = some (.int .i64 x) := by simp [ints, h]
theorem qo {H : List Ob} {id : Nat} {own : Bool} {xs : List Int} {t : Int} (h : H[id]? = some (.mk own 1 (ints xs))) (hb : xs.length ≤ 1000000) : callW C 301 [.slc (some (id, 0)) xs.length, .int .i64 t] H = some (.bool (dec (t ∈ xs)), H) := by
 have hi : ∃ r : Int, callW C 329 [.slc (some (id, 0)) xs.length, .int .i64 t] H = some (.int .i64 r, H) ∧ (0 ≤ r ↔ t ∈ xs) := by
  suffices hs : Ret C 329 [.slc (some (id, 0)) xs.length, .int .i64 t] H fun q H' => (∃ r : Int, q = .int .i64 r ∧ (0 ≤ r ↔ t ∈ xs)) ∧ H' = H by
   obtain ⟨q, H', hc, ⟨r, rfl, hr⟩, rfl⟩ := hs
   exact ⟨r, hc, hr⟩
  rw [KC]
  simp [sH, Tryz.f329]
  refine WP_loop (fun k σ => ∃ (i : Nat) (r : Nat → R), i + k = xs.length ∧ σ = ⟨r, 0, H⟩ ∧ r 0 = .val (.slc (some (id, 0)) xs.length) ∧ r 1 = .val (.int .i64 t) ∧ r 7 = .val (.int .i64 xs.length) ∧ r 8 = .val (.int .i64 i) ∧ ∀ j x, j < i → xs[j]? = some x → x ≠ t) ?_ xs.length _ ⟨0, _, by simp, rfl, by simp, by simp, by simp, by simp, by simp⟩
  rintro k σ ⟨i, r, hik, rfl, r0, r1, r7, r8, hall⟩
  cases k with
  | zero =>
   have hi : i = xs.length := by omega
   subst hi
   have hx := at_all (P := fun j (x : Int) => x ≠ t) hall
   have hn : t ∉ xs := fun hm => by
    obtain ⟨j, hj, e⟩ := List.getElem_of_mem hm
    exact hx j _ (List.getElem?_eq_getElem hj) e
   simp [r0, r1, r7, r8, hn]
  | succ k =>
   have hi : i < xs.length := by omega
   obtain ⟨x, hx⟩ : ∃ c, xs[i]? = some c := ⟨xs[i], by simp [hi]⟩
   have hw : IntKind.i64.wrap ((i : Int) + 1) = ((i : Int) + 1) := wrap_i64 (by omega) (by omega)
   have l0 := load1 (o := i) h (yB hx)
   by_cases g1 : x = t
   ·have hm : t ∈ xs := g1 ▸ List.mem_of_getElem? hx
    subst g1
    simp [r0, r1, r7, r8, hi, l0, hm]
   ·have g1' : ¬ t = x := fun h => g1 h.symm
    simp [r0, r1, r7, r8, hi, l0, g1', hw]
    exact ⟨k, by omega, i + 1, by omega, by omega, at_step (P := fun j (x : Int) => x ≠ t) hall hx g1⟩
 obtain ⟨r, c1, hr⟩ := hi
 apply Ret.dec
 rw [GI]
 by_cases g1 : 0 ≤ r
 ·simp [nJ, Tryz.f301, c1, g1, hr.1 g1]
 ·simp [nJ, Tryz.f301, c1, g1, mt hr.2 g1]
def Is (H G : List Ob) (v : V) (b : List Int) : Prop := ∃ T id, G = H ++ T ∧ H.length ≤ id ∧ G[id]? = some (.mk true 1 (ints b)) ∧ v = .slc (some (id, 0)) b.length
theorem Is.init {H : List Ob} : Is H (H ++ [.mk true 1 []]) (.slc (some (H.length, 0)) 0) [] := ⟨_, H.length, rfl, Nat.le_refl _, by simp [ints], rfl⟩
theorem Is.push {H G : List Ob} {v : V} {b : List Int} (h : Is H G v b) (hb : b.length ≤ 1000) {c : Int} {z : List V} {d : LD} (hz : z.length = 1) : ∃ v' G', appendV ⟨d, 1, 8, z⟩ (G ++ [.mk true 1 [.int .i64 c]]) v (.slc (some (G.length, 0)) 1) = some (v', G') ∧ Is H G' v' (b ++ [c]) := by
 obtain ⟨T, id, rfl, h1, h2, rfl⟩ := h
 have hid : id < (H ++ T).length := (List.getElem?_eq_some_iff.1 h2).1
 have hid' : id < H.length + T.length := by simpa using hid
 have hg : (H ++ T ++ [Ob.mk true 1 [.int .i64 c]])[id]? = some (.mk true 1 (ints b)) := by rw [List.getElem?_append_left hid]; exact h2
 have hnew : newCells ⟨d, 1, 8, z⟩ (H ++ T ++ [Ob.mk true 1 [.int .i64 c]]) (.slc (some ((H ++ T).length, 0)) 1) = some ([.int .i64 c], 1) := by
  simp only [newCells, Nat.mul_one, slcCells, get_last]
  rfl
 refine ⟨.slc (some ((H ++ T ++ [Ob.mk true 1 [.int .i64 c]]).length, 0)) (b.length + 1), (H ++ T ++ [Ob.mk true 1 [.int .i64 c]]).set id .dead ++ [.mk true 1 (ints b ++ [.int .i64 c])], ?_, ?_⟩
 ·unfold appendV
  rw [if_pos (by simp [growOk, hz]), hnew]
  simp only [Nat.one_ne_zero, if_false, List.all_cons, List.all_nil, isOne_int, Bool.and_true, if_true, hg]
  have e1 : ¬ (0 + (b.length + 1) * 1 ≤ (ints b).length) := by rw [qi]; omega
  have e2 : (0 + b.length * 1 = (ints b).length ∨ b.length = 0 ∧ (ints b).length ≤ 0) ∧ (b.length + 1) * 8 ≤ maxMade := ⟨.inl (by rw [qi]; simp), by unfold maxMade; omega⟩
  rw [if_neg e1, if_pos e2, List.drop_zero]
 ·refine ⟨T.set (id - H.length) .dead ++ [.mk true 1 [.int .i64 c]] ++ [.mk true 1 (ints b ++ [.int .i64 c])], (H ++ T ++ [Ob.mk true 1 [.int .i64 c]]).length, ?_, by simp only [List.length_append]; omega, ?_, by simp⟩
  ·rw [List.append_assoc H T, List.set_append_right _ _ h1, List.set_append_left _ _ (by omega)]
   simp
  ·have hl : ((H ++ T ++ [Ob.mk true 1 [V.int .i64 c]]).set id .dead).length = (H ++ T ++ [Ob.mk true 1 [V.int .i64 c]]).length := List.length_set
   rw [← hl, get_last]
   simp [ints]
def dD : V → Nat → V
 | .slc (some (id, off)) n, k => .slc (some (id, off + k * 4)) (n - k)
 | v, _ => v
theorem ji {H : List Ob} {v : V} {l : List PNode} (h : ANodes H v l) {k : Nat} (hk : k ≤ l.length) (h0 : 0 < l.length) : ANodes H (dD v k) (l.drop k) ∧ ∃ id off own cells, v = .slc (some (id, off)) l.length ∧ H[id]? = some (.mk own 4 cells) := by
 obtain ⟨id, off, own, cells, rfl, h1, h2⟩ := h.drop hk h0
 exact ⟨h2, id, off, own, cells, rfl, h1⟩
theorem kU {g : Nat → Option (Int × Nat)} {L : Nat} (hg : ∀ i q, g i = some q → i < q.2 ∧ q.2 ≤ L) : ∀ k i xs q, dF g k i xs = some q → i ≤ L → i + k ≤ q.2 ∧ q.2 ≤ L
 | 0, i, xs, q, h, hi => by cases h; exact ⟨Nat.le_refl _, hi⟩
 | k + 1, i, xs, q, h, hi => by
  unfold dF at h
  cases hq : g i with
  | none => rw [hq] at h; cases h
  | some r =>
   rw [hq] at h
   have h1 := hg _ _ hq
   have h2 := kU hg k r.2 _ q h h1.2
   omega
theorem lV {f : List PNode} {az : List PAttr} {known : List Str} : ∀ d i q, iZ f az known d i = some q → i < q.2 ∧ q.2 ≤ f.length
 | 0, i, q, h => by cases h
 | d + 1, i, q, h => by
  unfold iZ at h
  cases hn : f[i]? with
  | none => rw [hn] at h; cases h
  | some n =>
   rw [hn] at h
   have hi := (List.getElem?_eq_some_iff.1 hn).1
   simp only at h
   split at h
   ·split at h
    ·cases hr : dF (iZ f az known d) n.many.toNat (i + 1) [] with
     | none => rw [hr] at h; cases h
     | some r =>
      rw [hr] at h
      cases h
      have := kU (L := f.length) (fun i q h => lV d i q h) _ _ _ _ hr (by omega)
      simp only
      omega
    ·cases h
     simp only
     omega
   ·cases h
theorem xC {f : List PNode} (hl : f.length ≤ 100) {az : List PAttr} {known : List Str} {ide eo : Nat} {vd va vk : V} (hal : az.length ≤ 1000) (hp : az.Pairwise fun a b => a.name < b.name) :
  ∀ d (i : Nat) (v : V) (H : List Ob) q, iZ f az known d i = some q → ANodes H v (f.drop i) → At2 H ide eo vd va → AAttrs H va az → AStrs H vk known →
  callW C 237 [v, .ptr (some (ide, eo)), vk] H = some (.tup [.int .i64 q.1, dD v (q.2 - i)], H)
 | 0, i, v, H, q, hq, h, he, ha, hk => by cases hq
 | d + 1, i, v, H, q, hq, h, he, ha, hk => by
  suffices hs : Ret C 237 [v, .ptr (some (ide, eo)), vk] H fun r H' => r = .tup [.int .i64 q.1, dD v (q.2 - i)] ∧ H' = H by
   obtain ⟨r, H', hc, rfl, rfl⟩ := hs
   exact hc
  rw [FK]
  unfold iZ at hq
  cases hx : f[i]? with
  | none => rw [hx] at hq; cases hq
  | some x =>
  rw [hx] at hq
  simp only at hq
  by_cases hok : NodeOk x
  rotate_left
  ·rw [dec_neg hok] at hq; cases hq
  simp only [dec_pos hok, if_true] at hq
  have hi : i < f.length := (List.getElem?_eq_some_iff.1 hx).1
  obtain ⟨fs, hfs⟩ : ∃ fs, fs = f.drop i := ⟨_, rfl⟩
  have hfl : fs.length = f.length - i := by rw [hfs]; simp
  have hx0 : fs[0]? = some x := by rw [hfs, List.getElem?_drop]; exact hx
  rw [← hfs] at h
  obtain ⟨id, o, e1, l0, l1, _, _, _, w4⟩ := nodes_idx h hx0
  have e1' := fun (e s b : Nat) (z : List V) (ty : Nat → LT) => e1 e s b z ty .i64
  have l1' := l1 []
  simp only [List.append_nil, Int.natCast_zero] at l1' e1'
  obtain ⟨hd1, ids, off, own2, cells, hv, hcell⟩ := ji h (k := 1) (by omega) (by omega)
  have hst : strideIs H ids 4 = true := by simp [strideIs, hcell]
  have h1le : 1 ≤ fs.length := by omega
  have hid : id < H.length := by
   obtain ⟨id2, o2, ow2, cl2, f1, f2, _, _⟩ := ASl.idx h hx0 (by decide)
   have t1 := e1 0 0 0 [] (fun _ => ⟨.str, 4, 0, []⟩) .i64 rfl
   have t2 := f1 0 0 0 [] (fun _ => ⟨.str, 4, 0, []⟩) .i64 rfl
   rw [t1] at t2
   cases t2
   exact (List.getElem?_eq_some_iff.1 f2).1
  by_cases hin : x.Inner
  rotate_left
  ·rw [dec_neg hin] at hq
   simp only [Bool.false_eq_true, if_false] at hq
   cases hq
   have hop := mV hok hin
   have hgt : (3 : Int) < x.op := by omega
   have c1 := qP (n := x) he ha hal hp hk hop
   have hrd : dD v (i + 1 - i) = .slc (some (ids, off + 4)) (fs.length - 1) := by rw [hv, show i + 1 - i = 1 by omega]; rfl
   simp only [hrd]
   rw [hv] at e1'
   rw [hv]
   simp [mX, Tryz.f237, fillL, zerosL, buildV, structPlace, e1', l1', hst, h1le, hgt, c1, regionL_none, regionL_some, List.lookup, hid]
  rw [dec_pos hin] at hq
  simp only [if_true] at hq
  have hm := hok.many_le
  obtain ⟨mm, hmm⟩ : ∃ mm, mm = x.many.toNat := ⟨_, rfl⟩
  have hmn : x.many = (mm : Int) := by omega
  rw [← hmm] at hq
  cases her : dF (iZ f az known d) mm (i + 1) [] with
  | none => rw [her] at hq; cases hq
  | some p =>
  rw [her] at hq
  cases hq
  have hgt : ¬ (3 : Int) < x.op := by unfold PNode.Inner at hin; omega
  have hdl : ∀ j, i < j → j ≤ f.length → ANodes H (dD v (j - i)) (f.drop j) := by
   intro j h1 h2
   have := (ji h (k := j - i) (by omega) (by omega)).1
   rw [hfs, List.drop_drop, show i + (j - i) = j by omega] at this
   exact this
  have hdd : ∀ j e, i < j → j ≤ e → dD (dD v (j - i)) (e - j) = dD v (e - i) := by
   intro j e h1 h2
   rw [hv]
   simp only [dD]
   rw [show off + (j - i) * 4 + (e - j) * 4 = off + (e - i) * 4 by omega, show fs.length - (j - i) - (e - j) = fs.length - (e - i) by omega]
  have hd1v : dD v 1 = .slc (some (ids, off + 4)) (fs.length - 1) := by rw [hv]; rfl
  have hi1 : i + 1 - i = 1 := by omega
  have e1'' := e1'
  rw [hv] at e1''
  have hcap : initRegs [v, .ptr (some (ide, eo)), vk] = initRegs [.slc (some (ids, off)) fs.length, .ptr (some (ide, eo)), vk] := by rw [hv]
  rw [hcap]
  simp [mX, Tryz.f237, fillL, zerosL, buildV, structPlace, St.new, elemT, e1'', l1', hst, h1le, hgt, regionL_none, regionL_some, List.lookup, hid]
  refine WP_loop (fun k σ => ∃ (j : Nat) (xs : List Int) (w : V) (G : List Ob) (r : Nat → R), σ = ⟨r, 1, G⟩ ∧ r 1 = .val (.ptr (some (ide, eo))) ∧ r 2 = .val vk ∧ r 8 = .box 0 x.cs ∧ r 9 = .val (dD v (j - i)) ∧ r 10 = .val w ∧ r 29 = .val (.int .i64 mm) ∧ r 30 = .val (.int .i64 ((mm - k : Nat) : Int)) ∧ Is H G w xs ∧ i < j ∧ j ≤ f.length ∧ k ≤ mm ∧ xs.length + k = mm ∧ dF (iZ f az known d) k j xs = some p) ?_ mm _ ⟨i + 1, [], _, _, _, rfl, by simp, by simp, by simp, by simp [hi1, hd1v], rfl, by simp [hmn], by simp, Is.init, by omega, hi, Nat.le_refl _, by simp, her⟩
  rintro k σ ⟨j, xs, w, G, r, rfl, r1, r2, r8, r9, r10, r29, r30, hG, hij, hjl, hkm, hxl, hpe⟩
  have hG0 := hG
  obtain ⟨T, idw, hGT, _, hGg, hGw⟩ := hG0
  cases k with
  | zero =>
   have e0 : ¬ ((mm - 0 : Nat) : Int) < mm := by omega
   simp only [dF] at hpe
   cases hpe
   have hidl : ids < H.length := (List.getElem?_eq_some_iff.1 hcell).1
   have hgc : ∀ y, gcH H G (.tup [.int .i64 y, dD v (j - i)]) = H := by
    intro y
    unfold gcH
    rw [if_pos ⟨⟨T, hGT⟩, by rw [hv]; simp [dD, hidl]; exact ⟨_, _, _, hcell⟩⟩]
   have hcI := fun t => qo (t := t) hGg (by omega)
   have c5 := fun n => Hr (n := n) (H := G)
   unfold jh
   by_cases o3 : x.op = 3
   ·have hm1 : mm = 1 := by
     have : x.many = 1 := by rcases hok with ⟨_, _, _, _, _, a⟩ | ⟨a, _⟩ | ⟨a, _⟩ <;> omega
     omega
    match xs, hxl with
    | [y], _ =>
     have ly := load1 (o := 0) (v := .int .i64 y) hGg rfl
     simp [r1, r2, r8, r9, r10, r29, r30, e0, o3, hGw, ly, c5, hgc, regionL_none, regionL_some, List.lookup]
    | [], hh => simp at hh; omega
    | _ :: _ :: _, hh => simp at hh; omega
   ·by_cases o2 : x.op = 2
    ·have i1 := hcI 1
     have i2 := hcI 2
     by_cases g1 : (1 : Int) ∈ xs
     ·rw [dec_pos g1] at i1
      simp [r1, r2, r8, r9, r10, r29, r30, e0, o2, o3, hGw, i1, g1, hgc, regionL_none, regionL_some, List.lookup]
     ·rw [dec_neg g1] at i1
      by_cases g2 : (2 : Int) ∈ xs
      ·rw [dec_pos g2] at i2
       simp [r1, r2, r8, r9, r10, r29, r30, e0, o2, o3, hGw, i1, i2, g1, g2, hgc, regionL_none, regionL_some, List.lookup]
      ·rw [dec_neg g2] at i2
       simp [r1, r2, r8, r9, r10, r29, r30, e0, o2, o3, hGw, i1, i2, g1, g2, hgc, regionL_none, regionL_some, List.lookup]
    ·have i1 := hcI 0
     have i2 := hcI 2
     by_cases g1 : (0 : Int) ∈ xs
     ·rw [dec_pos g1] at i1
      simp [r1, r2, r8, r9, r10, r29, r30, e0, o2, o3, hGw, i1, g1, hgc, regionL_none, regionL_some, List.lookup]
     ·rw [dec_neg g1] at i1
      by_cases g2 : (2 : Int) ∈ xs
      ·rw [dec_pos g2] at i2
       simp [r1, r2, r8, r9, r10, r29, r30, e0, o2, o3, hGw, i1, i2, g1, g2, hgc, regionL_none, regionL_some, List.lookup]
      ·rw [dec_neg g2] at i2
       simp [r1, r2, r8, r9, r10, r29, r30, e0, o2, o3, hGw, i1, i2, g1, g2, hgc, regionL_none, regionL_some, List.lookup]
  | succ k =>
   cases hsub : iZ f az known d j with
   | none => simp only [dF, hsub] at hpe; cases hpe
   | some q2 =>
   simp only [dF, hsub] at hpe
   have hq2 := lV _ _ _ hsub
   have c2 := xC hl hal hp d j (dD v (j - i)) G q2 hsub (by rw [hGT]; exact (hdl j hij hjl).ext) (by rw [hGT]; exact he.ext) (by rw [hGT]; exact ha.ext) (by rw [hGT]; exact hk.ext)
   rw [hdd j q2.2 hij (by omega)] at c2
   have hb := hok.many_le
   obtain ⟨w2, G2, a1, hG2⟩ := hG.push (by omega) (c := q2.1) (z := [.int .i64 0]) (d := .int .i64) rfl
   have e0 : ((mm - (k + 1) : Nat) : Int) < mm := by omega
   have hw1 : IntKind.i64.wrap (((mm - (k + 1) : Nat) : Int) + 1) = ((mm - k : Nat) : Int) := by rw [wrap_i64 (by omega) (by omega)]; omega
   simp [r1, r2, r8, r9, r10, r29, r30, e0, c2, a1, hw1, fillL, zerosL, buildV, structPlace, St.new, elemT, regionL_none, regionL_some, List.lookup]
   exact ⟨k, by omega, q2.2, xs ++ [q2.1], w2, G2, _, ⟨rfl, rfl⟩, by simp [r1], by simp [r2], by simp [r8], by simp, by simp, by simp [r29], by simp, hG2, by omega, hq2.2, by omega, by simp; omega, hpe⟩
end Go.Proofs.Try1
end
section
namespace Go.Proofs.Try1
open Go Go.Lite



theorem TreeOk.small {t : PTree} (h : TreeOk t) : EF t := by
 refine ⟨⟨by have := h.1.2; omega, fun c hc => ?_⟩, by have := h.2.1.1; omega, fun e he => EntryOk.small (TreeOk.dns h e he)⟩
 obtain ⟨j, hj, rfl⟩ := List.getElem_of_mem hc
 have hc := (h.1.1 j _ (List.getElem?_eq_getElem hj)).1
 exact ⟨by have := hc.l1; omega, by have := hc.l2; omega, by have := hc.l3; omega⟩
theorem TreeOk.rise {t : PTree} (h : TreeOk t) : t.entries.Pairwise fun a b => keyE a < keyE b := dM (key := keyE) (fun j x hx => (h.2.1.2 j x hx).2.2)
theorem TOut.new {H : List Ob} {T : List Ob} {t : PTree} {w1 w2 : V} (hn : New H.length (H ++ T).length (H ++ T) shTree [w1, w2] t.u) : ∃ T' q, q = .agg [w1, w2, .slc none 0, .int .i64 0] ∧ gcH H (H ++ T) q = H ++ T' ∧ TOut H ⟨t, [], 0⟩ q (H ++ T') := by
 have h2 : New H.length (H ++ T).length (H ++ T) ja [w1, w2, .slc none 0, .int .i64 0] (PTreeOut.u ⟨t, [], 0⟩) := New.st (News.cons (c1 := [w1, w2]) (m := (H ++ T).length) hn (News.nilS (News.int (by decide) News.nil)) (by simp) (Nat.le_refl _))
 obtain ⟨T', h3, h4⟩ := h2.gcA
 exact ⟨T', _, rfl, h3, T', w1, w2, .slc none 0, rfl, rfl, h4⟩
theorem TOut.ones {H : List Ob} {o : PTreeOut} {q : V} {H' : List Ob} (h : TOut H o q H') : ∃ w1 w2 w3, q = .agg [w1, w2, w3, .int .i64 o.code] ∧ (isOne w1 = true ∧ cellsOf w1 = some [w1]) ∧ (isOne w2 = true ∧ cellsOf w2 = some [w2]) ∧ (isOne w3 = true ∧ cellsOf w3 = some [w3]) := by
 obtain ⟨T, w1, w2, w3, rfl, rfl, h3⟩ := h
 have := At.ones _ h3.at
 simp only [List.all_cons, List.all_nil, Bool.and_true, Bool.and_eq_true] at this
 exact ⟨w1, w2, w3, rfl, ⟨this.1, isOne_cells this.1⟩, ⟨this.2.1, isOne_cells this.2.1⟩, ⟨this.2.2.1, isOne_cells this.2.2.1⟩⟩
theorem TOut.gc {H : List Ob} {o : PTreeOut} {q : V} {H' : List Ob} (h : TOut H o q H') : TOut H o q (gcH H H' q) := by
 obtain ⟨T, w1, w2, w3, rfl, rfl, h3⟩ := h
 obtain ⟨T', h4, h5⟩ := h3.gcA
 exact ⟨T', w1, w2, w3, rfl, h4, h5⟩

theorem xw {G G' : List Ob} {r : V} (h : G'.length = G.length) : gcH G G' r = G' := by
 unfold gcH
 split
 ·rename_i hc
  obtain ⟨⟨T, rfl⟩, _⟩ := hc
  have : T = [] := List.length_eq_zero_iff.1 (by simp at h; simpa using h)
  rw [this, List.append_nil]
 ·rfl
theorem xe {H : List Ob} {v w : V} {a b : List PRdn} (h : ARdns H v a) (hb : ARdns H w b) (h1 : DnOk a) (h2 : DnOk b) (hl : a.length = b.length) :
  callW C 298 [v, w] H = some (.bool (dec (keyD a = keyD b)), H) := by
 apply Ret.dec
 rw [Ko]
 have c1 := mO h h1
 have c2 := mO hb h2
 by_cases g : keyD a = keyD b
 ·simp [oh, Tryz.f298, h.len, hb.len, hl, c1, c2, g]
 ·simp [oh, Tryz.f298, h.len, hb.len, hl, c1, c2, g]
theorem wU {H : List Ob} {v w : V} {dn base : List PRdn} (h : ARdns H v dn) (hb : ARdns H w base) (h1 : DnOk dn) (h2 : DnOk base) (hl : 0 < dn.length) :
  callW C 236 [v, w] H = some (.bool (dec (iH dn base)), H) := by
 apply Ret.dec
 rw [GN]
 by_cases g : base.length ≤ dn.length
 rotate_left
 ·have g' : ¬ (base.length : Int) ≤ dn.length := by omega
  simp [jS, Tryz.f236, h.len, hb.len, g']
  exact fun h => g h.1
 have g' : (base.length : Int) ≤ dn.length := by omega
 have hw : IntKind.i64.wrap ((dn.length : Int) - base.length) = ((dn.length - base.length : Nat) : Int) := by
  have := h1.2
  rw [wrap_i64 (by omega) (by omega)]; omega
 obtain ⟨id, off, own, cells, hv, hcell, hd⟩ := lZ h (k := dn.length - base.length) (by omega) hl
 have hst : strideIs H id 2 = true := by simp [strideIs, hcell]
 have c3 := xe hd hb (DnOk.drop h1 _) h2 (by simp; omega)
 have hle : dn.length - base.length ≤ dn.length := by omega
 rw [hv] at h ⊢
 by_cases gk : keyD (dn.drop (dn.length - base.length)) = keyD base
 ·rw [dec_pos gk] at c3
  simp [jS, Tryz.f236, h.len, hb.len, g', hw, hst, c3, hle]
  exact ⟨g, gk⟩
 ·rw [dec_neg gk] at c3
  simp [jS, Tryz.f236, h.len, hb.len, g', hw, hst, c3, hle]
  exact fun h => gk h.2
end Go.Proofs.Try1
end
section
namespace Go.Proofs.Try1
open Go Go.Lite
attribute [-simp] WP_region WP_cond
attribute [local simp] WP_regionF WP_condF ThenW_some ThenW_none CondW_true CondW_false
attribute [local simp low] CondW_bool
def bW (f : List PNode) (az : List PAttr) (known : List Str) : Prop := ∃ j, iZ f az known 5 0 = some (1, j)
theorem sG {f : List PNode} (hf : FilterOk f) (az : List PAttr) (known : List Str) : ∃ q, iZ f az known 5 0 = some q ∧ (q.1 = 1 ↔ bW f az known) := by
 obtain ⟨_, x, hx⟩ := hf
 obtain ⟨y, hy, _⟩ := Ae (az := az) (known := known) 5 0 _ hx
 refine ⟨_, hy, ?_, ?_⟩
 ·intro h
  simp only at h
  subst h
  exact ⟨_, hy⟩
 ·rintro ⟨j, hj⟩
  rw [hy] at hj
  cases hj
  rfl
theorem oZ {n : PNode} {az : List PAttr} {k1 k2 : List Str} (h : ∀ x, x ∈ k1 ↔ x ∈ k2) : fH n az k1 = fH n az k2 := by
 unfold fH
 by_cases g : n.attr ∈ k1
 ·rw [dec_pos g, dec_pos ((h _).1 g)]
 ·rw [dec_neg g, dec_neg (fun h2 => g ((h _).2 h2))]
theorem mi {f : List PNode} {az : List PAttr} {k1 k2 : List Str} (h : ∀ x, x ∈ k1 ↔ x ∈ k2) : ∀ d, iZ f az k1 d = iZ f az k2 d
 | 0 => rfl
 | d + 1 => by
  funext i
  unfold iZ
  rw [mi h d]
  cases f[i]? with
  | none => rfl
  | some n => simp only [oZ h]
theorem kL {f : List PNode} {az : List PAttr} {k1 k2 : List Str} (h : ∀ x, x ∈ k1 ↔ x ∈ k2) : bW f az k1 ↔ bW f az k2 := by
 unfold bW
 rw [mi h]
def aP (op : Int) : Int := if op = 1 ∨ op = 2 then 0 else if op = 3 ∨ op = 4 ∨ op = 7 then 1 else if op = 5 ∨ op = 6 then 2 else -1
theorem yg {n : Int} {H : List Ob} : callW C 285 [.int .i64 n] H = some (.int .i64 (aP n), H) := by
 suffices hs : Ret C 285 [.int .i64 n] H fun q H' => q = .int .i64 (aP n) ∧ H' = H by
  obtain ⟨q, H', hc, rfl, rfl⟩ := hs
  exact hc
 rw [I7]
 unfold aP
 by_cases o1 : n = 1
 ·simp [bM, Tryz.f285, o1]
 by_cases o2 : n = 2
 ·simp [bM, Tryz.f285, o2]
 by_cases o3 : n = 3
 ·simp [bM, Tryz.f285, o3]
 by_cases o4 : n = 4
 ·simp [bM, Tryz.f285, o4]
 by_cases o5 : n = 5
 ·simp [bM, Tryz.f285, o5]
 by_cases o6 : n = 6
 ·simp [bM, Tryz.f285, o6]
 by_cases o7 : n = 7
 ·simp [bM, Tryz.f285, o7]
 ·simp [bM, Tryz.f285, o1, o2, o3, o4, o5, o6, o7]
theorem ik {n : Int} {H : List Ob} : callW C 295 [.int .i64 n] H = some (.int .i64 (aP n), H) := by
 suffices hs : Ret C 295 [.int .i64 n] H fun q H' => q = .int .i64 (aP n) ∧ H' = H by
  obtain ⟨q, H', hc, rfl, rfl⟩ := hs
  exact hc
 rw [FU]
 unfold aP
 by_cases o1 : n = 1
 ·simp [bH, Tryz.f295, o1]
 by_cases o2 : n = 2
 ·simp [bH, Tryz.f295, o2]
 by_cases o3 : n = 3
 ·simp [bH, Tryz.f295, o3]
 by_cases o4 : n = 4
 ·simp [bH, Tryz.f295, o4]
 by_cases o5 : n = 5
 ·simp [bH, Tryz.f295, o5]
 by_cases o6 : n = 6
 ·simp [bH, Tryz.f295, o6]
 by_cases o7 : n = 7
 ·simp [bH, Tryz.f295, o7]
 ·simp [bH, Tryz.f295, o1, o2, o3, o4, o5, o6, o7]
theorem Ez {p : PPart} {H : List Ob} : callW C 284 [.agg p.cs] H = some (.bool (dec (PartOk p)), H) := by
 apply Ret.dec
 rw [Kr]
 have c1 := yg (n := p.op) (H := H)
 have c2 := JU (n := p.n) (a := 0) (b := 40) (H := H)
 have c3 := gp (t := p.text) (H := H)
 unfold PartOk
 by_cases g : aP p.op < 0
 ·have hno : ¬ (1 ≤ p.op ∧ p.op ≤ 7) := by
   unfold aP at g
   intro h
   split at g <;> try omega
  simp [aN, Tryz.f284, c1, g]
  exact fun a b => absurd ⟨a, b⟩ hno
 have hop : 1 ≤ p.op ∧ p.op ≤ 7 := by
  unfold aP at g
  split at g <;> try omega
 by_cases g2 : 0 ≤ p.n ∧ p.n ≤ 40
 rotate_left
 ·rw [dec_neg g2] at c2
  by_cases o7 : p.op = 7
  ·have g7 : ¬ aP 7 < 0 := by decide
   rw [o7] at c1
   simp [aN, Tryz.f284, c1, g7, o7, c2]
   omega
  ·by_cases n0 : p.n = 0
   ·omega
   ·simp [aN, Tryz.f284, c1, g, o7, c2, n0]
 rw [dec_pos g2] at c2
 by_cases hn : p.op = 7 ∨ p.n = 0
 rotate_left
 ·obtain ⟨o7, n0⟩ : ¬ p.op = 7 ∧ ¬ p.n = 0 := ⟨fun h => hn (.inl h), fun h => hn (.inr h)⟩
  simp [aN, Tryz.f284, c1, g, o7, n0]
 by_cases o1 : p.op = 1
 ·have g1 : ¬ aP 1 < 0 := by decide
  have n0 : p.n = 0 := by omega
  rw [o1] at c1
  by_cases h4 : p.text.length ≤ 40
  ·have c4 := jB (t := p.text) (H := H) (by omega)
   have h4' : (p.text.length : Int) ≤ 40 := by omega
   by_cases hp : Plain p.text
   ·rw [dec_pos hp] at c4
    rw [n0] at c2
    simp [aN, Tryz.f284, c1, g1, o1, n0, c2, h4', h4, c4, hp]
   ·rw [dec_neg hp] at c4
    rw [n0] at c2
    simp [aN, Tryz.f284, c1, g1, o1, n0, c2, h4', h4, c4, hp]
  ·have h4' : ¬ (p.text.length : Int) ≤ 40 := by omega
   rw [n0] at c2
   simp [aN, Tryz.f284, c1, g1, o1, n0, c2, h4', h4]
 by_cases o2 : p.op = 2
 ·have g1 : ¬ aP 2 < 0 := by decide
  have n0 : p.n = 0 := by omega
  rw [o2] at c1
  rw [n0] at c2
  by_cases hp : NameOk p.text
  ·rw [dec_pos hp] at c3
   simp [aN, Tryz.f284, c1, g1, o2, n0, c2, c3, hp]
  ·rw [dec_neg hp] at c3
   simp [aN, Tryz.f284, c1, g1, o2, n0, c2, c3, hp]
 have h3 : 3 ≤ p.op := by omega
 by_cases o7 : p.op = 7
 ·have g1 : ¬ aP 7 < 0 := by decide
  rw [o7] at c1
  by_cases ht : p.text = []
  ·simp [aN, Tryz.f284, c1, g1, o7, c2, ht]
   omega
  ·have e2 : List.isEmpty p.text = false := by simpa using ht
   simp [aN, Tryz.f284, c1, g1, o7, c2, ht, e2]
 ·have n0 : p.n = 0 := by omega
  rw [n0] at c2
  by_cases ht : p.text = []
  ·simp [aN, Tryz.f284, c1, g, o1, o2, o7, n0, c2, ht]
   omega
  ·have e2 : List.isEmpty p.text = false := by simpa using ht
   simp [aN, Tryz.f284, c1, g, o1, o2, o7, n0, c2, ht, e2, h3]
theorem tJ {p : PPart} (h : PartOk p) : aP p.op = (p.many : Int) := by
 obtain ⟨h1, h2, _⟩ := h
 unfold aP PPart.many
 by_cases o1 : p.op = 1
 ·simp [o1]
 by_cases o2 : p.op = 2
 ·simp [o2]
 by_cases o3 : p.op = 3
 ·simp [o3]
 by_cases o4 : p.op = 4
 ·simp [o4]
 by_cases o5 : p.op = 5
 ·simp [o5]
 by_cases o6 : p.op = 6
 ·simp [o6]
 ·have o7 : p.op = 7 := by omega
  simp [o7]
theorem yQ {v : V} {f : List PPart} {H : List Ob} (h : AParts H v f) (hl : f.length ≤ 12) : ∀ d i : Nat, d ≤ 5 → i ≤ f.length →
  callW C 219 [v, .int .i64 i, .int .i64 (6 - d : Nat)] H = some (.int .i64 (aH (xdep f d i)), H)
 | 0, i, hd, hi => by
  suffices hs : Ret C 219 [v, .int .i64 i, .int .i64 (6 - 0 : Nat)] H fun q H' => q = .int .i64 (aH (xdep f 0 i)) ∧ H' = H by
   obtain ⟨q, H', hc, rfl, rfl⟩ := hs
   exact hc
  rw [Dj]
  by_cases g : i < f.length
  ·have g' : ¬ (f.length : Int) ≤ i := by omega
   simp [gG, Tryz.f219, h.len, g', aH, xdep]
  ·have g' : (f.length : Int) ≤ i := by omega
   simp [gG, Tryz.f219, h.len, g', aH, xdep]
 | d + 1, i, hd, hi => by
  suffices hs : Ret C 219 [v, .int .i64 i, .int .i64 (6 - (d + 1) : Nat)] H fun q H' => q = .int .i64 (aH (xdep f (d + 1) i)) ∧ H' = H by
   obtain ⟨q, H', hc, rfl, rfl⟩ := hs
   exact hc
  rw [Dj]
  have hdp : ¬ (5 : Int) < (6 - (d + 1) : Nat) := by omega
  have hdw : IntKind.i64.wrap (((6 - (d + 1) : Nat) : Int) + 1) = ((6 - d : Nat) : Int) := by rw [wrap_i64 (by omega) (by omega)]; omega
  generalize hdd : ((6 - (d + 1) : Nat) : Int) = dd at hdp hdw
  rcases Nat.lt_or_ge i f.length with g | g
  rotate_left
  ·have g' : (f.length : Int) ≤ i := by omega
   simp [gG, Tryz.f219, h.len, g', aH, xdep, List.getElem?_eq_none g, hdd]
  have g' : ¬ (f.length : Int) ≤ i := by omega
  obtain ⟨x, hx⟩ : ∃ c, f[i]? = some c := ⟨f[i], by simp [g]⟩
  obtain ⟨id, o, e1, l0, l1, _, _, w4⟩ := parts_idx h hx
  have l0' := l0 []
  have l1' := l1 []
  simp only [List.append_nil] at l0' l1'
  have c1 := Ez (p := x) (H := H)
  by_cases g1 : PartOk x
  rotate_left
  ·rw [dec_neg g1] at c1
   simp [gG, Tryz.f219, h.len, g', hdp, e1, l1', c1, aH, xdep, hx, dec_neg g1, hdd]
  have hm : x.many ≤ 2 := by unfold PPart.many; split <;> (try split) <;> omega
  have c5 := yg (n := x.op) (H := H)
  rw [tJ g1] at c5
  rw [dec_pos g1] at c1
  have hw : IntKind.i64.wrap ((i : Int) + 1) = ((i : Int) + 1) := wrap_i64 (by omega) (by omega)
  have l0'' : ∀ T : LT, T.one → ∀ r c, loadAt T ⟨r, c, H⟩ (.hp id o) = some (.int .i64 x.op) := fun T hT r c => (l0' T hT r c).1
  have hgoal : aH (xdep f (d + 1) i) = aH (frep (xdep f d) x.many (i + 1, 0)) := by
   show aH (match f[i]? with
    | none => none
    | some n => if dec (PartOk n) = true then (frep (xdep f d) n.many (i + 1, 0)).map fun p => (p.1, p.2 + 1) else none) = _
   rw [hx]
   simp only [dec_pos g1, if_true]
   cases frep (xdep f d) x.many (i + 1, 0) <;> rfl
  rw [hgoal]
  simp [gG, Tryz.f219, h.len, g', hdp, e1, l1', l0'', c1, c5, hw, hdd]
  refine WP_loop (fun k σ => ∃ (m : Nat) (p : Option (Nat × Nat)) (a : Int) (r : Nat → R), σ = ⟨r, 0, H⟩ ∧ r 0 = .val v ∧ r 1 = .val (.int .i64 a) ∧ r 2 = .val (.int .i64 dd) ∧ r 7 = .val (.int .i64 m) ∧ m ≤ 20 ∧ k = (if p.isSome then m else 0) ∧ a = aH p ∧ (∀ q, p = some q → q.1 ≤ f.length) ∧ (p.bind fun q => frep (xdep f d) m q) = frep (xdep f d) x.many (i + 1, 0)) ?_ x.many _ ⟨x.many, some (i + 1, 0), i + 1, _, rfl, by simp, by simp, by simp, by simp, by omega, by simp, by simp [aH], fun q e => by cases e; exact g, rfl⟩
  rintro k σ ⟨m, p, a, r, rfl, r0, r1, r2, r7, hm20, hk, ha, hq, hp⟩
  cases p with
  | none =>
   simp only [Option.isSome_none, Bool.false_eq_true, if_false] at hk
   subst hk
   simp only [Option.bind_none] at hp
   subst ha
   by_cases hm0 : 0 < m
   ·simp [r0, r1, r2, r7, hm0, aH, ← hp]
   ·simp [r0, r1, r2, r7, hm0, aH, ← hp]
  | some q =>
   simp only [Option.isSome_some, if_true] at hk
   subst hk
   simp only [Option.bind_some] at hp
   have hql := hq q rfl
   subst ha
   cases k with
   | zero =>
    have : q = q := rfl
    simp only [frep] at hp
    simp [r0, r1, r2, r7, aH, ← hp]
   | succ k =>
    have c2 := yQ h hl d q.1 (by omega) hql
    have hw2 : IntKind.i64.wrap (((k + 1 : Nat) : Int) - 1) = (k : Int) := by rw [wrap_i64 (by omega) (by omega)]; omega
    have hw3 : IntKind.i64.wrap ((k : Int) + 1 - 1) = (k : Int) := by rw [wrap_i64 (by omega) (by omega)]; omega
    have h0 : (0 : Int) < (k : Int) + 1 := by omega
    have h1 : (0 : Int) ≤ (q.1 : Int) := by omega
    cases hsub : xdep f d q.1 with
    | none =>
     rw [hsub] at c2
     simp only [frep, hsub] at hp
     simp [r0, r1, r2, r7, h0, h1, aH, c2, hw2, hw3, hdw]
     exact ⟨0, by omega, k, by rw [wrap_i64 (by omega) (by omega)], by omega, none, by simp, rfl, by simp, by simpa using hp⟩
    | some q2 =>
     rw [hsub] at c2
     simp only [frep, hsub] at hp
     have hq2 := xdep_some _ _ _ hsub
     simp [r0, r1, r2, r7, h0, h1, aH, c2, hw2, hw3, hdw]
     exact ⟨k, by omega, k, by rw [wrap_i64 (by omega) (by omega)], by omega, some (q2.1, max q.2 q2.2), by simp, rfl, fun a b e => by cases e; exact hq2.2.1, by simpa using hp⟩
theorem fM {v : V} {f : List PPart} {H : List Ob} (h : AParts H v f) : callW C 131 [v] H = some (.bool (dec (ExprOk f)), H) := by
 apply Ret.dec
 rw [Jl]
 by_cases g : f.length ≤ 12
 rotate_left
 ·have g' : ¬ (f.length : Int) ≤ 12 := by omega
  simp [iU, Tryz.f131, h.len, g']
  exact fun h => g h.1
 have g' : (f.length : Int) ≤ 12 := by omega
 have c1 := yQ h g 5 0 (by omega) (by omega)
 simp only [Int.natCast_zero, show ((6 - 5 : Nat) : Int) = 1 from rfl] at c1
 cases hf : xdep f 5 0 with
 | none =>
  rw [hf] at c1
  have e : ¬ (-1 : Int) = (f.length : Int) := by omega
  simp [iU, Tryz.f131, h.len, g', c1, aH, e]
  rintro ⟨_, x, hx⟩
  rw [hf] at hx
  cases hx
 | some q =>
  rw [hf] at c1
  by_cases e : q.1 = f.length
  ·have e' : (q.1 : Int) = f.length := by omega
   simp [iU, Tryz.f131, h.len, g', c1, aH, e']
   exact ⟨g, q.2, by rw [hf, ← e]⟩
  ·have e' : ¬ (q.1 : Int) = f.length := by omega
   simp [iU, Tryz.f131, h.len, g', c1, aH, e']
   rintro ⟨_, x, hx⟩
   rw [hf] at hx
   cases hx
   exact e rfl
theorem wQ {n a b : Int} {H : List Ob} : callW C 94 [.int .i64 n, .int .i64 a, .int .i64 b] H = some (.bool (dec (a ≤ n ∧ n ≤ b)), H) := by
 apply Ret.dec
 rw [IW]
 by_cases h1 : a ≤ n
 ·by_cases h2 : n ≤ b
  ·simp [jb, Tryz.f94, h1, h2]
  ·simp [jb, Tryz.f94, h1, h2]
 ·simp [jb, Tryz.f94, h1]
theorem zi {p : PPart} {H : List Ob} : callW C 294 [.agg p.cs] H = some (.bool (dec (PartOk p)), H) := by
 apply Ret.dec
 rw [Fv]
 have c1 := ik (n := p.op) (H := H)
 have c2 := wQ (n := p.n) (a := 0) (b := 40) (H := H)
 have c3 := ig (t := p.text) (H := H)
 unfold PartOk
 by_cases g : aP p.op < 0
 ·have hno : ¬ (1 ≤ p.op ∧ p.op ≤ 7) := by
   unfold aP at g
   intro h
   split at g <;> try omega
  simp [aO, Tryz.f294, c1, g]
  exact fun a b => absurd ⟨a, b⟩ hno
 have hop : 1 ≤ p.op ∧ p.op ≤ 7 := by
  unfold aP at g
  split at g <;> try omega
 by_cases g2 : 0 ≤ p.n ∧ p.n ≤ 40
 rotate_left
 ·rw [dec_neg g2] at c2
  by_cases o7 : p.op = 7
  ·have g7 : ¬ aP 7 < 0 := by decide
   rw [o7] at c1
   simp [aO, Tryz.f294, c1, g7, o7, c2]
   omega
  ·by_cases n0 : p.n = 0
   ·omega
   ·simp [aO, Tryz.f294, c1, g, o7, c2, n0]
 rw [dec_pos g2] at c2
 by_cases hn : p.op = 7 ∨ p.n = 0
 rotate_left
 ·obtain ⟨o7, n0⟩ : ¬ p.op = 7 ∧ ¬ p.n = 0 := ⟨fun h => hn (.inl h), fun h => hn (.inr h)⟩
  simp [aO, Tryz.f294, c1, g, o7, n0]
 by_cases o1 : p.op = 1
 ·have g1 : ¬ aP 1 < 0 := by decide
  have n0 : p.n = 0 := by omega
  rw [o1] at c1
  by_cases h4 : p.text.length ≤ 40
  ·have c4 := kE (t := p.text) (H := H) (by omega)
   have h4' : (p.text.length : Int) ≤ 40 := by omega
   by_cases hp : Plain p.text
   ·rw [dec_pos hp] at c4
    rw [n0] at c2
    simp [aO, Tryz.f294, c1, g1, o1, n0, c2, h4', h4, c4, hp]
   ·rw [dec_neg hp] at c4
    rw [n0] at c2
    simp [aO, Tryz.f294, c1, g1, o1, n0, c2, h4', h4, c4, hp]
  ·have h4' : ¬ (p.text.length : Int) ≤ 40 := by omega
   rw [n0] at c2
   simp [aO, Tryz.f294, c1, g1, o1, n0, c2, h4', h4]
 by_cases o2 : p.op = 2
 ·have g1 : ¬ aP 2 < 0 := by decide
  have n0 : p.n = 0 := by omega
  rw [o2] at c1
  rw [n0] at c2
  by_cases hp : NameOk p.text
  ·rw [dec_pos hp] at c3
   simp [aO, Tryz.f294, c1, g1, o2, n0, c2, c3, hp]
  ·rw [dec_neg hp] at c3
   simp [aO, Tryz.f294, c1, g1, o2, n0, c2, c3, hp]
 have h3 : 3 ≤ p.op := by omega
 by_cases o7 : p.op = 7
 ·have g1 : ¬ aP 7 < 0 := by decide
  rw [o7] at c1
  by_cases ht : p.text = []
  ·simp [aO, Tryz.f294, c1, g1, o7, c2, ht]
   omega
  ·have e2 : List.isEmpty p.text = false := by simpa using ht
   simp [aO, Tryz.f294, c1, g1, o7, c2, ht, e2]
 ·have n0 : p.n = 0 := by omega
  rw [n0] at c2
  by_cases ht : p.text = []
  ·simp [aO, Tryz.f294, c1, g, o1, o2, o7, n0, c2, ht]
   omega
  ·have e2 : List.isEmpty p.text = false := by simpa using ht
   simp [aO, Tryz.f294, c1, g, o1, o2, o7, n0, c2, ht, e2, h3]
end Go.Proofs.Try1
end
section
namespace Go.Proofs.Try1
open Go Go.Lite
section
variable {l : List PAttr} {n : Str} {vs : List Str} {i : Nat}
end
end Go.Proofs.Try1
end
section
namespace Go.Lite
open Go
def Apart (l : List Str) : Prop := (l.map norm).Nodup
theorem Apart.inj {l : List Str} (h : Apart l) {a b : Str} (ha : a ∈ l) (hb : b ∈ l) (e : norm a = norm b) : a = b := by
 unfold Apart at h
 induction l with
 | nil => cases ha
 | cons x l ih =>
  rw [List.map_cons, List.nodup_cons] at h
  rcases List.mem_cons.1 ha with rfl | ha'
  ·rcases List.mem_cons.1 hb with rfl | hb'
   ·rfl
   ·exact absurd (List.mem_map.2 ⟨b, hb', e.symm⟩) h.1
  ·rcases List.mem_cons.1 hb with rfl | hb'
   ·exact absurd (List.mem_map.2 ⟨a, ha', e⟩) h.1
   ·exact ih h.2 ha' hb'
end Go.Lite
end
section
namespace Go.Proofs.Try1
open Go Go.Lite






theorem TOut.base {H : List Ob} {X : List Ob} {o : PTreeOut} {q : V} {H' : List Ob} (h : TOut (H ++ X) o q H') : TOut H o q (gcH H H' q) := by
 obtain ⟨T, w1, w2, w3, rfl, rfl, h3⟩ := h
 rw [List.append_assoc] at h3 ⊢
 obtain ⟨T', h4, h5⟩ := (h3.wide (b' := H.length) (by simp) (Nat.le_refl _)).gcA
 exact ⟨T', w1, w2, w3, rfl, h4, h5⟩



end Go.Proofs.Try1
end
section
namespace Go.Lite
open Go

end Go.Lite
end
section
namespace Go.Proofs.Try1
open Go Go.Lite
attribute [-simp] WP_region WP_cond
attribute [local simp] WP_regionF WP_condF ThenW_some ThenW_none CondW_true CondW_false
attribute [local simp low] CondW_bool
theorem Az {l : List PAttr} (hl : AttrsOk l) (n : Str) : ValuesOk (valsOf l n) ∨ valsOf l n = [] := by
 unfold valsOf
 split
 ·rename_i a h
  obtain ⟨j, hj, rfl⟩ := List.getElem_of_mem (List.mem_of_find?_eq_some h)
  exact .inl (hl.1 j _ (List.getElem?_eq_getElem hj)).2.2
 ·exact .inr rfl
theorem DnOk.cons {r : PRdn} {p : List PRdn} (hr : DnOk [r]) (hp : DnOk p) (h6 : ¬ 6 ≤ p.length) : DnOk (r :: p) := by
 refine ⟨fun j x hx => ?_, by simp; omega⟩
 cases j with
 | zero => cases hx; exact hr.1 0 r rfl
 | succ j => exact hp.1 j x (by simpa using hx)
end Go.Proofs.Try1
end
section
namespace Go.Proofs.Try1
open Go Go.Lite

noncomputable def fD (e : PEntry) (n : Str) : Str := (valsOf e.attrs n).headD []
noncomputable def nI (p : PPart) (a : Str) : Str := if p.op = 3 then a.map (aI false) else if p.op = 4 then a.map (aI true) else a.take p.n.toNat
noncomputable def eP (p : PPart) (a b : Str) : Str := if p.op = 5 then a ++ b else if a = [] then b else a
def dK (t : Str) : Bool := decide (t.length ≤ 40)
noncomputable def iY (f : List PPart) (e : PEntry) : Nat → Nat → Option (Str × Bool × Nat)
 | 0, _ => none
 | d + 1, i => match f[i]? with
  | none => none
  | some p =>
   if p.op = 1 then some (p.text, dK p.text, i + 1)
   else if p.op = 2 then some (fD e p.text, dK (fD e p.text), i + 1)
   else match iY f e d (i + 1) with
    | none => none
    | some q => if p.many = 1 then some (nI p q.1, q.2.1 && dK (nI p q.1), q.2.2)
     else match iY f e d q.2.2 with
      | none => none
      | some s => some (eP p q.1 s.1, (q.2.1 && s.2.1) && dK (eP p q.1 s.1), s.2.2)
theorem qQ {e : PEntry} {n : Str} (he : EntryOk e) : ∀ v ∈ valsOf e.attrs n, v.length ≤ 40 := fun v hv => by
 rcases Az he.2.2 n with h | h
 ·obtain ⟨j, hj, rfl⟩ := List.getElem_of_mem hv
  exact (h.1 j _ (List.getElem?_eq_getElem hj)).1.2.1
 ·rw [h] at hv; cases hv
theorem pX {e : PEntry} {n : Str} (he : EntryOk e) : (fD e n).length ≤ 40 := by
 unfold fD
 have := qQ (n := n) he
 cases h : valsOf e.attrs n with
 | nil => simp
 | cons v l => rw [h] at this; exact this v (by simp)
theorem AL {p : PPart} {a : Str} : (nI p a).length ≤ a.length := by
 unfold nI
 split
 ·simp
 split
 ·simp
 ·simp; omega
theorem zJ {p : PPart} {a b : Str} : (eP p a b).length ≤ a.length + b.length := by
 unfold eP
 split
 ·simp
 split <;> omega
theorem bK {f : List PPart} {e : PEntry} (he : EntryOk e) : ∀ d i q, xdep f d i = some q → ∃ t b, iY f e d i = some (t, b, q.1) ∧ t.length ≤ 40 * 2 ^ d
 | 0, i, q, h => by cases h
 | d + 1, i, q, h => by
  unfold xdep at h
  unfold iY
  have hp : 2 ^ (d + 1) = 2 * 2 ^ d := by rw [Nat.pow_succ]; omega
  have hp1 : 1 ≤ 2 ^ d := Nat.one_le_two_pow
  cases hn : f[i]? with
  | none => rw [hn] at h; cases h
  | some p =>
   rw [hn] at h
   simp only at h ⊢
   split at h
   case isFalse => cases h
   rename_i hok
   have hok := dec_true.1 hok
   by_cases o1 : p.op = 1
   ·have hm : p.many = 0 := by unfold PPart.many; simp [o1]
    rw [hm] at h
    cases h
    rw [if_pos o1]
    exact ⟨_, _, rfl, by have := (hok.2.2.2.2.2.1 o1).1; omega⟩
   rw [if_neg o1]
   by_cases o2 : p.op = 2
   ·have hm : p.many = 0 := by unfold PPart.many; simp [o2]
    rw [hm] at h
    cases h
    rw [if_pos o2]
    exact ⟨_, _, rfl, by have := pX (n := p.text) he; omega⟩
   rw [if_neg o2]
   by_cases m1 : p.many = 1
   ·rw [m1] at h
    simp only [frep] at h
    cases h1 : xdep f d (i + 1) with
    | none => rw [h1] at h; cases h
    | some q1 =>
     rw [h1] at h
     cases h
     obtain ⟨t, b, e1, e2⟩ := bK he d (i + 1) q1 h1
     rw [e1]
     simp only [m1, if_true]
     exact ⟨_, _, rfl, by have := AL (p := p) (a := t); omega⟩
   ·have m2 : p.many = 2 := by
     have h1 := hok.1
     have h2 := hok.2.1
     unfold PPart.many at m1 ⊢
     split
     ·rename_i hh; rw [if_pos hh] at m1; exact absurd rfl m1
     ·rename_i hh
      rw [if_pos (by omega)]
    rw [m2] at h
    simp only [frep] at h
    cases h1 : xdep f d (i + 1) with
    | none => rw [h1] at h; cases h
    | some q1 =>
     rw [h1] at h
     simp only at h
     cases h2 : xdep f d q1.1 with
     | none => rw [h2] at h; cases h
     | some q2 =>
      rw [h2] at h
      cases h
      obtain ⟨t, b, e1, e2⟩ := bK he d (i + 1) q1 h1
      obtain ⟨t2, b2, e3, e4⟩ := bK he d q1.1 q2 h2
      rw [e1]
      simp only [m1, if_false, e3]
      exact ⟨_, _, rfl, by have := zJ (p := p) (a := t) (b := t2); omega⟩
end Go.Proofs.Try1
end
section
namespace Go.Proofs.Try1
open Go Go.Lite
attribute [-simp] WP_region WP_cond
attribute [local simp] WP_regionF WP_condF ThenW_some ThenW_none CondW_true CondW_false
attribute [local simp low] CondW_bool
def bz (H : List Ob) (vx vd va : V) (i : Nat) (bad : Bool) : List Ob := H ++ [.mk true 5 [vx, vd, va, .int .i64 i, .bool bad]]
theorem bU {H : List Ob} {vx vd va : V} {i : Nat} {bad : Bool} : (bz H vx vd va i bad)[H.length]? = some (.mk true 5 [vx, vd, va, .int .i64 i, .bool bad]) := get_last
theorem dG {t : Str} : decide ((40 : Int) < (t.length : Int)) = !dK t := by
 unfold dK
 by_cases h : t.length ≤ 40
 ·have : ¬ (40 : Int) < (t.length : Int) := by omega
  simp [h, this]
 ·have : (40 : Int) < (t.length : Int) := by omega
  simp [h, this]
theorem qC {H : List Ob} {v : V} {xs : List PPart} (h : AParts H v xs) {i : Nat} {x : PPart} (hx : xs[i]? = some x) : ∃ id o, id < H.length ∧
  (∀ (e s b : Nat) (z : List V) (ty : Nat → LT) (k : IntKind), (ty e).size = 3 → indexR ⟨.slice e, s, b, z⟩ ty (.val v) (.int k i) = some (.val (.ptr (some (id, o))))) ∧
  (∀ T' : List Ob, ∀ T : LT, T.many 3 → ∀ r c, loadAt T ⟨r, c, H ++ T'⟩ (.hp id o) = some (.agg x.cs)) := by
 obtain ⟨id, o, own, cells, e1, e2, e3, e4⟩ := ASl.idx h hx (by decide)
 obtain ⟨e4, _⟩ := part_at.1 e4
 exact ⟨id, o, (List.getElem?_eq_some_iff.1 e2).1, e1, fun T' => loadN (up_append _ _ e2) e3 (by decide) e4⟩
theorem Ju {a b : Int} {H : List Ob} : callW C 323 [.int .i64 a, .int .i64 b] H = some (.int .i64 (min a b), H) := by
 apply Ret.eq
 rw [Ha]
 by_cases g : a < b
 ·have e : min a b = a := by omega
  simp [nV, Tryz.f323, g, e]
 ·have e : min a b = b := by omega
  simp [nV, Tryz.f323, g, e]
theorem KA {H : List Ob} {vx vd va : V} {f : List PPart} {e : PEntry} (hx : AParts H vx f) (hd : ARdns H vd e.dn) (ha : AAttrs H va e.attrs) (he : EntryOk e) (hf : f.length ≤ 12) : ∀ d i q bad t b, xdep f d i = some q → iY f e d i = some (t, b, q.1) → d ≤ 5 →
  callW C 290 [.ptr (some (H.length, 0))] (bz H vx vd va i bad) = some (.str t, bz H vx vd va q.1 (bad || !b)) := by
 intro d
 induction d with
 | zero => intro i q bad t b h; cases h
 | succ d ih =>
  intro i q bad t b hq hv hd5
  have hi0 := xdep_some _ _ _ hq
  suffices hs : Ret C 290 [.ptr (some (H.length, 0))] (bz H vx vd va i bad) fun r G' => r = .str t ∧ G' = bz H vx vd va q.1 (bad || !b) by
   obtain ⟨r, G', h, rfl, rfl⟩ := hs
   exact h
  rw [Gu]
  unfold xdep at hq
  unfold iY at hv
  cases hn : f[i]? with
  | none => rw [hn] at hq; cases hq
  | some p =>
   rw [hn] at hq hv
   simp only at hq hv
   split at hq
   case isFalse => cases hq
   rename_i hok
   have hok := dec_true.1 hok
   have hil : i < f.length := (List.getElem?_eq_some_iff.1 hn).1
   have hw : IntKind.i64.wrap ((i : Int) + 1) = ((i : Int) + 1) := wrap_i64 (by omega) (by omega)
   obtain ⟨idp, op, hidp, e1, lm⟩ := qC hx hn
   have hone := hx.one
   have hod := hd.one
   have hoa := ha.one
   have len0 : ∀ j c, (bz H vx vd va j c).length = H.length + 1 := fun j c => by unfold bz; simp
   have hidl : ∀ j c, H.length < (bz H vx vd va j c).length := fun j c => by rw [len0]; omega
   have hidl2 : ∀ j c, idp < (bz H vx vd va j c).length := fun j c => by rw [len0]; omega
   have g0 : ∀ j c, _ := fun j c => load1 (o := 0) (v := vx) (bU (H := H) (vx := vx) (vd := vd) (va := va) (i := j) (bad := c)) rfl
   have g3 : ∀ j c, _ := fun j c => load1 (o := 3) (v := .int .i64 (j : Nat)) (bU (H := H) (vx := vx) (vd := vd) (va := va) (i := j) (bad := c)) rfl
   have g4 : ∀ j c, _ := fun j c => load1 (o := 4) (v := .bool c) (bU (H := H) (vx := vx) (vd := vd) (va := va) (i := j) (bad := c)) rfl
   have lp : ∀ j c, ∀ T : LT, T.many 3 → ∀ r c', loadAt T ⟨r, c', bz H vx vd va j c⟩ (.hp idp op) = some (.agg p.cs) := fun j c => lm _
   have st3 : ∀ c, _ := fun c => store1 (o := 3) (v := .int .i64 ((i : Int) + 1)) (bU (H := H) (vx := vx) (vd := vd) (va := va) (i := i) (bad := c)) (by simp) rfl rfl
   have st4 : ∀ j c c2, _ := fun j c c2 => store1 (o := 4) (v := .bool c2) (bU (H := H) (vx := vx) (vd := vd) (va := va) (i := j) (bad := c)) (by simp) rfl rfl
   have e3 : ∀ c, (bz H vx vd va i c).set H.length (.mk true 5 ([vx, vd, va, .int .i64 i, .bool c].set 3 (.int .i64 ((i : Int) + 1)))) = bz H vx vd va (i + 1) c := fun c => by unfold bz; rw [set_last]; rfl
   have e4 : ∀ (j : Nat) c c2, (bz H vx vd va j c).set H.length (.mk true 5 ([vx, vd, va, .int .i64 j, .bool c].set 4 (.bool c2))) = bz H vx vd va j c2 := fun j c c2 => by unfold bz; rw [set_last]; rfl
   simp only [e3] at st3
   simp only [e4] at st4
   have hgc : ∀ j c, gcH (bz H vx vd va i bad) (bz H vx vd va j c) (.str t) = bz H vx vd va j c := fun j c => xw (by rw [len0, len0])
   by_cases o1 : p.op = 1
   ·rw [if_pos o1] at hv
    have hm : p.many = 0 := by unfold PPart.many; simp [o1]
    rw [hm] at hq
    cases hq
    cases hv
    have hlf := dG (t := p.text)
    cases bad <;> simp [bD, Tryz.f290, o1, hidl, hidl2, g0, g3, g4, e1, hone, lp, st3, st4, hw, hlf, hgc, fillL, zerosL, buildV, structPlace, elemT, regionL_none, regionL_some, List.lookup]
   rw [if_neg o1] at hv
   by_cases o2 : p.op = 2
   ·rw [if_pos o2] at hv
    have hm : p.many = 0 := by unfold PPart.many; simp [o2]
    rw [hm] at hq
    cases hq
    cases hv
    have hlf := dG (t := fD e p.text)
    have lE : ∀ j c, _ := fun j c => loadN (o := 1) (n := 2) (bU (H := H) (vx := vx) (vd := vd) (va := va) (i := j) (bad := c)) (by simp) (by decide) rfl
    simp at lE
    obtain ⟨w, c1, hwv⟩ := BR (H := bz H vx vd va (i + 1) bad) (l := e.attrs) (t := p.text) (v' := vd) ha.ext hod.2 hod.1
    cases hv1 : valsOf e.attrs p.text with
    | nil =>
     rw [hv1] at hwv
     have hat : fD e p.text = [] := by unfold fD; rw [hv1]; rfl
     rw [hat] at hlf hgc ⊢
     have hfn : dK [] = true := rfl
     cases bad <;> simp [bD, Tryz.f290, o1, o2, hfn, lE, hod, hoa, c1, hwv.len, hidl, hidl2, g0, g3, g4, e1, hone, lp, st3, st4, hw, hlf, hgc, fillL, zerosL, buildV, structPlace, elemT, regionL_none, regionL_some, List.lookup]
    | cons s0 l0 =>
     rw [hv1] at hwv
     have hat : fD e p.text = s0 := by unfold fD; rw [hv1]; rfl
     obtain ⟨ids, os, e5', l5, _⟩ := strs_idx hwv (i := 0) (s := s0) rfl
     have e5 : ∀ (e s b : Nat) (z : List V) (ty : Nat → LT) (k : IntKind), (ty e).size = 1 → indexR ⟨.slice e, s, b, z⟩ ty (.val w) (.int k 0) = some (.val (.ptr (some (ids, os)))) := e5'
     rw [hat] at hlf hgc ⊢
     cases bad <;> simp [bD, Tryz.f290, o1, o2, lE, hod, hoa, c1, hwv.len, e5, l5, hidl, hidl2, g0, g3, g4, e1, hone, lp, st3, st4, hw, hlf, hgc, fillL, zerosL, buildV, structPlace, elemT, regionL_none, regionL_some, List.lookup]
   rw [if_neg o2] at hv
   have hp5 : 40 * 2 ^ d ≤ 1280 := by
    have : 2 ^ d ≤ 2 ^ 5 := Nat.pow_le_pow_right (by decide) (by omega)
    omega
   have hMs : ∀ n, n ≤ 100000 → n ≤ maxStr := fun n h => by unfold maxStr; omega
   cases h1 : xdep f d (i + 1) with
   | none =>
    exfalso
    by_cases m1 : p.many = 1
    ·rw [m1] at hq; simp only [frep, h1] at hq; cases hq
    ·have m2 : p.many = 2 := by
      have := hok.1
      have := hok.2.1
      unfold PPart.many at m1 ⊢
      split
      ·rename_i hh; rw [if_pos hh] at m1; exact absurd rfl m1
      ·rename_i hh; rw [if_pos (by omega)]
     rw [m2] at hq; simp only [frep, h1] at hq; cases hq
   | some q1 =>
   obtain ⟨a, fa, v1, v2⟩ := bK he d (i + 1) q1 h1
   rw [v1] at hv
   simp only at hv
   have k1 := ih (i + 1) q1 bad a fa h1 v1 (by omega)
   by_cases m1 : p.many = 1
   ·rw [m1] at hq hv
    simp only [frep, h1, if_true] at hq hv
    cases hq
    cases hv
    have hop : p.op = 3 ∨ p.op = 4 ∨ p.op = 7 := by
     have := hok.1
     have := hok.2.1
     unfold PPart.many at m1
     split at m1
     ·assumption
     ·split at m1 <;> cases m1
    have hlf := dG (t := nI p a)
    have hbb : ∀ b1 b2 b3 : Bool, (b1 || !(b2 && b3)) = ((b1 || !b2) || !b3) := by decide
    rw [hbb]
    generalize (bad || !fa) = bad1 at k1 ⊢
    rcases hop with o3 | o4 | o7
    ·have hu : nI p a = a.map (aI false) := by unfold nI; rw [if_pos o3]
     rw [hu] at hlf hgc ⊢
     simp only [List.length_map] at hlf
     have c1 := yK (t := a) (up := false) (H := bz H vx vd va q1.1 bad1) (by omega)
     cases bad1 <;> simp [bD, Tryz.f290, o3, k1, c1, hidl, hidl2, g0, g3, g4, e1, hone, lp, st3, st4, hw, hlf, hgc, fillL, zerosL, buildV, structPlace, elemT, regionL_none, regionL_some, List.lookup]
    ·have hu : nI p a = a.map (aI true) := by unfold nI; rw [if_neg (by omega), if_pos o4]
     rw [hu] at hlf hgc ⊢
     simp only [List.length_map] at hlf
     have c1 := yK (t := a) (up := true) (H := bz H vx vd va q1.1 bad1) (by omega)
     cases bad1 <;> simp [bD, Tryz.f290, o4, k1, c1, hidl, hidl2, g0, g3, g4, e1, hone, lp, st3, st4, hw, hlf, hgc, fillL, zerosL, buildV, structPlace, elemT, regionL_none, regionL_some, List.lookup]
    ·have hu : nI p a = a.take p.n.toNat := by unfold nI; rw [if_neg (by omega), if_neg (by omega)]
     rw [hu] at hlf hgc ⊢
     rw [List.length_take] at hlf
     have c1 := Ju (a := p.n) (b := (a.length : Int)) (H := bz H vx vd va q1.1 bad1)
     have hn0 : 0 ≤ p.n := hok.2.2.2.1
     have hmn : (0 : Int) ≤ min p.n (a.length : Int) := by omega
     have hmt : (min p.n (a.length : Int)).toNat ≤ a.length := by omega
     have htk : a.take (min p.n (a.length : Int)).toNat = a.take p.n.toNat := by
      by_cases hh : p.n ≤ (a.length : Int)
      ·rw [show min p.n (a.length : Int) = p.n by omega]
      ·rw [show min p.n (a.length : Int) = (a.length : Int) by omega, Int.toNat_natCast, List.take_length, List.take_of_length_le (by omega)]
     cases bad1 <;> simp [bD, Tryz.f290, o7, k1, c1, hmn, hmt, htk, hidl, hidl2, g0, g3, g4, e1, hone, lp, st3, st4, hw, hlf, hgc, fillL, zerosL, buildV, structPlace, elemT, regionL_none, regionL_some, List.lookup]
   have hop : p.op = 5 ∨ p.op = 6 := by
    have := hok.1
    have := hok.2.1
    unfold PPart.many at m1
    by_cases hh : p.op = 3 ∨ p.op = 4 ∨ p.op = 7
    ·rw [if_pos hh] at m1; exact absurd rfl m1
    ·omega
   have m2 : p.many = 2 := by unfold PPart.many; rw [if_neg (by omega), if_pos hop]
   rw [m2] at hq hv
   simp only [frep, h1] at hq
   simp only [show ¬ (2 = 1) by decide, if_false] at hv
   cases h2 : xdep f d q1.1 with
   | none => rw [h2] at hq; cases hq
   | some q2 =>
   rw [h2] at hq
   obtain ⟨b', fb, v3, v4⟩ := bK he d q1.1 q2 h2
   rw [v3] at hv
   simp only at hv
   cases hq
   cases hv
   have k2 := ih q1.1 q2 (bad || !fa) b' fb h2 v3 (by omega)
   have hbb : ∀ b1 b2 b3 b4 : Bool, (b1 || !((b2 && b3) && b4)) = (((b1 || !b2) || !b3) || !b4) := by decide
   rw [hbb]
   have hlf := dG (t := eP p a b')
   generalize (bad || !fa) = bad1 at k1 k2 ⊢
   generalize (bad1 || !fb) = bad2 at k2 ⊢
   rcases hop with o5 | o6
   ·have hu : eP p a b' = a ++ b' := by unfold eP; rw [if_pos o5]
    rw [hu] at hlf hgc ⊢
    have hms := hMs (a.length + b'.length) (by omega)
    rw [List.length_append, Int.natCast_add] at hlf
    cases bad2 <;> simp [bD, Tryz.f290, o5, k1, k2, hms, hidl, hidl2, g0, g3, g4, e1, hone, lp, st3, st4, hw, hlf, hgc, fillL, zerosL, buildV, structPlace, elemT, regionL_none, regionL_some, List.lookup]
   ·by_cases ga : a = []
    ·have hu : eP p a b' = b' := by unfold eP; rw [if_neg (by omega), if_pos ga]
     rw [hu] at hlf hgc ⊢
     subst ga
     cases bad2 <;> simp [bD, Tryz.f290, o6, k1, k2, hidl, hidl2, g0, g3, g4, e1, hone, lp, st3, st4, hw, hlf, hgc, fillL, zerosL, buildV, structPlace, elemT, regionL_none, regionL_some, List.lookup]
    ·have hu : eP p a b' = a := by unfold eP; rw [if_neg (by omega), if_neg ga]
     rw [hu] at hlf hgc ⊢
     have gae : List.isEmpty a = false := by simpa using ga
     cases bad2 <;> simp [bD, Tryz.f290, o6, k1, k2, ga, gae, hidl, hidl2, g0, g3, g4, e1, hone, lp, st3, st4, hw, hlf, hgc, fillL, zerosL, buildV, structPlace, elemT, regionL_none, regionL_some, List.lookup]
theorem zt {f : List PPart} {e : PEntry} (he : EntryOk e) (hf : ExprOk f) : ∃ t b, iY f e 5 0 = some (t, b, f.length) ∧ t.length ≤ 1280 := by
 obtain ⟨_, x, hx⟩ := hf
 obtain ⟨t, b, h1, h2⟩ := bK he 5 0 _ hx
 exact ⟨t, b, h1, by simpa using h2⟩
theorem ou {H : List Ob} {vx vd va : V} {f : List PPart} {e : PEntry} {t : Str} {b : Bool} (hx : AParts H vx f) (hd : ARdns H vd e.dn) (ha : AAttrs H va e.attrs) (he : EntryOk e) (hf : ExprOk f) (hv : iY f e 5 0 = some (t, b, f.length)) :
  callW C 225 [vx, .agg [vd, va]] H = some (.tup [.str t, .bool b], H) := by
 apply Ret.eq
 rw [Hw]
 have hox := hx.one
 have hod := hd.one
 have hoa := ha.one
 obtain ⟨h12, x, hdp⟩ := hf
 have c1 := KA hx hd ha he h12 5 0 (f.length, x) false t b hdp hv (by decide)
 have hK : H ++ [.mk true 5 [vx, vd, va, .int .i64 0, .bool false]] = bz H vx vd va 0 false := rfl
 have hidl : ∀ j c, H.length < (bz H vx vd va j c).length := fun j c => by unfold bz; simp
 have g4 : ∀ j c, _ := fun j c => load1 (o := 4) (v := .bool c) (bU (H := H) (vx := vx) (vd := vd) (va := va) (i := j) (bad := c)) rfl
 have hgc : ∀ j c b', gcH H (bz H vx vd va j c) (.tup [.str t, .bool b']) = H := fun j c b' => gcH_low (by simp [lowV, lowVs])
 cases b <;> simp [um, Tryz.f225, hox, hod, hoa, strideOf, fillL, zerosL, buildV, structPlace, elemT, setRange, hK, c1, hidl, g4, hgc, regionL_none, regionL_some, List.lookup]
theorem oP {t : Str} {c : UInt8} {H : List Ob} : callW C 331 [.str t, .int .u8 c.toNat] H = some (.int .i64 (Lib.indexByte t c), H) := by
 have p : callW C 361 [.str t, .int .u8 c.toNat] H = some (.int .i64 (Lib.indexByte t c), H) := by
  rw [callW_prim (pr := idxPrim) rfl]
  simp [idxPrim]
 have q : callW C 352 [.str t, .int .u8 c.toNat] H = some (.int .i64 (Lib.indexByte t c), H) := by
  apply Ret.eq
  rw [Hg]
  simp [su, Tryz.f352, p]
 apply Ret.eq
 rw [H7]
 simp [uH, Tryz.f331, q]
abbrev AA : Str := [44, 43, 34, 92, 60, 62, 59, 61]
theorem vS {c : UInt8} : 0 ≤ Lib.indexByte AA c ↔ oddC c = true := by
 rw [indexByte_nn]
 simp [oddC, AA, or_assoc]
theorem qW {t : Str} {i : Nat} {c : UInt8} {H : List Ob} (hc : t[i]? = some c) (hl : t.length ≤ 1000000) : callW C 303 [.str t, .int .i64 i] H = some (.bool (oddAt t i c), H) := by
 apply Ret.eq
 rw [JH]
 obtain ⟨hi, hc'⟩ := List.getElem?_eq_some_iff.1 hc
 have hw : IntKind.i64.wrap ((t.length : Int) - 1) = (t.length : Int) - 1 := wrap_i64 (by omega) (by omega)
 have c1 := oP (t := AA) (c := c) (H := H)
 by_cases ho : oddC c = true
 ·have h0 := vS.2 ho
  simp [dC, Tryz.f303, hi, hc', c1, h0, oddAt, ho]
 have h0 : ¬ 0 ≤ Lib.indexByte AA c := fun h => ho (vS.1 h)
 have ho' : oddC c = false := by simpa using ho
 by_cases h9 : c = 35
 ·have e9 : (c.toNat : Int) = 35 := by rw [h9]; rfl
  rw [e9] at c1
  by_cases g : i = 0
  ·have ha : oddAt t i c = true := by simp [oddAt, h9, g]
   have g' : (i : Int) = 0 := by omega
   subst g
   simp [dC, Tryz.f303, hi, hc', e9, c1, h0, ha]
  ·have g' : ¬ (i : Int) = 0 := by omega
   have ha : oddAt t i c = false := by simp [oddAt, oddC, h9, g]
   simp [dC, Tryz.f303, hi, hc', e9, c1, h0, ha, g, g']
 have e9 := fB h9
 simp at e9
 by_cases h10 : c = 32
 ·have e10 : (c.toNat : Int) = 32 := by rw [h10]; rfl
  rw [e10] at c1
  by_cases g : i = 0
  ·have ha : oddAt t i c = true := by simp [oddAt, h10, g]
   subst g
   simp [dC, Tryz.f303, hi, hc', e10, c1, h0, ha]
  ·have g' : ¬ (i : Int) = 0 := by omega
   by_cases g2 : i + 1 = t.length
   ·have g2' : IntKind.i64.wrap ((t.length : Int) - 1) = (i : Int) := by rw [hw]; omega
    have ha : oddAt t i c = true := by simp [oddAt, h10, g2]
    simp [dC, Tryz.f303, hi, hc', e10, c1, h0, ha, g, g', g2']
   ·have g2' : ¬ (i : Int) = (t.length : Int) - 1 := by omega
    have ha : oddAt t i c = false := by simp [oddAt, oddC, h10, g, g2]
    simp [dC, Tryz.f303, hi, hc', e10, c1, h0, ha, g, g', g2', hw]
 have e10 := fB h10
 simp at e10
 simp [dC, Tryz.f303, hi, hc', c1, h0, oddAt, ho', h9, h10, e9, e10]
theorem Ba {H G : List Ob} {v : V} {b t : Str} (h : Bs H G v b) (hb : b.length + t.length ≤ 1000000000) {z : List V} {d : LD} (hz : z.length = 1) : ∃ v' G', appendV ⟨d, 1, 1, z⟩ G v (.str t) = some (v', G') ∧ Bs H G' v' (b ++ t) := by
 obtain ⟨T, id, h0, h1, h2, h3⟩ := h
 have hg : Gs H G v (bys b) := ⟨T, id, h0, h1, h2, by rw [h3, bys_len]⟩
 have hn : newCells ⟨d, 1, 1, z⟩ G (.str t) = some (bys t, (bys t).length) := by simp [newCells, bys]
 obtain ⟨v', G', ha, T', id', e0, e1, e2, e3⟩ := hg.many hn (by simp [bys]) (by simp [bys_len]; unfold maxMade; omega) (by decide) (by decide) hz
 exact ⟨v', G', ha, T', id', e0, e1, by rw [bys_append]; exact e2, by rw [e3]; simp [bys_len]⟩
theorem xu {H : List Ob} {v : V} {dn : List PRdn} (h : ARdns H v dn) (hd : DnOk dn) : callW C 239 [v] H = some (.str (txt dn), H) := by
 apply Ret.eq
 rw [Hl]
 have hb : dn.length ≤ 6 := hd.2
 simp [vK, Tryz.f239, elemT, fillL, zerosL, St.new, h.len]
 refine WP_loop (fun k σ => ∃ (i : Nat) (r : Nat → R) (c : Nat) (G : List Ob) (vb : V), i + k = dn.length ∧ σ = ⟨r, c, G⟩ ∧ r 0 = .val v ∧ r 3 = .val vb ∧ r 8 = .val v ∧ r 9 = .val (.int .i64 dn.length) ∧ r 10 = .val (.int .i64 i) ∧ Bs H G vb (txtN dn i)) ?_ dn.length _ ⟨0, _, 0, _, _, by simp, rfl, by simp, by simp, by simp, by simp, by simp, Bs.init⟩
 rintro k σ ⟨i, r, c, G, vb, hik, rfl, r0, r3, r8, r9, r10, hB⟩
 have hbl := txtN_len hd i
 cases k with
 | zero =>
  have hi : i = dn.length := by omega
  subst hi
  obtain ⟨TT, rfl⟩ := hB.ext
  obtain ⟨id, rfl, hst, hsl⟩ := hB.cut (n := (txtN dn dn.length).length) (Nat.le_refl _)
  rw [List.take_length] at hsl
  simp [r0, r3, r8, r9, r10, hsl, hst, isByte, bys_mapM, txt]
 | succ k =>
  have hi : i < dn.length := by omega
  obtain ⟨x, hx⟩ : ∃ c, dn[i]? = some c := ⟨dn[i], by simp [hi]⟩
  have hw : IntKind.i64.wrap ((i : Int) + 1) = ((i : Int) + 1) := wrap_i64 (by omega) (by omega)
  obtain ⟨id, o, hid, e1, _, lm⟩ := rD h hx
  obtain ⟨TT, hG⟩ := hB.ext
  have lm0 := lm
  have lm := lm TT
  rw [← hG] at lm
  have q1 := (hd.1 i x hx).1.2.1
  have q2 := (hd.1 i x hx).2.2.1
  have hts := lU hx
  obtain ⟨v1, G1, hB1, hcase⟩ : ∃ v1 G1, Bs H G1 v1 (if 0 < i then txtN dn i ++ [44] else txtN dn i) ∧ ((0 < i ∧ appendV ⟨.int .u8, 1, 1, [.int .u8 0]⟩ (G ++ [.mk true 1 [.int .u8 44]]) vb (.slc (some (G.length, 0)) 1) = some (v1, G1)) ∨ (¬ 0 < i ∧ (vb = v1 ∧ G = G1))) := by
   by_cases g : 0 < i
   ·obtain ⟨v', G', ha, hB'⟩ := hB.push (by omega) (c := 44) (d := .int .u8) (z := [.int .u8 0]) rfl
    rw [if_pos g]
    exact ⟨v', G', hB', .inl ⟨g, ha⟩⟩
   ·rw [if_neg g]
    exact ⟨vb, G, hB, .inr ⟨g, rfl, rfl⟩⟩
  have hl1 : (if 0 < i then txtN dn i ++ [44] else txtN dn i).length ≤ 102 * i + 1 := by
   split
   ·simp; omega
   ·omega
  generalize (if 0 < i then txtN dn i ++ [44] else txtN dn i) = b1 at hts hB1 hl1
  obtain ⟨T1, hG1⟩ := hB1.ext
  have lm1 := lm0 T1
  rw [← hG1] at lm1
  obtain ⟨v2, G2, ha2, hB2⟩ := Ba (t := x.attr) hB1 (by omega) (d := .int .u8) (z := [.int .u8 0]) rfl
  obtain ⟨v3, G3, ha3, hB3⟩ := hB2.push (by simp; omega) (c := 61) (d := .int .u8) (z := [.int .u8 0]) rfl
  simp at ha3
  have hts' : txtN dn (i + 1) = b1 ++ x.attr ++ [61] ++ esc x.value := hts
  have hl3 : (b1 ++ x.attr ++ [61]).length ≤ 102 * i + 100 := by simp; omega
  generalize b1 ++ x.attr ++ [61] = b3 at hts' hB3 hl3
  rcases hcase with ⟨g, ha1⟩ | ⟨g, ha1⟩ <;> (
   simp [r0, r3, r8, r9, r10, hi, e1, lm, lm1, g, ha1, ha2, ha3, elemT, fillL, zerosL, St.new, badArg]
   refine WP_loop (fun m σ => ∃ (j : Nat) (r' : Nat → R) (G' : List Ob) (v' : V), j + m = x.value.length ∧ σ = ⟨r', c + 1, G'⟩ ∧ r' 0 = .val v ∧ r' 3 = .val v' ∧ r' 5 = .box c [.str x.attr, .str x.value] ∧ r' 8 = .val v ∧ r' 9 = .val (.int .i64 dn.length) ∧ r' 10 = .val (.int .i64 i) ∧ r' 28 = .val (.int .i64 x.value.length) ∧ r' 29 = .val (.int .i64 j) ∧ Bs H G' v' (b3 ++ escN x.value j)) ?_ x.value.length _ ⟨0, _, G3, v3, by simp, rfl, by simp [r0], by simp, by simp, by simp [r8], by simp [r9], by simp [r10], by simp, by simp, by simpa [escN] using hB3⟩
   rintro m σ ⟨j, r', G', v', hjm, rfl, s0, s3, s5, s8, s9, s10, s28, s29, hB4⟩
   have hbl2 := escN_len x.value j
   cases m with
   | zero =>
    have hj : j = x.value.length := by omega
    subst hj
    rw [show escN x.value x.value.length = esc x.value from rfl, ← hts'] at hB4
    simp [s0, s3, s5, s8, s9, s10, s28, s29, hw]
    exact ⟨k, by omega, i + 1, by omega, _, _, _, ⟨rfl, rfl, rfl⟩, by simp [s0], _, by simp [s3], by simp [s8], by simp [s9], by simp, hB4⟩
   | succ m =>
    have hj : j < x.value.length := by omega
    obtain ⟨cc, hcc⟩ : ∃ c, x.value[j]? = some c := ⟨x.value[j], by simp [hj]⟩
    have hcc' : x.value[j] = cc := (List.getElem?_eq_some_iff.1 hcc).2
    have hwj : IntKind.i64.wrap ((j : Int) + 1) = ((j : Int) + 1) := wrap_i64 (by omega) (by omega)
    have c1 : callW C 303 [.str x.value, .int .i64 j] G' = some (.bool (oddAt x.value j cc), G') := qW hcc (by omega)
    have hes := mf hcc
    have hlb : (b3 ++ escN x.value j).length ≤ 1000 := by simp; omega
    cases ho : oddAt x.value j cc with
    | false =>
     rw [ho] at c1
     rw [ho, if_neg (by simp)] at hes
     obtain ⟨v5, G5, hb1, hB5⟩ := hB4.push (by omega) (c := cc) (d := .int .u8) (z := [.int .u8 0]) rfl
     rw [List.append_assoc, ← hes] at hB5
     simp [s0, s3, s5, s8, s9, s10, s28, s29, hj, hcc', c1, elemT, fillL, zerosL, St.new, badArg, hb1, hwj]
     exact ⟨m, by omega, j + 1, by omega, _, _, ⟨rfl, rfl⟩, by simp [s0], _, by simp, by simp [s5], by simp [s8], by simp [s9], by simp [s10], by simp [s28], by simp, hB5⟩
    | true =>
     rw [ho] at c1
     rw [ho, if_pos rfl] at hes
     obtain ⟨v5, G5, hb1, hB5⟩ := hB4.push (by omega) (c := 92) (d := .int .u8) (z := [.int .u8 0]) rfl
     obtain ⟨v6, G6, hb2, hB6⟩ := hB5.push (by rw [List.length_append]; simp only [List.length_cons, List.length_nil]; omega) (c := cc) (d := .int .u8) (z := [.int .u8 0]) rfl
     rw [List.append_assoc, List.append_assoc, ← List.append_assoc (escN x.value j), ← hes] at hB6
     simp at hb1
     simp [s0, s3, s5, s8, s9, s10, s28, s29, hj, hcc', c1, elemT, fillL, zerosL, St.new, badArg, hb1, hb2, hwj]
     exact ⟨m, by omega, j + 1, by omega, _, _, ⟨rfl, rfl⟩, by simp [s0], _, by simp, by simp [s5], by simp [s8], by simp [s9], by simp [s10], by simp [s28], by simp, hB6⟩)
abbrev qY (id off n i : Nat) : V := .slc (some (id, off + i * 3)) (n - i)
theorem qV {H : List Ob} {v : V} {f : List PPart} (h : AParts H v f) (hf : 0 < f.length) : ∃ id off, v = qY id off f.length 0 ∧ (∀ i, i ≤ f.length → AParts H (qY id off f.length i) (f.drop i)) ∧ (∀ G, (∃ S, G = H ++ S) → strideIs G id 3 = true) := by
 obtain ⟨s1, s2, a1, a2, hc⟩ := h.cut (i := 0) (Nat.zero_le _)
 rcases hc with ⟨_, _, _, _, h0⟩ | ⟨id, off, hv, _, _, hst⟩
 ·rw [h0] at hf; cases hf
 refine ⟨id, off, by rw [hv]; simp, fun i hi => ?_, hst⟩
 obtain ⟨_, s2', _, a2', hc'⟩ := h.cut hi
 rcases hc' with ⟨_, _, _, _, h0⟩ | ⟨id', off', hv', _, hs2, _⟩
 ·rw [h0] at hf; cases hf
 rw [hv] at hv'
 cases hv'
 rw [hs2] at a2'
 exact a2'
end Go.Proofs.Try1
end
