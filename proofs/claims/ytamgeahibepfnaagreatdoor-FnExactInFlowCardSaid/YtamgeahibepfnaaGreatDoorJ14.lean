/- Part 14 of the proof of a law: the interpreter, its soundness, and what functions of the program compute over it. Conditions: none but those that each theorem names. -/
import Derived.Test.YtamgeahibepfnaaGreatDoorJ13
import Derived.Test.YtamgeahibepfnaaGreatDoorJ08
import Derived.Test.YtamgeahibepfnaaGreatDoorJ06

set_option linter.all false
set_option maxRecDepth 20000
set_option maxHeartbeats 40000000
section
namespace Go.Proofs.Try1
open Go Go.Lite
attribute [-simp] WP_region WP_cond
attribute [local simp] WP_regionF WP_condF ThenW_some ThenW_none CondW_true CondW_false
attribute [local simp low] CondW_bool
def BegOk (t s : Str) : Prop := s.length ≤ t.length ∧ t.take s.length = s
def ItemB (op : Int) (x v : Str) : Prop := (op = 4 ∧ x = v) ∨ op = 5 ∨ (op = 6 ∧ BegOk x v) ∨ (op = 7 ∧ Op.bytesLess x v = false) ∨ (op = 8 ∧ (Op.bytesLess x v = true ∨ x = v))
def ItemOk (n : PNode) (az : List PAttr) : Prop := ∃ x ∈ valsOf az n.attr, ItemB n.op (norm x) (norm n.value)
theorem s_Begins {t s : Str} {H : List Ob} : callW C 307 [.str t, .str s] H = some (.bool (dec (BegOk t s)), H) := by
 apply Ret.dec
 rw [op307]
 unfold BegOk
 by_cases g : s.length ≤ t.length
 ·simp [code307, Tryz.f307, g]
  exact (Classical.em _).symm
 ·simp [code307, Tryz.f307, g]
theorem i_HasPre {t s : Str} {H : List Ob} : callW C 350 [.str t, .str s] H = some (.bool (dec (BegOk t s)), H) := by
 apply Ret.dec
 rw [op350]
 unfold BegOk
 by_cases g : s.length ≤ t.length
 ·simp [code350, Tryz.f350, g]
  exact (Classical.em _).symm
 ·simp [code350, Tryz.f350, g]
theorem i_HasPrefix {t s : Str} {H : List Ob} : callW C 316 [.str t, .str s] H = some (.bool (dec (BegOk t s)), H) := by
 apply Ret.dec
 rw [op316]
 have c1 := i_HasPre (t := t) (s := s) (H := H)
 by_cases g : BegOk t s
 ·rw [dec_pos g] at c1
  simp [code316, Tryz.f316, c1, g]
 ·rw [dec_neg g] at c1
  simp [code316, Tryz.f316, c1, g]
theorem s_Inner {n : PNode} {H : List Ob} : callW C 225 [.agg n.cs] H = some (.bool (dec n.Inner), H) := by
 apply Ret.dec
 rw [op225]
 unfold PNode.Inner
 by_cases o1 : n.op = 1
 ·simp [code225, Tryz.f225, o1]
 by_cases o2 : n.op = 2
 ·simp [code225, Tryz.f225, o2]
 by_cases o3 : n.op = 3
 ·simp [code225, Tryz.f225, o3]
 ·simp [code225, Tryz.f225, o1, o2, o3]
def truthI (b : Bool) : Int := if b then 1 else 0
theorem s_Truth {b : Bool} {H : List Ob} : callW C 228 [.bool b] H = some (.int .i64 (truthI b), H) := by
 suffices hs : Ret C 228 [.bool b] H fun q H' => q = .int .i64 (truthI b) ∧ H' = H by
  obtain ⟨q, H', hc, rfl, rfl⟩ := hs
  exact hc
 rw [op228]
 cases b <;> simp [code228, Tryz.f228, truthI]
theorem i_truth {b : Bool} {H : List Ob} : callW C 314 [.bool b] H = some (.int .i64 (truthI b), H) := by
 suffices hs : Ret C 314 [.bool b] H fun q H' => q = .int .i64 (truthI b) ∧ H' = H by
  obtain ⟨q, H', hc, rfl, rfl⟩ := hs
  exact hc
 rw [op314]
 cases b <;> simp [code314, Tryz.f314, truthI]
def notI (n : Int) : Int := if n = 0 then 1 else if n = 1 then 0 else 2
theorem s_Not {n : Int} {H : List Ob} : callW C 230 [.int .i64 n] H = some (.int .i64 (notI n), H) := by
 suffices hs : Ret C 230 [.int .i64 n] H fun q H' => q = .int .i64 (notI n) ∧ H' = H by
  obtain ⟨q, H', hc, rfl, rfl⟩ := hs
  exact hc
 rw [op230]
 unfold notI
 by_cases h0 : n = 0
 ·simp [code230, Tryz.f230, h0]
 by_cases h1 : n = 1
 ·simp [code230, Tryz.f230, h1]
 ·simp [code230, Tryz.f230, h0, h1]
theorem i_Not {n : Int} {H : List Ob} : callW C 240 [.int .i64 n] H = some (.int .i64 (notI n), H) := by
 suffices hs : Ret C 240 [.int .i64 n] H fun q H' => q = .int .i64 (notI n) ∧ H' = H by
  obtain ⟨q, H', hc, rfl, rfl⟩ := hs
  exact hc
 rw [op240]
 unfold notI
 by_cases h0 : n = 0
 ·simp [code240, Tryz.f240, h0]
 by_cases h1 : n = 1
 ·simp [code240, Tryz.f240, h1]
 ·simp [code240, Tryz.f240, h0, h1]
theorem s_Item {n : PNode} {v v' : V} {az : List PAttr} {H : List Ob} (h : AAttrs H v az) (ho : cellsOf v' = some [v']) (ho' : isOne v' = true) (hn : n.op = 4 ∨ n.op = 5 ∨ n.op = 6 ∨ n.op = 7 ∨ n.op = 8) :
  callW C 229 [.agg n.cs, .agg [v', v]] H = some (.bool (dec (ItemOk n az)), H) := by
 apply Ret.dec
 rw [op229]
 have h1 := h.one
 obtain ⟨w, c1, hw⟩ := s_Of (t := n.attr) h ho ho'
 have c2 := s_Norm (t := n.value) (H := H)
 obtain ⟨l, hl⟩ : ∃ l, l = valsOf az n.attr := ⟨_, rfl⟩
 unfold ItemOk
 rw [← hl] at hw ⊢
 have hb : l.length ≤ 9223372036854775807 := hw.bound
 have hw1 := hw.one
 simp [code229, Tryz.f229, c1, c2, h1, ho, ho', hw1]
 refine WP_loop (fun k σ => ∃ (i : Nat) (r : Nat → R), i + k = l.length ∧ σ = ⟨r, 2, H⟩ ∧ r 2 = .box 0 n.cs ∧ r 5 = .val w ∧ r 6 = .val (.str (norm n.value)) ∧ r 7 = .val (.int .i64 i) ∧ ∀ j x, j < i → l[j]? = some x → ¬ ItemB n.op (norm x) (norm n.value)) ?_ l.length _ ⟨0, _, by simp, rfl, by simp, by simp, by simp, by simp, by simp⟩
 rintro k σ ⟨i, r, hik, rfl, r2, r5, r6, r7, hall⟩
 cases k with
 | zero =>
  have hi : i = l.length := by omega
  subst hi
  have hx := at_all (P := fun j (x : Str) => ¬ ItemB n.op (norm x) (norm n.value)) hall
  have hno : ∀ x ∈ l, ¬ ItemB n.op (norm x) (norm n.value) := by
   intro x hm
   obtain ⟨j, hj, e⟩ := List.getElem_of_mem hm
   exact hx j x (by rw [List.getElem?_eq_getElem hj, e])
  simp [r2, r5, r6, r7, hw.len]
  exact hno
 | succ k =>
  have hi : i < l.length := by omega
  obtain ⟨x, hx⟩ : ∃ c, l[i]? = some c := ⟨l[i], by simp [hi]⟩
  have hmem : x ∈ l := List.mem_of_getElem? hx
  have hwr : IntKind.i64.wrap ((i : Int) + 1) = ((i : Int) + 1) := wrap_i64 (by omega) (by omega)
  obtain ⟨id, o, e1, l0, _⟩ := strs_idx hw hx
  have c3 := s_Norm (t := x) (H := H)
  have c4 := s_Begins (t := norm x) (s := norm n.value) (H := H)
  by_cases g : ItemB n.op (norm x) (norm n.value)
  ·have g' := g
   have hex : ∃ x ∈ l, ItemB n.op (norm x) (norm n.value) := ⟨x, hmem, g⟩
   rcases g with ⟨o4, g⟩ | o4 | ⟨o4, g⟩ | ⟨o4, g⟩ | ⟨o4, g⟩
   ·simp [r2, r5, r6, r7, hi, hw.len, e1, l0, c3, o4, g]
    rw [o4] at hex
    exact hex
   ·simp [r2, r5, r6, r7, hi, hw.len, e1, l0, c3, o4]
    rw [o4] at hex
    exact hex
   ·rw [dec_pos g] at c4
    simp [r2, r5, r6, r7, hi, hw.len, e1, l0, c3, o4, c4]
    rw [o4] at hex
    exact hex
   ·simp [r2, r5, r6, r7, hi, hw.len, e1, l0, c3, o4, g]
    rw [o4] at hex
    exact hex
   ·have hg : (Op.bytesLess (norm x) (norm n.value) || decide (norm x = norm n.value)) = true := by simpa using g
    simp [r2, r5, r6, r7, hi, hw.len, e1, l0, c3, o4, hg]
    rw [o4] at hex
    exact hex
  ·have hst := at_step (P := fun j (x : Str) => ¬ ItemB n.op (norm x) (norm n.value)) hall hx g
   unfold ItemB at g
   rcases hn with o4 | o4 | o4 | o4 | o4
   ·have g' : ¬ norm x = norm n.value := fun h => g (.inl ⟨o4, h⟩)
    simp [r2, r5, r6, r7, hi, hw.len, e1, l0, c3, o4, g', hwr]
    exact ⟨k, by omega, i + 1, by omega, by omega, by rw [← o4]; exact hst⟩
   ·exact absurd (.inr (.inl o4)) g
   ·have g' : ¬ BegOk (norm x) (norm n.value) := fun h => g (.inr (.inr (.inl ⟨o4, h⟩)))
    rw [dec_neg g'] at c4
    simp [r2, r5, r6, r7, hi, hw.len, e1, l0, c3, o4, c4, hwr]
    exact ⟨k, by omega, i + 1, by omega, by omega, by rw [← o4]; exact hst⟩
   ·have g' : Op.bytesLess (norm x) (norm n.value) = true := by
     cases hb : Op.bytesLess (norm x) (norm n.value) with
     | true => rfl
     | false => exact absurd (.inr (.inr (.inr (.inl ⟨o4, hb⟩)))) g
    simp [r2, r5, r6, r7, hi, hw.len, e1, l0, c3, o4, g', hwr]
    exact ⟨k, by omega, i + 1, by omega, by omega, by rw [← o4]; exact hst⟩
   ·have g1 : ¬ norm x = norm n.value := fun h => g (.inr (.inr (.inr (.inr ⟨o4, .inr h⟩))))
    have g2 : Op.bytesLess (norm x) (norm n.value) = false := by
     cases hb : Op.bytesLess (norm x) (norm n.value) with
     | false => rfl
     | true => exact absurd (.inr (.inr (.inr (.inr ⟨o4, .inl hb⟩)))) g
    simp [r2, r5, r6, r7, hi, hw.len, e1, l0, c3, o4, g1, g2, hwr]
    exact ⟨k, by omega, i + 1, by omega, by omega, by rw [← o4]; exact hst⟩
end Go.Proofs.Try1
end
section
namespace Go.Lite
open Go
section
variable {α : Type} {G : List Ob} {sh : Sh} {f : α → U} {v : V} {l : List α} {F : List Nat}
theorem chunk_take {D : List V} {s i j : Nat} (h : j * s + s ≤ i * s) : ((D.take (i * s)).drop (j * s)).take s = (D.drop (j * s)).take s := by
 apply List.ext_getElem?
 intro q
 by_cases hq : q < s
 ·rw [List.getElem?_take_of_lt hq, List.getElem?_take_of_lt hq, List.getElem?_drop, List.getElem?_take_of_lt (by omega), List.getElem?_drop]
 ·rw [List.getElem?_eq_none (by simp; omega), List.getElem?_eq_none (by simp; omega)]
end
section
variable {α : Type} {G : List Ob} {sh : Sh} {f : α → U} {v : V} {l : List α} {F : List Nat}
end
section
variable {α : Type} {G : List Ob} {sh : Sh} {f : α → U} {v : V} {l : List α} {F : List Nat}
end
def Rw (s : Nat) (B G : List Ob) (v : V) (n : Nat) (cs : List V) : Prop :=
 (∃ T, G = B ++ T) ∧ cs.length = n * s ∧ ((v = .slc none 0 ∧ n = 0) ∨ ∃ id, v = .slc (some (id, 0)) n ∧ B.length ≤ id ∧ G[id]? = some (.mk true s cs))
section
variable {s n m : Nat} {B G : List Ob} {v : V} {cs xs : List V}
theorem Rw.nil : Rw s B B (.slc none 0) 0 [] := ⟨⟨[], by simp⟩, by simp, .inl ⟨rfl, rfl⟩⟩
theorem Rw.init (hB : ∃ T, G = B ++ T) : Rw s B (G ++ [.mk true s []]) (.slc (some (G.length, 0)) 0) 0 [] := by
 obtain ⟨T, rfl⟩ := hB
 exact ⟨⟨T ++ [.mk true s []], by simp⟩, by simp, .inr ⟨(B ++ T).length, rfl, by simp, get_last⟩⟩
theorem Rw.pre (h : Rw s B G v n cs) : ∃ T, G = B ++ T := h.1
theorem Rw.ext {T : List Ob} (h : Rw s B G v n cs) : Rw s B (G ++ T) v n cs := by
 obtain ⟨⟨S, rfl⟩, h2, h3⟩ := h
 exact ⟨⟨S ++ T, by simp⟩, h2, h3.imp id fun ⟨id, q1, q2, q3⟩ => ⟨id, q1, q2, up_append _ _ q3⟩⟩
theorem Rw.one (h : Rw s B G v n cs) : isOne v = true ∧ cellsOf v = some [v] := by
 rcases h.2.2 with ⟨rfl, _⟩ | ⟨id, rfl, _⟩ <;> exact ⟨rfl, rfl⟩
theorem Rw.many (h : Rw s B G v n cs) {d : LD} {by_ : Nat} {z : List V} {x : V} (hx : newCells ⟨d, s, by_, z⟩ G x = some (xs, m)) (hm : xs.length = m * s) (ho : xs.all isOne = true)
  (hz : z.length = s) (h0 : 0 < s) (hb0 : 0 < by_) (hb1 : by_ ≤ 1000000) (hb : (n + m) * by_ ≤ maxMade) :
  ∃ v' G', appendV ⟨d, s, by_, z⟩ G v x = some (v', G') ∧ Rw s B G' v' (n + m) (cs ++ xs) := by
 by_cases hm0 : m = 0
 ·subst hm0
  have hx0 : xs = [] := List.length_eq_zero_iff.1 (by omega)
  subst hx0
  refine ⟨v, G, ?_, by simpa using h⟩
  unfold appendV
  rw [if_pos (by simp [growOk, h0, hb0, hb1, hz]), hx]
  simp only [if_true]
  rcases h.2.2 with ⟨rfl, _⟩ | ⟨id, rfl, _⟩ <;> rfl
 obtain ⟨⟨T, rfl⟩, h2, h3⟩ := h
 rcases h3 with ⟨rfl, rfl⟩ | ⟨id, rfl, q2, q3⟩
 ·have hc0 : cs = [] := List.length_eq_zero_iff.1 (by omega)
  subst hc0
  refine ⟨_, _, appendV_nil hz h0 hb0 hb1 hx hm0 ho (by simpa using hb), ⟨T ++ [.mk true s xs], by simp⟩, by simp [hm], .inr ⟨(B ++ T).length, by simp, by simp, ?_⟩⟩
  rw [List.nil_append]; exact get_last
 ·refine ⟨_, _, appendV_row hz h0 hb0 hb1 q3 h2 hx hm0 ho hb, ⟨T.set (id - B.length) .dead ++ [.mk true s (cs ++ xs)], ?_⟩, by simp [h2, hm, Nat.add_mul], .inr ⟨(B ++ T).length, rfl, by simp, ?_⟩⟩
  ·rw [List.set_append_right _ _ q2, List.append_assoc]
  ·have hl : ((B ++ T).set id .dead).length = (B ++ T).length := List.length_set
   rw [← hl, get_last]
end
def RowsOk (B : List Ob) (sh : Sh) (cs : List V) (us : List U) (Fs : List (List Nat)) : Prop :=
 cs.length = us.length * sh.size ∧ Fs.length = us.length ∧ ∀ i x F, us[i]? = some x → Fs[i]? = some F → AtF B sh ((cs.drop (i * sh.size)).take sh.size) x F
section
variable {B G : List Ob} {sh : Sh} {cs cs' : List V} {us us' : List U} {Fs Fs' : List (List Nat)} {v : V}
theorem RowsOk.nil : RowsOk B sh [] [] [] := ⟨by simp, rfl, fun i x F h => by cases h⟩
theorem RowsOk.one {c : List V} {x : U} {F : List Nat} (h : AtF B sh c x F) : RowsOk B sh c [x] [F] := by
 have hl : c.length = sh.size := At.len _ (AtF.at _ h)
 refine ⟨by simp [hl], rfl, fun i y K hy hK => ?_⟩
 cases i with
 | zero => cases hy; cases hK; rw [Nat.zero_mul, List.drop_zero, List.take_of_length_le (by omega)]; exact h
 | succ i => cases hy
theorem RowsOk.take (h : RowsOk B sh cs us Fs) {k : Nat} (hk : k ≤ us.length) : RowsOk B sh (cs.take (k * sh.size)) (us.take k) (Fs.take k) := by
 obtain ⟨h1, h2, h3⟩ := h
 have hm : k * sh.size ≤ us.length * sh.size := Nat.mul_le_mul_right _ hk
 refine ⟨by simp [Nat.min_eq_left hk]; omega, by simp; omega, fun i x F hx hF => ?_⟩
 have hi : i < k := by have := (List.getElem?_eq_some_iff.1 hx).1; simp at this; omega
 rw [List.getElem?_take_of_lt hi] at hx hF
 have hs : i * sh.size + sh.size ≤ k * sh.size := mul_step hi
 have := h3 i x F hx hF
 rw [chunk_take hs]
 exact this
theorem RowsOk.drop (h : RowsOk B sh cs us Fs) {k : Nat} (hk : k ≤ us.length) : RowsOk B sh (cs.drop (k * sh.size)) (us.drop k) (Fs.drop k) := by
 obtain ⟨h1, h2, h3⟩ := h
 refine ⟨by simp [h1, Nat.sub_mul], by simp; omega, fun i x F hx hF => ?_⟩
 rw [List.getElem?_drop] at hx hF
 have := h3 (k + i) x F hx hF
 rw [List.drop_drop, ← Nat.add_mul]
 exact this
theorem RowsOk.append (h : RowsOk B sh cs us Fs) (h' : RowsOk B sh cs' us' Fs') : RowsOk B sh (cs ++ cs') (us ++ us') (Fs ++ Fs') := by
 obtain ⟨h1, h2, h3⟩ := h
 obtain ⟨k1, k2, k3⟩ := h'
 refine ⟨by simp [h1, k1, Nat.add_mul], by simp [h2, k2], fun i x F hx hF => ?_⟩
 by_cases hi : i < us.length
 ·rw [List.getElem?_append_left hi] at hx
  rw [List.getElem?_append_left (by omega)] at hF
  have hs : i * sh.size + sh.size ≤ us.length * sh.size := mul_step hi
  rw [List.drop_append_of_le_length (by omega), List.take_append_of_le_length (by simp; omega)]
  exact h3 i x F hx hF
 ·obtain ⟨t, rfl⟩ : ∃ t, i = us.length + t := ⟨i - us.length, by omega⟩
  rw [List.getElem?_append_right (by omega)] at hx hF
  rw [show us.length + t - us.length = t by omega] at hx
  rw [show us.length + t - Fs.length = t by omega] at hF
  have e : (us.length + t) * sh.size = cs.length + t * sh.size := by rw [Nat.add_mul, h1]
  rw [e, List.drop_append, List.drop_eq_nil_of_le (by omega), List.nil_append, Nat.add_sub_cancel_left]
  exact k3 t x F hx hF
theorem RowsOk.ones (h : RowsOk B sh cs us Fs) : cs.all isOne = true := by
 refine rows_ones (n := us.length) (s := sh.size) h.1 fun j hj => ?_
 have hF : j < Fs.length := by rw [h.2.1]; exact hj
 exact At.ones _ (AtF.at _ (h.2.2 j us[j] Fs[j] (List.getElem?_eq_getElem hj) (List.getElem?_eq_getElem hF)))
theorem RowsOk.mem (h : RowsOk B sh cs us Fs) : ∀ q ∈ Fs.flatten, q < B.length := fun q hq => by
 obtain ⟨F, hF, hq⟩ := List.mem_flatten.1 hq
 obtain ⟨i, hi, rfl⟩ := List.getElem_of_mem hF
 have hi' : i < us.length := by rw [← h.2.1]; exact hi
 exact AtF.mem _ (h.2.2 i us[i] Fs[i] (List.getElem?_eq_getElem hi') (List.getElem?_eq_getElem hi)) q hq
theorem RowsOk.frame (h : RowsOk B sh cs us Fs) (hG : ∀ q ∈ Fs.flatten, G[q]? = B[q]?) : RowsOk G sh cs us Fs :=
 ⟨h.1, h.2.1, fun i x F hx hF => AtF.frame _ (fun q hq => hG q (List.mem_flatten.2 ⟨F, List.mem_of_getElem? hF, hq⟩)) (h.2.2 i x F hx hF)⟩
theorem AtF.rows {F : List Nat} (h : AtF B (.slice sh) [v] (.lst us) F) (hn : F.Nodup) : ∃ p cs Fs, v = .slc p us.length ∧ RowsOk B sh cs us Fs ∧ Fs.flatten.Nodup ∧ (∀ q ∈ Fs.flatten, q ∈ F) ∧
  ((p = none ∧ us = []) ∨ ∃ id off cells, p = some (id, off) ∧ B[id]? = some (.mk true sh.size cells) ∧ id ∈ F ∧ id ∉ Fs.flatten ∧
   ∀ (d : LD) (by_ : Nat) (z : List V) (G : List Ob) (lo hi : Nat), G[id]? = B[id]? → lo ≤ hi → hi ≤ us.length →
    newCells ⟨d, sh.size, by_, z⟩ G (.slc (some (id, off + lo * sh.size)) (hi - lo)) = some ((cs.drop (lo * sh.size)).take ((hi - lo) * sh.size), hi - lo)) := by
 obtain ⟨w, us', hw, hus, hlen, h⟩ := AtF_slice.1 h
 cases hw
 cases hus
 rcases h with ⟨rfl, rfl, rfl⟩ | ⟨id, off, cells, Fs, rfl, h2, h3, h4, rfl, h6⟩
 ·exact ⟨none, [], [], rfl, RowsOk.nil, by simp, by simp, .inl ⟨rfl, rfl⟩⟩
 ·obtain ⟨hn1, hn2⟩ := List.nodup_cons.1 hn
  have hcl : ((cells.drop off).take (us.length * sh.size)).length = us.length * sh.size := by simp; omega
  refine ⟨some (id, off), (cells.drop off).take (us.length * sh.size), Fs, rfl, ⟨hcl, h4, fun i x F hx hF => ?_⟩, hn2, fun q hq => List.mem_cons_of_mem _ hq, .inr ⟨id, off, cells, rfl, h2, List.mem_cons_self, hn1, fun d by_ z G lo hi hG hlo hhi => ?_⟩⟩
  ·rw [row_chunk h3 (List.getElem?_eq_some_iff.1 hx).1]
   exact h6 i x F hx hF
  ·have e1 : lo * sh.size + (hi - lo) * sh.size = hi * sh.size := by rw [← Nat.add_mul]; congr 1; omega
   have e2 : hi * sh.size ≤ us.length * sh.size := Nat.mul_le_mul_right _ hhi
   have e3 : (((cells.drop off).take (us.length * sh.size)).drop (lo * sh.size)).take ((hi - lo) * sh.size) = (cells.drop (off + lo * sh.size)).take ((hi - lo) * sh.size) := by
    rw [List.drop_take, List.take_take, List.drop_drop, Nat.min_eq_left (by omega)]
   rw [e3]
   simp only [newCells, slcCells, hG, h2]
   by_cases h0 : (hi - lo) * sh.size = 0
   ·rw [if_pos h0, h0, List.take_zero]
   ·rw [if_neg h0]
    unfold rdCells
    rw [if_pos (by omega)]
end
section
variable {H S X : List Ob} {l : List Nat} {k : Nat} {o : Ob}
theorem hideL_app : hideL l H.length (H ++ S) = H ++ hideL l 0 S := by
 apply List.ext_getElem?
 intro i
 rw [hideL_get]
 by_cases hi : i < H.length
 ·rw [List.getElem?_append_left hi, List.getElem?_append_left hi]
  cases H[i]? with
  | none => rfl
  | some o => rw [Option.map_some, if_neg (fun hc => absurd hc.1 (by omega))]
 ·rw [List.getElem?_append_right (by omega), List.getElem?_append_right (by omega), hideL_get]
  have : (H.length ≤ i ∧ l.contains (i - H.length) = true) ↔ (0 ≤ i - H.length ∧ l.contains (i - H.length - 0) = true) := by simp; omega
  simp only [this]
theorem backL_app : backL l H.length (H ++ S) (H ++ X) = H ++ backL l 0 S X := by
 apply List.ext_getElem?
 intro i
 rw [backL_get]
 by_cases hi : i < H.length
 ·rw [List.getElem?_append_left hi, List.getElem?_append_left hi]
  cases H[i]? with
  | none => rfl
  | some o => rw [Option.map_some, if_neg (fun hc => absurd hc.1 (by omega))]
 ·rw [List.getElem?_append_right (by omega), List.getElem?_append_right (by omega), backL_get]
  have : (H.length ≤ i ∧ l.contains (i - H.length) = true) ↔ (0 ≤ i - H.length ∧ l.contains (i - H.length - 0) = true) := by simp; omega
  simp only [this, List.getD_eq_getElem?_getD]
  rw [List.getElem?_append_right (by omega)]
theorem set_app_at : (H ++ S).set (H.length + k) o = H ++ S.set k o := by
 rw [List.set_append_right _ _ (by omega), Nat.add_sub_cancel_left]
end
end Go.Lite
end
section
namespace Go.Proofs.Try1
open Go Go.Lite
attribute [-simp] WP_region WP_cond
attribute [local simp] WP_regionF WP_condF ThenW_some ThenW_none CondW_true CondW_false
attribute [local simp low] CondW_bool
theorem i_valuesT {H : List Ob} {ide : Nat} {own : Bool} {es : Nat} {vd va : V} {l : List PAttr} {t : Str} (he : H[ide]? = some (.mk own es [vd, va])) (h : AAttrs H va l) (hl : l.length ≤ 1000) (hp : l.Pairwise fun a b => a.name < b.name) :
  ∃ w, (∀ T, callW C 287 [.ptr (some (ide, 0)), .str t] (H ++ T) = some (w, H ++ T)) ∧ AStrs H w (valsOf l t) := by
 cases hf : firstOf PAttr.name l t with
 | none =>
  have hv : valsOf l t = [] := by unfold valsOf; rw [hf]
  refine ⟨.slc none 0, fun T => ?_, by rw [hv]; exact At_slice.2 ⟨_, _, rfl, rfl, by simp, .inl ⟨rfl, rfl⟩⟩⟩
  have heT : (H ++ T)[ide]? = some (.mk own es [vd, va]) := up_append _ _ he
  obtain ⟨i, ok, c1, h1, h2⟩ := i_find (t := t) heT h.ext hl hp
  cases ok with
  | true =>
   obtain ⟨a, ha, hat⟩ := h1 rfl
   rw [first_uniq hp ha hat] at hf
   cases hf
  | false =>
   suffices hs : Ret C 287 [.ptr (some (ide, 0)), .str t] (H ++ T) fun q H' => q = .slc none 0 ∧ H' = H ++ T by
    obtain ⟨q, H', hc, rfl, rfl⟩ := hs
    exact hc
   rw [op287]
   simp [code287, Tryz.f287, c1]
 | some a0 =>
  have hv : valsOf l t = a0.vals := by unfold valsOf; rw [hf]
  obtain ⟨i0, hi0, hfst⟩ : ∃ i, l[i]? = some a0 ∧ a0.name = t := by
   unfold firstOf at hf
   obtain ⟨h1, i, h2, h3, h4⟩ := List.find?_eq_some_iff_getElem.1 hf
   exact ⟨i, by rw [List.getElem?_eq_getElem h2, h3], by simpa using h1⟩
  obtain ⟨id, o, own2, cells, e1, e2, e3, e4⟩ := ASl.idx h hi0 (by decide)
  obtain ⟨w, e4, e5, e6⟩ := attr_at.1 e4
  have hsz : shAttr.size = 2 := rfl
  rw [hsz] at e1 e2 e3 e4
  refine ⟨w, fun T => ?_, by rw [hv]; exact e6⟩
  have heT : (H ++ T)[ide]? = some (.mk own es [vd, va]) := up_append _ _ he
  obtain ⟨i, ok, c1, h1, h2⟩ := i_find (t := t) heT h.ext hl hp
  cases ok with
  | false => exact absurd hfst (h2 rfl a0 (List.mem_of_getElem? hi0))
  | true =>
   obtain ⟨a, ha, hat⟩ := h1 rfl
   have hii : i = i0 := by
    obtain ⟨g1, g2⟩ := List.getElem?_eq_some_iff.1 ha
    obtain ⟨g3, g4⟩ := List.getElem?_eq_some_iff.1 hi0
    rcases Nat.lt_trichotomy i i0 with g | g | g
    ·have := List.pairwise_iff_getElem.1 hp i i0 g1 g3 g
     rw [g2, g4, hat, hfst] at this
     exact absurd this (by simp)
    ·exact g
    ·have := List.pairwise_iff_getElem.1 hp i0 i g3 g1 g
     rw [g2, g4, hat, hfst] at this
     exact absurd this (by simp)
   subst hii
   have ld := load1 (o := 1) (v := va) heT rfl
   have l1 := load1 (o := o + 1) (v := w) (up_append (T := T) _ _ e2) (by simpa using cells_get e4 (j := 1) rfl)
   suffices hs : Ret C 287 [.ptr (some (ide, 0)), .str t] (H ++ T) fun q H' => q = w ∧ H' = H ++ T by
    obtain ⟨q, H', hc, rfl, rfl⟩ := hs
    exact hc
   rw [op287]
   simp [code287, Tryz.f287, c1, ld, e1, l1]
theorem i_item1 {n : PNode} {x v : Str} {H : List Ob} {idn idv : Nat} {o1 o2 : Bool} {es1 es2 : Nat} (hn : H[idn]? = some (.mk o1 es1 n.cs)) (hv : H[idv]? = some (.mk o2 es2 [.str v])) (ho : n.op = 4 ∨ n.op = 5 ∨ n.op = 6 ∨ n.op = 7 ∨ n.op = 8) :
  callW C 315 [.str x, .ptr (some (idn, 0)), .ptr (some (idv, 0))] H = some (.bool (dec (ItemB n.op (norm x) v)), H) := by
 apply Ret.dec
 rw [op315]
 have c1 := i_Norm (t := x) (H := H)
 have c2 := i_HasPrefix (t := norm x) (s := v) (H := H)
 have l0 := load1 (o := 0) (v := .int .i64 n.op) hn rfl
 have l1 := load1 (o := 0) (v := .str v) hv rfl
 unfold ItemB
 rcases ho with o4 | o4 | o4 | o4 | o4
 ·rw [o4] at l0
  simp [code315, Tryz.f315, c1, l0, l1, o4]
  exact (Classical.em _).symm
 ·rw [o4] at l0
  simp [code315, Tryz.f315, c1, l0, l1, o4]
 ·rw [o4] at l0
  by_cases g : BegOk (norm x) v
  ·rw [dec_pos g] at c2
   simp [code315, Tryz.f315, c1, c2, l0, l1, o4, g]
  ·rw [dec_neg g] at c2
   simp [code315, Tryz.f315, c1, c2, l0, l1, o4, g]
 ·rw [o4] at l0
  simp [code315, Tryz.f315, c1, l0, l1, o4]
 ·rw [o4] at l0
  simp [code315, Tryz.f315, c1, l0, l1, o4]
  by_cases h : norm x = v <;> cases Op.bytesLess (norm x) v <;> simp [h]
noncomputable def leafI (n : PNode) (az : List PAttr) (known : List Str) : Int := if dec (n.attr ∈ known) = true then truthI (dec (ItemOk n az)) else 2
theorem i_evalNode {n : PNode} {H : List Ob} {ide : Nat} {own : Bool} {es : Nat} {vd va vk : V} {az : List PAttr} {known : List Str} (he : H[ide]? = some (.mk own es [vd, va])) (h : AAttrs H va az) (hl : az.length ≤ 1000) (hp : az.Pairwise fun a b => a.name < b.name) (hk : AStrs H vk known)
  (ho : n.op = 4 ∨ n.op = 5 ∨ n.op = 6 ∨ n.op = 7 ∨ n.op = 8) :
  callW C 239 [.agg n.cs, .ptr (some (ide, 0)), vk] H = some (.int .i64 (leafI n az known), H) := by
 suffices hs : Ret C 239 [.agg n.cs, .ptr (some (ide, 0)), vk] H fun q H' => q = .int .i64 (leafI n az known) ∧ H' = H by
  obtain ⟨q, H', hc, rfl, rfl⟩ := hs
  exact hc
 rw [op239]
 have hk1 : AStrs (H ++ [.mk true 4 n.cs]) vk known := hk.ext
 have c1 := l_Contains (t := n.attr) hk1
 have lat : (H ++ [Ob.mk true 4 n.cs])[H.length]? = some (.mk true 4 n.cs) := by simp
 have l1 := load1 (o := 1) (v := .str n.attr) lat rfl
 unfold leafI
 by_cases g : n.attr ∈ known
 rotate_left
 ·rw [dec_neg g] at c1 ⊢
  simp [code239, Tryz.f239, fillL, zerosL, buildV, structPlace, strideOf, St.new, elemT, c1, l1]
 rw [dec_pos g] at c1 ⊢
 obtain ⟨w, c2, hw⟩ := i_valuesT (t := n.attr) he h hl hp
 have hb : ∀ x : Ob, H ++ [Ob.mk true 4 n.cs, x] = (H ++ [.mk true 4 n.cs]) ++ [x] := fun x => by simp
 have hbl : H.length + 1 = (H ++ [Ob.mk true 4 n.cs]).length := by simp
 have k1 : hideL [0] (H.length + 1) (H ++ [.mk true 4 n.cs, .dead]) = H ++ [.mk true 4 n.cs, .dead] := by rw [hb, hbl, hideL_app]; rfl
 have k2 : hideL [0] (H.length + 1) (H ++ [.mk true 4 n.cs, .mk true 1 [.str []]]) = H ++ [.mk true 4 n.cs, .dead] := by rw [hb, hbl, hideL_app, hb]; rfl
 have k3 : ∀ x, backL [0] (H.length + 1) (H ++ [.mk true 4 n.cs, x]) (H ++ [.mk true 4 n.cs, .dead]) = H ++ [.mk true 4 n.cs, x] := fun x => by rw [hb, hb, hbl, backL_app]; rfl
 have k4 : ∀ x y, (H ++ [Ob.mk true 4 n.cs, x]).set (H.length + 1) y = H ++ [.mk true 4 n.cs, y] := fun x y => by rw [set_app_at]; rfl
 have c2' := c2 [.mk true 4 n.cs, .dead]
 have c3 := i_Norm (t := n.value) (H := H ++ [.mk true 4 n.cs, .dead])
 have c4 := l_ContainsFunc (H := H ++ [.mk true 4 n.cs, .mk true 1 [.str (norm n.value)]]) (g := 315) (a := []) (b := [.ptr (some (H.length, 0)), .ptr (some (H.length + 1, 0))]) hw.ext (fun x => dec (ItemB n.op (norm x) (norm n.value))) fun x hx =>
  i_item1 (n := n) (v := norm n.value) (o1 := true) (es1 := 4) (o2 := true) (es2 := 1) (by simp) (by simp) ho
 have hr : dec (∃ x ∈ valsOf az n.attr, dec (ItemB n.op (norm x) (norm n.value)) = true) = dec (ItemOk n az) := by
  congr 1
  exact propext ⟨fun ⟨x, h1, h2⟩ => ⟨x, h1, dec_true.1 h2⟩, fun ⟨x, h1, h2⟩ => ⟨x, h1, dec_true.2 h2⟩⟩
 rw [hr] at c4
 have c5 := i_truth (b := dec (ItemOk n az)) (H := H ++ [.mk true 4 n.cs, .mk true 1 [.str (norm n.value)]])
 have l2 : ∀ T : LT, T.one → ∀ r c, loadAt T ⟨r, c, H ++ [.mk true 4 n.cs, .dead]⟩ (.hp H.length 2) = some (.str n.value) := load1 (by simp; exact ⟨rfl, rfl, rfl⟩) rfl
 have l3 : ∀ x, ∀ T : LT, T.one → ∀ r c, loadAt T ⟨r, c, H ++ [.mk true 4 n.cs, x]⟩ (.hp H.length 1) = some (.str n.attr) := fun x => load1 (by simp; exact ⟨rfl, rfl, rfl⟩) rfl
 have hw1 := hw.one
 have st1 : ∀ T : LT, T.one → ∀ r c, storeAt T ⟨r, c, H ++ [.mk true 4 n.cs, .mk true 1 [.str []]]⟩ (.hp (H.length + 1) 0) (.str (norm n.value)) = some ⟨r, c, H ++ [.mk true 4 n.cs, .mk true 1 [.str (norm n.value)]]⟩ := by
  intro T hT r c
  rw [store1 (cells := [.str []]) (es := 1) (by simp) (by simp) rfl rfl T hT r c, k4]
  rfl
 have k5 : H.length < H.length + 1 + 1 := by omega
 simp [code239, Tryz.f239, fillL, zerosL, buildV, structPlace, strideOf, St.new, elemT, c1, l1, regionL_none, regionL_some, List.lookup, List.replicate, k1, k2, k3, k4, c2', c3, c4, c5, l2, l3, hideL_nil, backL_nil, hw1, k5, st1]
noncomputable def combI (op : Int) (xs : List Int) : Int :=
 if op = 3 then notI (xs.headD 0)
 else if op = 2 then (if 1 ∈ xs then 1 else if 2 ∈ xs then 2 else 0)
 else (if 0 ∈ xs then 0 else if 2 ∈ xs then 2 else 1)
def erep (g : Nat → Option (Int × Nat)) : Nat → Nat → List Int → Option (List Int × Nat)
 | 0, i, xs => some (xs, i)
 | k + 1, i, xs => match g i with
  | none => none
  | some p => erep g k p.2 (xs ++ [p.1])
noncomputable def fev (f : List PNode) (az : List PAttr) (known : List Str) : Nat → Nat → Option (Int × Nat)
 | 0, _ => none
 | d + 1, i => match f[i]? with
  | none => none
  | some n => if dec (NodeOk n) = true then (if dec n.Inner = true then (erep (fev f az known d) n.many.toNat (i + 1) []).map fun p => (combI n.op p.1, p.2) else some (leafI n az known, i + 1)) else none
def Tri (x : Int) : Prop := x = 0 ∨ x = 1 ∨ x = 2
theorem Tri.not {x : Int} (h : Tri x) : Tri (notI x) := by
 rcases h with rfl | rfl | rfl <;> simp [Tri, notI]
theorem leaf_tri {n : PNode} {az : List PAttr} {known : List Str} : Tri (leafI n az known) := by
 unfold leafI truthI Tri
 split
 ·split <;> simp
 ·simp
theorem comb_tri {op : Int} {xs : List Int} (h : ∀ x ∈ xs, Tri x) : Tri (combI op xs) := by
 unfold combI
 split
 ·cases xs with
  | nil => simp [notI, Tri]
  | cons x xs => exact (h x (by simp)).not
 ·split
  ·split
   ·simp [Tri]
   ·split <;> simp [Tri]
  ·split
   ·simp [Tri]
   ·split <;> simp [Tri]
theorem erep_of {g : Nat → Option (Nat × Nat)} {g' : Nat → Option (Int × Nat)} (hg : ∀ i q, g i = some q → ∃ y, g' i = some (y, q.1) ∧ Tri y) : ∀ k p q xs, frep g k p = some q → (∀ x ∈ xs, Tri x) →
  ∃ ys, erep g' k p.1 xs = some (ys, q.1) ∧ (∀ x ∈ ys, Tri x) ∧ ys.length = xs.length + k
 | 0, p, q, xs, h, hx => by cases h; exact ⟨xs, rfl, hx, rfl⟩
 | k + 1, p, q, xs, h, hx => by
  unfold frep at h
  cases hq : g p.1 with
  | none => rw [hq] at h; cases h
  | some r =>
   rw [hq] at h
   obtain ⟨y, h1, h2⟩ := hg _ _ hq
   obtain ⟨ys, h3, h4, h5⟩ := erep_of hg k (r.1, max p.2 r.2) q (xs ++ [y]) h (by
    intro x hm
    rcases List.mem_append.1 hm with hm | hm
    ·exact hx x hm
    ·simp at hm; subst hm; exact h2)
   exact ⟨ys, by unfold erep; rw [h1]; exact h3, h4, by rw [h5]; simp; omega⟩
theorem fev_of {f : List PNode} {az : List PAttr} {known : List Str} : ∀ d i q, fdep f d i = some q → ∃ y, fev f az known d i = some (y, q.1) ∧ Tri y
 | 0, i, q, h => by cases h
 | d + 1, i, q, h => by
  unfold fdep at h
  cases hn : f[i]? with
  | none => rw [hn] at h; cases h
  | some n =>
   rw [hn] at h
   simp only at h
   split at h
   ·rename_i hok
    cases hr : frep (fdep f d) n.many.toNat (i + 1, 0) with
    | none => rw [hr] at h; cases h
    | some r =>
     rw [hr] at h
     cases h
     by_cases hin : n.Inner
     ·obtain ⟨ys, h1, h2, _⟩ := erep_of (g' := fev f az known d) (fun i q h => fev_of d i q h) _ _ _ [] hr (by simp)
      refine ⟨combI n.op ys, ?_, comb_tri h2⟩
      unfold fev
      simp only [hn, hok, if_true, dec_pos hin]
      rw [h1]
      rfl
     ·refine ⟨leafI n az known, ?_, leaf_tri⟩
      have hm : n.many = 0 := by
       rcases dec_true.1 hok with ⟨a, _⟩ | ⟨_, _, _, a⟩ | ⟨_, _, _, a⟩
       ·exact absurd a hin
       ·exact a
       ·exact a
      rw [hm] at hr
      cases hr
      unfold fev
      simp only [hn, hok, if_true, dec_neg hin, Bool.false_eq_true, if_false]
   ·cases h
def trI (op x : Int) : Int := if op = 1 then x else notI x
noncomputable def outI (op : Int) (xs : List Int) : Int :=
 let out : Int := if 0 ∈ xs.map (trI op) then 0 else if 2 ∈ xs.map (trI op) then 2 else 1
 if op = 2 then notI out else out
theorem out_comb {op : Int} {xs : List Int} (ho : op = 1 ∨ op = 2 ∨ op = 3) (h : ∀ x ∈ xs, Tri x) (h3 : op = 3 → xs.length = 1) : outI op xs = combI op xs := by
 unfold outI combI
 rcases ho with rfl | rfl | rfl
 ·have : xs.map (trI 1) = xs := by
   have : trI 1 = id := by funext x; simp [trI]
   rw [this]; simp
  simp [this]
 ·have m0 : 0 ∈ xs.map (trI 2) ↔ 1 ∈ xs := by
   simp only [List.mem_map, trI]
   constructor
   ·rintro ⟨x, hx, e⟩
    rcases h x hx with rfl | rfl | rfl <;> simp [notI] at e
    exact hx
   ·intro hx
    exact ⟨1, hx, by simp [notI]⟩
  have m2 : 2 ∈ xs.map (trI 2) ↔ 2 ∈ xs := by
   simp only [List.mem_map, trI]
   constructor
   ·rintro ⟨x, hx, e⟩
    rcases h x hx with rfl | rfl | rfl <;> simp [notI] at e
    exact hx
   ·intro hx
    exact ⟨2, hx, by simp [notI]⟩
  simp only [m0, m2]
  by_cases g1 : (1 : Int) ∈ xs
  ·simp [g1, notI]
  ·by_cases g2 : (2 : Int) ∈ xs
   ·simp [g1, g2, notI]
   ·simp [g1, g2, notI]
 ·match xs, h3 rfl with
  | [x], _ =>
   rcases h x (by simp) with rfl | rfl | rfl <;> simp [trI, notI]
theorem mem_push {a x : Int} {xs : List Int} {t : Int → Int} : dec (a ∈ (xs ++ [x]).map t) = (dec (a ∈ xs.map t) || decide (t x = a)) := by
 by_cases h : a ∈ xs.map t
 ·have : a ∈ (xs ++ [x]).map t := by rw [List.map_append]; exact List.mem_append_left _ h
  rw [dec_pos this, dec_pos h]
  rfl
 ·rw [dec_neg h, Bool.false_or]
  by_cases e : t x = a
  ·have : a ∈ (xs ++ [x]).map t := by rw [List.map_append]; exact List.mem_append_right _ (by simp [e])
   rw [dec_pos this]
   simp [e]
  ·have : ¬ a ∈ (xs ++ [x]).map t := by
    rw [List.map_append, List.mem_append]
    rintro (h1 | h1)
    ·exact h h1
    ·simp at h1; exact e h1.symm
   rw [dec_neg this]
   simp [e]
theorem node_leaf {n : PNode} (h : NodeOk n) (hn : ¬ n.Inner) : n.op = 4 ∨ n.op = 5 ∨ n.op = 6 ∨ n.op = 7 ∨ n.op = 8 := by
 rcases h with ⟨a, _⟩ | ⟨a, _⟩ | ⟨a, _⟩
 ·exact absurd a hn
 ·omega
 ·omega
theorem erep_inv {g : Nat → Option (Int × Nat)} (hg : ∀ i q, g i = some q → Tri q.1) : ∀ k i xs q, erep g k i xs = some q → (∀ x ∈ xs, Tri x) → (∀ x ∈ q.1, Tri x) ∧ q.1.length = xs.length + k
 | 0, i, xs, q, h, hx => by cases h; exact ⟨hx, rfl⟩
 | k + 1, i, xs, q, h, hx => by
  unfold erep at h
  cases hq : g i with
  | none => rw [hq] at h; cases h
  | some r =>
   rw [hq] at h
   obtain ⟨h1, h2⟩ := erep_inv hg k r.2 (xs ++ [r.1]) q h (by
    intro x hm
    rcases List.mem_append.1 hm with hm | hm
    ·exact hx x hm
    ·simp at hm; subst hm; exact hg _ _ hq)
   exact ⟨h1, by rw [h2]; simp; omega⟩
theorem fev_tri {f : List PNode} {az : List PAttr} {known : List Str} : ∀ d i q, fev f az known d i = some q → Tri q.1
 | 0, i, q, h => by cases h
 | d + 1, i, q, h => by
  unfold fev at h
  cases hn : f[i]? with
  | none => rw [hn] at h; cases h
  | some n =>
   rw [hn] at h
   simp only at h
   split at h
   ·split at h
    ·cases hr : erep (fev f az known d) n.many.toNat (i + 1) [] with
     | none => rw [hr] at h; cases h
     | some r =>
      rw [hr] at h
      cases h
      exact comb_tri (erep_inv (fun i q h => fev_tri d i q h) _ _ _ _ hr (by simp)).1
    ·cases h
     exact leaf_tri
   ·cases h
theorem s_Eval {H : List Ob} {v vk v1 v2 : V} {f : List PNode} {az : List PAttr} {known : List Str} (h : ANodes H v f) (hl : f.length ≤ 100) (ha : AAttrs H v2 az) (hk : AStrs H vk known) (ho : cellsOf v1 = some [v1]) (ho' : isOne v1 = true) :
  ∀ d (i : Nat) q, fev f az known d i = some q → callW C 136 [v, .int .i64 i, .agg [v1, v2], vk] H = some (.tup [.int .i64 q.1, .int .i64 q.2], H)
 | 0, i, q, hq => by cases hq
 | d + 1, i, q, hq => by
  suffices hs : Ret C 136 [v, .int .i64 i, .agg [v1, v2], vk] H fun r H' => r = .tup [.int .i64 q.1, .int .i64 q.2] ∧ H' = H by
   obtain ⟨r, H', hc, rfl, rfl⟩ := hs
   exact hc
  rw [op136]
  have ho2 := ha.one
  unfold fev at hq
  cases hx : f[i]? with
  | none => rw [hx] at hq; cases hq
  | some x =>
  rw [hx] at hq
  simp only at hq
  by_cases hok : NodeOk x
  rotate_left
  ·rw [dec_neg hok] at hq; cases hq
  simp only [dec_pos hok, if_true] at hq
  have hi : i < f.length := (List.getElem?_eq_some_iff.1 hx).1
  have hw : IntKind.i64.wrap ((i : Int) + 1) = ((i : Int) + 1) := wrap_i64 (by omega) (by omega)
  obtain ⟨id, o, e1, l0, l1, _, _, _, w4⟩ := nodes_idx h hx
  have l1' := l1 []
  simp only [List.append_nil] at l1'
  have c1 := s_Inner (n := x) (H := H)
  by_cases hin : x.Inner
  rotate_left
  ·rw [dec_neg hin] at hq c1
   simp only [Bool.false_eq_true, if_false] at hq
   cases hq
   have c2 := s_Has (t := x.attr) hk
   unfold leafI
   by_cases g : x.attr ∈ known
   ·rw [dec_pos g] at c2 ⊢
    have c3 := s_Item ha ho ho' (node_leaf hok hin)
    have c4 := s_Truth (b := dec (ItemOk x az)) (H := H)
    simp [code136, Tryz.f136, fillL, zerosL, buildV, structPlace, e1, l1', c1, c2, c3, c4, hw, ho, ho', ho2]
   ·rw [dec_neg g] at c2 ⊢
    simp [code136, Tryz.f136, fillL, zerosL, buildV, structPlace, e1, l1', c1, c2, hw, ho, ho', ho2]
  rw [dec_pos hin] at hq c1
  simp only [if_true] at hq
  have hm := hok.many_le
  obtain ⟨mm, hmm⟩ : ∃ mm, mm = x.many.toNat := ⟨_, rfl⟩
  have hmn : x.many = (mm : Int) := by omega
  rw [← hmm] at hq
  cases her : erep (fev f az known d) mm (i + 1) [] with
  | none => rw [her] at hq; cases hq
  | some p =>
  rw [her] at hq
  cases hq
  have hinv : ∀ xs, erep (fev f az known d) mm (i + 1) [] = some (xs, p.2) → (∀ x ∈ xs, Tri x) ∧ xs.length = mm := by
   intro xs hxs
   have := erep_inv (fun i q h => fev_tri d i q h) mm (i + 1) [] (xs, p.2) hxs (by simp)
   simpa using this
  simp [code136, Tryz.f136, fillL, zerosL, buildV, structPlace, e1, l1', c1, hw, ho, ho', ho2]
  refine WP_loop (fun k σ => ∃ (j : Nat) (xs : List Int) (r : Nat → R), σ = ⟨r, 2, H⟩ ∧ r 0 = .val v ∧ r 1 = .val (.int .i64 j) ∧ r 3 = .val vk ∧ r 6 = .box 0 [v1, v2] ∧ r 10 = .box 1 x.cs ∧ r 11 = .val (.bool (dec (0 ∈ xs.map (trI x.op)))) ∧ r 12 = .val (.bool (dec (2 ∈ xs.map (trI x.op)))) ∧ r 13 = .val (.int .i64 k) ∧ k ≤ mm ∧ erep (fev f az known d) k j xs = some p) ?_ mm _ ⟨i + 1, [], _, rfl, by simp, by simp, by simp, by simp, by simp, by simp [dec_neg], by simp [dec_neg], by simp [hmn], Nat.le_refl _, her⟩
  rintro k σ ⟨j, xs, r, rfl, r0, r1, r3, r6, r10, r11, r12, r13, hkm, hp⟩
  cases k with
  | zero =>
   simp only [erep] at hp
   cases hp
   obtain ⟨hys, hlen⟩ : (∀ x ∈ xs, Tri x) ∧ xs.length = mm := hinv _ her
   have hout : combI x.op xs = outI x.op xs := (out_comb hin hys (fun h => by rw [hlen]; rcases hok with ⟨_, _, _, _, _, a⟩ | ⟨a, _⟩ | ⟨a, _⟩ <;> omega)).symm
   rw [hout]
   unfold outI
   have c5 := fun n => s_Not (n := n) (H := H)
   by_cases g0 : (0 : Int) ∈ xs.map (trI x.op)
   ·rw [dec_pos g0] at r11
    by_cases o2 : x.op = 2
    ·rw [o2] at g0
     simp [r0, r1, r3, r6, r10, r11, r12, r13, g0, o2, c5]
    ·simp [r0, r1, r3, r6, r10, r11, r12, r13, g0, o2]
   ·rw [dec_neg g0] at r11
    by_cases g2 : (2 : Int) ∈ xs.map (trI x.op)
    ·rw [dec_pos g2] at r12
     by_cases o2 : x.op = 2
     ·have g0' := g0
      have g2' := g2
      rw [o2] at g0' g2'
      simp [r0, r1, r3, r6, r10, r11, r12, r13, g0, g2, o2, c5]
      rw [if_neg (by simpa using g0'), if_pos (by simpa using g2')]
     ·simp [r0, r1, r3, r6, r10, r11, r12, r13, g0, g2, o2]
    ·rw [dec_neg g2] at r12
     by_cases o2 : x.op = 2
     ·have g0' := g0
      have g2' := g2
      rw [o2] at g0' g2'
      simp [r0, r1, r3, r6, r10, r11, r12, r13, g0, g2, o2, c5]
      rw [if_neg (by simpa using g0'), if_neg (by simpa using g2')]
     ·simp [r0, r1, r3, r6, r10, r11, r12, r13, g0, g2, o2]
  | succ k =>
   cases hsub : fev f az known d j with
   | none => simp only [erep, hsub] at hp; cases hp
   | some q2 =>
   simp only [erep, hsub] at hp
   have c2 := s_Eval h hl ha hk ho ho' d j q2 hsub
   have c5 := fun n => s_Not (n := n) (H := H)
   have hw2 : IntKind.i64.wrap ((k : Int) + 1 - 1) = (k : Int) := by rw [wrap_i64 (by omega) (by omega)]; omega
   have h0 : (0 : Int) < (k : Int) + 1 := by omega
   have m0 := mem_push (a := 0) (x := q2.1) (xs := xs) (t := trI x.op)
   have m2 := mem_push (a := 2) (x := q2.1) (xs := xs) (t := trI x.op)
   obtain ⟨b0, hb0⟩ : ∃ b, b = dec (0 ∈ xs.map (trI x.op)) := ⟨_, rfl⟩
   obtain ⟨b2, hb2⟩ : ∃ b, b = dec (2 ∈ xs.map (trI x.op)) := ⟨_, rfl⟩
   obtain ⟨n0, hn0⟩ : ∃ b, b = dec (0 ∈ (xs ++ [q2.1]).map (trI x.op)) := ⟨_, rfl⟩
   obtain ⟨n2, hn2⟩ : ∃ b, b = dec (2 ∈ (xs ++ [q2.1]).map (trI x.op)) := ⟨_, rfl⟩
   rw [← hb0] at r11 m0
   rw [← hb2] at r12 m2
   rw [← hn0] at m0
   rw [← hn2] at m2
   by_cases o1 : x.op = 1
   ·have ht : trI x.op q2.1 = q2.1 := by simp [trI, o1]
    rw [ht] at m0 m2
    have e0 : dec (∃ a, a ∈ xs ++ [q2.1] ∧ trI 1 a = 0) = n0 := by rw [hn0, o1]; exact dec_iff (by rw [List.mem_map])
    have e2 : dec (∃ a, a ∈ xs ++ [q2.1] ∧ trI 1 a = 2) = n2 := by rw [hn2, o1]; exact dec_iff (by rw [List.mem_map])
    cases b0 <;> cases b2 <;> simp [r0, r1, r3, r6, r10, r11, r12, r13, h0, hw2, c2, o1]
    all_goals exact ⟨k, by omega, q2.2, rfl, xs ++ [q2.1], by rw [e0, m0]; simp, by rw [e2, m2]; simp, by rw [wrap_i64 (by omega) (by omega)], by omega, hp⟩
   ·have ht : trI x.op q2.1 = notI q2.1 := by simp [trI, o1]
    rw [ht] at m0 m2
    have e0 : dec (∃ a, a ∈ xs ++ [q2.1] ∧ trI x.op a = 0) = n0 := by rw [hn0]; exact dec_iff (by rw [List.mem_map])
    have e2 : dec (∃ a, a ∈ xs ++ [q2.1] ∧ trI x.op a = 2) = n2 := by rw [hn2]; exact dec_iff (by rw [List.mem_map])
    cases b0 <;> cases b2 <;> simp [r0, r1, r3, r6, r10, r11, r12, r13, h0, hw2, c2, c5, o1]
    all_goals exact ⟨k, by omega, q2.2, rfl, xs ++ [q2.1], by rw [e0, m0]; simp, by rw [e2, m2]; simp, by rw [wrap_i64 (by omega) (by omega)], by omega, hp⟩
def ints (xs : List Int) : List V := xs.map fun x => .int .i64 x
theorem ints_len {xs : List Int} : (ints xs).length = xs.length := by simp [ints]
theorem ints_get {xs : List Int} {i : Nat} {x : Int} (h : xs[i]? = some x) : (ints xs)[i]? = some (.int .i64 x) := by simp [ints, h]
theorem l_ContainsI {H : List Ob} {id : Nat} {own : Bool} {xs : List Int} {t : Int} (h : H[id]? = some (.mk own 1 (ints xs))) (hb : xs.length ≤ 1000000) : callW C 241 [.slc (some (id, 0)) xs.length, .int .i64 t] H = some (.bool (dec (t ∈ xs)), H) := by
 have hi : ∃ r : Int, callW C 317 [.slc (some (id, 0)) xs.length, .int .i64 t] H = some (.int .i64 r, H) ∧ (0 ≤ r ↔ t ∈ xs) := by
  suffices hs : Ret C 317 [.slc (some (id, 0)) xs.length, .int .i64 t] H fun q H' => (∃ r : Int, q = .int .i64 r ∧ (0 ≤ r ↔ t ∈ xs)) ∧ H' = H by
   obtain ⟨q, H', hc, ⟨r, rfl, hr⟩, rfl⟩ := hs
   exact ⟨r, hc, hr⟩
  rw [op317]
  simp [code317, Tryz.f317]
  refine WP_loop (fun k σ => ∃ (i : Nat) (r : Nat → R), i + k = xs.length ∧ σ = ⟨r, 0, H⟩ ∧ r 0 = .val (.slc (some (id, 0)) xs.length) ∧ r 1 = .val (.int .i64 t) ∧ r 7 = .val (.int .i64 xs.length) ∧ r 8 = .val (.int .i64 i) ∧ ∀ j x, j < i → xs[j]? = some x → x ≠ t) ?_ xs.length _ ⟨0, _, by simp, rfl, by simp, by simp, by simp, by simp, by simp⟩
  rintro k σ ⟨i, r, hik, rfl, r0, r1, r7, r8, hall⟩
  cases k with
  | zero =>
   have hi : i = xs.length := by omega
   subst hi
   have hx := at_all (P := fun j (x : Int) => x ≠ t) hall
   have hn : t ∉ xs := fun hm => by
    obtain ⟨j, hj, e⟩ := List.getElem_of_mem hm
    exact hx j _ (List.getElem?_eq_getElem hj) e
   simp [r0, r1, r7, r8, hn]
  | succ k =>
   have hi : i < xs.length := by omega
   obtain ⟨x, hx⟩ : ∃ c, xs[i]? = some c := ⟨xs[i], by simp [hi]⟩
   have hw : IntKind.i64.wrap ((i : Int) + 1) = ((i : Int) + 1) := wrap_i64 (by omega) (by omega)
   have l0 := load1 (o := i) h (ints_get hx)
   by_cases g1 : x = t
   ·have hm : t ∈ xs := g1 ▸ List.mem_of_getElem? hx
    subst g1
    simp [r0, r1, r7, r8, hi, l0, hm]
   ·have g1' : ¬ t = x := fun h => g1 h.symm
    simp [r0, r1, r7, r8, hi, l0, g1', hw]
    exact ⟨k, by omega, i + 1, by omega, by omega, at_step (P := fun j (x : Int) => x ≠ t) hall hx g1⟩
 obtain ⟨r, c1, hr⟩ := hi
 apply Ret.dec
 rw [op241]
 by_cases g1 : 0 ≤ r
 ·simp [code241, Tryz.f241, c1, g1, hr.1 g1]
 ·simp [code241, Tryz.f241, c1, g1, mt hr.2 g1]
def Is (H G : List Ob) (v : V) (b : List Int) : Prop := ∃ T id, G = H ++ T ∧ H.length ≤ id ∧ G[id]? = some (.mk true 1 (ints b)) ∧ v = .slc (some (id, 0)) b.length
theorem Is.init {H : List Ob} : Is H (H ++ [.mk true 1 []]) (.slc (some (H.length, 0)) 0) [] := ⟨_, H.length, rfl, Nat.le_refl _, by simp [ints], rfl⟩
theorem Is.push {H G : List Ob} {v : V} {b : List Int} (h : Is H G v b) (hb : b.length ≤ 1000) {c : Int} {z : List V} {d : LD} (hz : z.length = 1) : ∃ v' G', appendV ⟨d, 1, 8, z⟩ (G ++ [.mk true 1 [.int .i64 c]]) v (.slc (some (G.length, 0)) 1) = some (v', G') ∧ Is H G' v' (b ++ [c]) := by
 obtain ⟨T, id, rfl, h1, h2, rfl⟩ := h
 have hid : id < (H ++ T).length := (List.getElem?_eq_some_iff.1 h2).1
 have hid' : id < H.length + T.length := by simpa using hid
 have hg : (H ++ T ++ [Ob.mk true 1 [.int .i64 c]])[id]? = some (.mk true 1 (ints b)) := by rw [List.getElem?_append_left hid]; exact h2
 have hnew : newCells ⟨d, 1, 8, z⟩ (H ++ T ++ [Ob.mk true 1 [.int .i64 c]]) (.slc (some ((H ++ T).length, 0)) 1) = some ([.int .i64 c], 1) := by
  simp only [newCells, Nat.mul_one, slcCells, get_last]
  rfl
 refine ⟨.slc (some ((H ++ T ++ [Ob.mk true 1 [.int .i64 c]]).length, 0)) (b.length + 1), (H ++ T ++ [Ob.mk true 1 [.int .i64 c]]).set id .dead ++ [.mk true 1 (ints b ++ [.int .i64 c])], ?_, ?_⟩
 ·unfold appendV
  rw [if_pos (by simp [growOk, hz]), hnew]
  simp only [Nat.one_ne_zero, if_false, List.all_cons, List.all_nil, isOne_int, Bool.and_true, if_true, hg]
  have e1 : ¬ (0 + (b.length + 1) * 1 ≤ (ints b).length) := by rw [ints_len]; omega
  have e2 : (0 + b.length * 1 = (ints b).length ∨ b.length = 0 ∧ (ints b).length ≤ 0) ∧ (b.length + 1) * 8 ≤ maxMade := ⟨.inl (by rw [ints_len]; simp), by unfold maxMade; omega⟩
  rw [if_neg e1, if_pos e2, List.drop_zero]
 ·refine ⟨T.set (id - H.length) .dead ++ [.mk true 1 [.int .i64 c]] ++ [.mk true 1 (ints b ++ [.int .i64 c])], (H ++ T ++ [Ob.mk true 1 [.int .i64 c]]).length, ?_, by simp only [List.length_append]; omega, ?_, by simp⟩
  ·rw [List.append_assoc H T, List.set_append_right _ _ h1, List.set_append_left _ _ (by omega)]
   simp
  ·have hl : ((H ++ T ++ [Ob.mk true 1 [V.int .i64 c]]).set id .dead).length = (H ++ T ++ [Ob.mk true 1 [V.int .i64 c]]).length := List.length_set
   rw [← hl, get_last]
   simp [ints]
def dropV : V → Nat → V
 | .slc (some (id, off)) n, k => .slc (some (id, off + k * 4)) (n - k)
 | v, _ => v
theorem nodes_dropV {H : List Ob} {v : V} {l : List PNode} (h : ANodes H v l) {k : Nat} (hk : k ≤ l.length) (h0 : 0 < l.length) : ANodes H (dropV v k) (l.drop k) ∧ ∃ id off own cells, v = .slc (some (id, off)) l.length ∧ H[id]? = some (.mk own 4 cells) := by
 obtain ⟨id, off, own, cells, rfl, h1, h2⟩ := h.drop hk h0
 exact ⟨h2, id, off, own, cells, rfl, h1⟩
theorem erep_range {g : Nat → Option (Int × Nat)} {L : Nat} (hg : ∀ i q, g i = some q → i < q.2 ∧ q.2 ≤ L) : ∀ k i xs q, erep g k i xs = some q → i ≤ L → i + k ≤ q.2 ∧ q.2 ≤ L
 | 0, i, xs, q, h, hi => by cases h; exact ⟨Nat.le_refl _, hi⟩
 | k + 1, i, xs, q, h, hi => by
  unfold erep at h
  cases hq : g i with
  | none => rw [hq] at h; cases h
  | some r =>
   rw [hq] at h
   have h1 := hg _ _ hq
   have h2 := erep_range hg k r.2 _ q h h1.2
   omega
theorem fev_range {f : List PNode} {az : List PAttr} {known : List Str} : ∀ d i q, fev f az known d i = some q → i < q.2 ∧ q.2 ≤ f.length
 | 0, i, q, h => by cases h
 | d + 1, i, q, h => by
  unfold fev at h
  cases hn : f[i]? with
  | none => rw [hn] at h; cases h
  | some n =>
   rw [hn] at h
   have hi := (List.getElem?_eq_some_iff.1 hn).1
   simp only at h
   split at h
   ·split at h
    ·cases hr : erep (fev f az known d) n.many.toNat (i + 1) [] with
     | none => rw [hr] at h; cases h
     | some r =>
      rw [hr] at h
      cases h
      have := erep_range (L := f.length) (fun i q h => fev_range d i q h) _ _ _ _ hr (by omega)
      simp only
      omega
    ·cases h
     simp only
     omega
   ·cases h
theorem i_eval {f : List PNode} (hl : f.length ≤ 100) {az : List PAttr} {known : List Str} {ide es : Nat} {own : Bool} {vd va vk : V} (hal : az.length ≤ 1000) (hp : az.Pairwise fun a b => a.name < b.name) :
  ∀ d (i : Nat) (v : V) (H : List Ob) q, fev f az known d i = some q → ANodes H v (f.drop i) → H[ide]? = some (.mk own es [vd, va]) → AAttrs H va az → AStrs H vk known →
  callW C 148 [v, .ptr (some (ide, 0)), vk] H = some (.tup [.int .i64 q.1, dropV v (q.2 - i)], H)
 | 0, i, v, H, q, hq, h, he, ha, hk => by cases hq
 | d + 1, i, v, H, q, hq, h, he, ha, hk => by
  suffices hs : Ret C 148 [v, .ptr (some (ide, 0)), vk] H fun r H' => r = .tup [.int .i64 q.1, dropV v (q.2 - i)] ∧ H' = H by
   obtain ⟨r, H', hc, rfl, rfl⟩ := hs
   exact hc
  rw [op148]
  unfold fev at hq
  cases hx : f[i]? with
  | none => rw [hx] at hq; cases hq
  | some x =>
  rw [hx] at hq
  simp only at hq
  by_cases hok : NodeOk x
  rotate_left
  ·rw [dec_neg hok] at hq; cases hq
  simp only [dec_pos hok, if_true] at hq
  have hi : i < f.length := (List.getElem?_eq_some_iff.1 hx).1
  obtain ⟨fs, hfs⟩ : ∃ fs, fs = f.drop i := ⟨_, rfl⟩
  have hfl : fs.length = f.length - i := by rw [hfs]; simp
  have hx0 : fs[0]? = some x := by rw [hfs, List.getElem?_drop]; exact hx
  rw [← hfs] at h
  obtain ⟨id, o, e1, l0, l1, _, _, _, w4⟩ := nodes_idx h hx0
  have e1' := fun (e s b : Nat) (z : List V) (ty : Nat → LT) => e1 e s b z ty .i64
  have l1' := l1 []
  simp only [List.append_nil, Int.natCast_zero] at l1' e1'
  obtain ⟨hd1, ids, off, own2, cells, hv, hcell⟩ := nodes_dropV h (k := 1) (by omega) (by omega)
  have hst : strideIs H ids 4 = true := by simp [strideIs, hcell]
  have h1le : 1 ≤ fs.length := by omega
  have hid : id < H.length := by
   obtain ⟨id2, o2, ow2, cl2, f1, f2, _, _⟩ := ASl.idx h hx0 (by decide)
   have t1 := e1 0 0 0 [] (fun _ => ⟨.str, 4, 0, []⟩) .i64 rfl
   have t2 := f1 0 0 0 [] (fun _ => ⟨.str, 4, 0, []⟩) .i64 rfl
   rw [t1] at t2
   cases t2
   exact (List.getElem?_eq_some_iff.1 f2).1
  by_cases hin : x.Inner
  rotate_left
  ·rw [dec_neg hin] at hq
   simp only [Bool.false_eq_true, if_false] at hq
   cases hq
   have hop := node_leaf hok hin
   have hgt : (3 : Int) < x.op := by omega
   have c1 := i_evalNode (n := x) he ha hal hp hk hop
   have hrd : dropV v (i + 1 - i) = .slc (some (ids, off + 4)) (fs.length - 1) := by rw [hv, show i + 1 - i = 1 by omega]; rfl
   simp only [hrd]
   rw [hv] at e1'
   rw [hv]
   simp [code148, Tryz.f148, fillL, zerosL, buildV, structPlace, e1', l1', hst, h1le, hgt, c1, regionL_none, regionL_some, List.lookup, hid]
  rw [dec_pos hin] at hq
  simp only [if_true] at hq
  have hm := hok.many_le
  obtain ⟨mm, hmm⟩ : ∃ mm, mm = x.many.toNat := ⟨_, rfl⟩
  have hmn : x.many = (mm : Int) := by omega
  rw [← hmm] at hq
  cases her : erep (fev f az known d) mm (i + 1) [] with
  | none => rw [her] at hq; cases hq
  | some p =>
  rw [her] at hq
  cases hq
  have hgt : ¬ (3 : Int) < x.op := by unfold PNode.Inner at hin; omega
  have hdl : ∀ j, i < j → j ≤ f.length → ANodes H (dropV v (j - i)) (f.drop j) := by
   intro j h1 h2
   have := (nodes_dropV h (k := j - i) (by omega) (by omega)).1
   rw [hfs, List.drop_drop, show i + (j - i) = j by omega] at this
   exact this
  have hdd : ∀ j e, i < j → j ≤ e → dropV (dropV v (j - i)) (e - j) = dropV v (e - i) := by
   intro j e h1 h2
   rw [hv]
   simp only [dropV]
   rw [show off + (j - i) * 4 + (e - j) * 4 = off + (e - i) * 4 by omega, show fs.length - (j - i) - (e - j) = fs.length - (e - i) by omega]
  have hd1v : dropV v 1 = .slc (some (ids, off + 4)) (fs.length - 1) := by rw [hv]; rfl
  have hi1 : i + 1 - i = 1 := by omega
  have e1'' := e1'
  rw [hv] at e1''
  have hcap : initRegs [v, .ptr (some (ide, 0)), vk] = initRegs [.slc (some (ids, off)) fs.length, .ptr (some (ide, 0)), vk] := by rw [hv]
  rw [hcap]
  simp [code148, Tryz.f148, fillL, zerosL, buildV, structPlace, St.new, elemT, e1'', l1', hst, h1le, hgt, regionL_none, regionL_some, List.lookup, hid]
  refine WP_loop (fun k σ => ∃ (j : Nat) (xs : List Int) (w : V) (G : List Ob) (r : Nat → R), σ = ⟨r, 1, G⟩ ∧ r 1 = .val (.ptr (some (ide, 0))) ∧ r 2 = .val vk ∧ r 8 = .box 0 x.cs ∧ r 9 = .val (dropV v (j - i)) ∧ r 10 = .val w ∧ r 29 = .val (.int .i64 mm) ∧ r 30 = .val (.int .i64 ((mm - k : Nat) : Int)) ∧ Is H G w xs ∧ i < j ∧ j ≤ f.length ∧ k ≤ mm ∧ xs.length + k = mm ∧ erep (fev f az known d) k j xs = some p) ?_ mm _ ⟨i + 1, [], _, _, _, rfl, by simp, by simp, by simp, by simp [hi1, hd1v], rfl, by simp [hmn], by simp, Is.init, by omega, hi, Nat.le_refl _, by simp, her⟩
  rintro k σ ⟨j, xs, w, G, r, rfl, r1, r2, r8, r9, r10, r29, r30, hG, hij, hjl, hkm, hxl, hpe⟩
  have hG0 := hG
  obtain ⟨T, idw, hGT, _, hGg, hGw⟩ := hG0
  cases k with
  | zero =>
   have e0 : ¬ ((mm - 0 : Nat) : Int) < mm := by omega
   simp only [erep] at hpe
   cases hpe
   have hidl : ids < H.length := (List.getElem?_eq_some_iff.1 hcell).1
   have hgc : ∀ y, gcH H G (.tup [.int .i64 y, dropV v (j - i)]) = H := by
    intro y
    unfold gcH
    rw [if_pos ⟨⟨T, hGT⟩, by rw [hv]; simp [dropV, hidl]; exact ⟨_, _, _, hcell⟩⟩]
   have hcI := fun t => l_ContainsI (t := t) hGg (by omega)
   have c5 := fun n => i_Not (n := n) (H := G)
   unfold combI
   by_cases o3 : x.op = 3
   ·have hm1 : mm = 1 := by
     have : x.many = 1 := by rcases hok with ⟨_, _, _, _, _, a⟩ | ⟨a, _⟩ | ⟨a, _⟩ <;> omega
     omega
    match xs, hxl with
    | [y], _ =>
     have ly := load1 (o := 0) (v := .int .i64 y) hGg rfl
     simp [r1, r2, r8, r9, r10, r29, r30, e0, o3, hGw, ly, c5, hgc, regionL_none, regionL_some, List.lookup]
    | [], hh => simp at hh; omega
    | _ :: _ :: _, hh => simp at hh; omega
   ·by_cases o2 : x.op = 2
    ·have i1 := hcI 1
     have i2 := hcI 2
     by_cases g1 : (1 : Int) ∈ xs
     ·rw [dec_pos g1] at i1
      simp [r1, r2, r8, r9, r10, r29, r30, e0, o2, o3, hGw, i1, g1, hgc, regionL_none, regionL_some, List.lookup]
     ·rw [dec_neg g1] at i1
      by_cases g2 : (2 : Int) ∈ xs
      ·rw [dec_pos g2] at i2
       simp [r1, r2, r8, r9, r10, r29, r30, e0, o2, o3, hGw, i1, i2, g1, g2, hgc, regionL_none, regionL_some, List.lookup]
      ·rw [dec_neg g2] at i2
       simp [r1, r2, r8, r9, r10, r29, r30, e0, o2, o3, hGw, i1, i2, g1, g2, hgc, regionL_none, regionL_some, List.lookup]
    ·have i1 := hcI 0
     have i2 := hcI 2
     by_cases g1 : (0 : Int) ∈ xs
     ·rw [dec_pos g1] at i1
      simp [r1, r2, r8, r9, r10, r29, r30, e0, o2, o3, hGw, i1, g1, hgc, regionL_none, regionL_some, List.lookup]
     ·rw [dec_neg g1] at i1
      by_cases g2 : (2 : Int) ∈ xs
      ·rw [dec_pos g2] at i2
       simp [r1, r2, r8, r9, r10, r29, r30, e0, o2, o3, hGw, i1, i2, g1, g2, hgc, regionL_none, regionL_some, List.lookup]
      ·rw [dec_neg g2] at i2
       simp [r1, r2, r8, r9, r10, r29, r30, e0, o2, o3, hGw, i1, i2, g1, g2, hgc, regionL_none, regionL_some, List.lookup]
  | succ k =>
   cases hsub : fev f az known d j with
   | none => simp only [erep, hsub] at hpe; cases hpe
   | some q2 =>
   simp only [erep, hsub] at hpe
   have hq2 := fev_range _ _ _ hsub
   have c2 := i_eval hl hal hp d j (dropV v (j - i)) G q2 hsub (by rw [hGT]; exact (hdl j hij hjl).ext) (by rw [hGT]; exact up_append _ _ he) (by rw [hGT]; exact ha.ext) (by rw [hGT]; exact hk.ext)
   rw [hdd j q2.2 hij (by omega)] at c2
   have hb := hok.many_le
   obtain ⟨w2, G2, a1, hG2⟩ := hG.push (by omega) (c := q2.1) (z := [.int .i64 0]) (d := .int .i64) rfl
   have e0 : ((mm - (k + 1) : Nat) : Int) < mm := by omega
   have hw1 : IntKind.i64.wrap (((mm - (k + 1) : Nat) : Int) + 1) = ((mm - k : Nat) : Int) := by rw [wrap_i64 (by omega) (by omega)]; omega
   simp [r1, r2, r8, r9, r10, r29, r30, e0, c2, a1, hw1, fillL, zerosL, buildV, structPlace, St.new, elemT, regionL_none, regionL_some, List.lookup]
   exact ⟨k, by omega, q2.2, xs ++ [q2.1], w2, G2, _, ⟨rfl, rfl⟩, by simp [r1], by simp [r2], by simp [r8], by simp, by simp, by simp [r29], by simp, hG2, by omega, hq2.2, by omega, by simp; omega, hpe⟩
def manyI (op : Int) : Int := if op = 1 ∨ op = 2 then 0 else if op = 3 ∨ op = 4 ∨ op = 7 then 1 else if op = 5 ∨ op = 6 then 2 else -1
theorem s_Many {n : Int} {H : List Ob} : callW C 306 [.int .i64 n] H = some (.int .i64 (manyI n), H) := by
 suffices hs : Ret C 306 [.int .i64 n] H fun q H' => q = .int .i64 (manyI n) ∧ H' = H by
  obtain ⟨q, H', hc, rfl, rfl⟩ := hs
  exact hc
 rw [op306]
 unfold manyI
 by_cases o1 : n = 1
 ·simp [code306, Tryz.f306, o1]
 by_cases o2 : n = 2
 ·simp [code306, Tryz.f306, o2]
 by_cases o3 : n = 3
 ·simp [code306, Tryz.f306, o3]
 by_cases o4 : n = 4
 ·simp [code306, Tryz.f306, o4]
 by_cases o5 : n = 5
 ·simp [code306, Tryz.f306, o5]
 by_cases o6 : n = 6
 ·simp [code306, Tryz.f306, o6]
 by_cases o7 : n = 7
 ·simp [code306, Tryz.f306, o7]
 ·simp [code306, Tryz.f306, o1, o2, o3, o4, o5, o6, o7]
theorem i_operands {n : Int} {H : List Ob} : callW C 310 [.int .i64 n] H = some (.int .i64 (manyI n), H) := by
 suffices hs : Ret C 310 [.int .i64 n] H fun q H' => q = .int .i64 (manyI n) ∧ H' = H by
  obtain ⟨q, H', hc, rfl, rfl⟩ := hs
  exact hc
 rw [op310]
 unfold manyI
 by_cases o1 : n = 1
 ·simp [code310, Tryz.f310, o1]
 by_cases o2 : n = 2
 ·simp [code310, Tryz.f310, o2]
 by_cases o3 : n = 3
 ·simp [code310, Tryz.f310, o3]
 by_cases o4 : n = 4
 ·simp [code310, Tryz.f310, o4]
 by_cases o5 : n = 5
 ·simp [code310, Tryz.f310, o5]
 by_cases o6 : n = 6
 ·simp [code310, Tryz.f310, o6]
 by_cases o7 : n = 7
 ·simp [code310, Tryz.f310, o7]
 ·simp [code310, Tryz.f310, o1, o2, o3, o4, o5, o6, o7]
theorem s_Part {p : PPart} {H : List Ob} : callW C 305 [.agg p.cs] H = some (.bool (dec (PartOk p)), H) := by
 apply Ret.dec
 rw [op305]
 have c1 := s_Many (n := p.op) (H := H)
 have c2 := s_Is (n := p.n) (a := 0) (b := 40) (H := H)
 have c3 := s_Name (t := p.text) (H := H)
 unfold PartOk
 by_cases g : manyI p.op < 0
 ·have hno : ¬ (1 ≤ p.op ∧ p.op ≤ 7) := by
   unfold manyI at g
   intro h
   split at g <;> try omega
  simp [code305, Tryz.f305, c1, g]
  exact fun a b => absurd ⟨a, b⟩ hno
 have hop : 1 ≤ p.op ∧ p.op ≤ 7 := by
  unfold manyI at g
  split at g <;> try omega
 by_cases g2 : 0 ≤ p.n ∧ p.n ≤ 40
 rotate_left
 ·rw [dec_neg g2] at c2
  by_cases o7 : p.op = 7
  ·have g7 : ¬ manyI 7 < 0 := by decide
   rw [o7] at c1
   simp [code305, Tryz.f305, c1, g7, o7, c2]
   omega
  ·by_cases n0 : p.n = 0
   ·omega
   ·simp [code305, Tryz.f305, c1, g, o7, c2, n0]
 rw [dec_pos g2] at c2
 by_cases hn : p.op = 7 ∨ p.n = 0
 rotate_left
 ·obtain ⟨o7, n0⟩ : ¬ p.op = 7 ∧ ¬ p.n = 0 := ⟨fun h => hn (.inl h), fun h => hn (.inr h)⟩
  simp [code305, Tryz.f305, c1, g, o7, n0]
 by_cases o1 : p.op = 1
 ·have g1 : ¬ manyI 1 < 0 := by decide
  have n0 : p.n = 0 := by omega
  rw [o1] at c1
  by_cases h4 : p.text.length ≤ 40
  ·have c4 := s_Plain (t := p.text) (H := H) (by omega)
   have h4' : (p.text.length : Int) ≤ 40 := by omega
   by_cases hp : Plain p.text
   ·rw [dec_pos hp] at c4
    rw [n0] at c2
    simp [code305, Tryz.f305, c1, g1, o1, n0, c2, h4', h4, c4, hp]
   ·rw [dec_neg hp] at c4
    rw [n0] at c2
    simp [code305, Tryz.f305, c1, g1, o1, n0, c2, h4', h4, c4, hp]
  ·have h4' : ¬ (p.text.length : Int) ≤ 40 := by omega
   rw [n0] at c2
   simp [code305, Tryz.f305, c1, g1, o1, n0, c2, h4', h4]
 by_cases o2 : p.op = 2
 ·have g1 : ¬ manyI 2 < 0 := by decide
  have n0 : p.n = 0 := by omega
  rw [o2] at c1
  rw [n0] at c2
  by_cases hp : NameOk p.text
  ·rw [dec_pos hp] at c3
   simp [code305, Tryz.f305, c1, g1, o2, n0, c2, c3, hp]
  ·rw [dec_neg hp] at c3
   simp [code305, Tryz.f305, c1, g1, o2, n0, c2, c3, hp]
 have h3 : 3 ≤ p.op := by omega
 by_cases o7 : p.op = 7
 ·have g1 : ¬ manyI 7 < 0 := by decide
  rw [o7] at c1
  by_cases ht : p.text = []
  ·simp [code305, Tryz.f305, c1, g1, o7, c2, ht]
   omega
  ·have e2 : List.isEmpty p.text = false := by simpa using ht
   simp [code305, Tryz.f305, c1, g1, o7, c2, ht, e2]
 ·have n0 : p.n = 0 := by omega
  rw [n0] at c2
  by_cases ht : p.text = []
  ·simp [code305, Tryz.f305, c1, g, o1, o2, o7, n0, c2, ht]
   omega
  ·have e2 : List.isEmpty p.text = false := by simpa using ht
   simp [code305, Tryz.f305, c1, g, o1, o2, o7, n0, c2, ht, e2, h3]
theorem many_eq {p : PPart} (h : PartOk p) : manyI p.op = (p.many : Int) := by
 obtain ⟨h1, h2, _⟩ := h
 unfold manyI PPart.many
 by_cases o1 : p.op = 1
 ·simp [o1]
 by_cases o2 : p.op = 2
 ·simp [o2]
 by_cases o3 : p.op = 3
 ·simp [o3]
 by_cases o4 : p.op = 4
 ·simp [o4]
 by_cases o5 : p.op = 5
 ·simp [o5]
 by_cases o6 : p.op = 6
 ·simp [o6]
 ·have o7 : p.op = 7 := by omega
  simp [o7]
theorem s_EndX {v : V} {f : List PPart} {H : List Ob} (h : AParts H v f) (hl : f.length ≤ 12) : ∀ d i : Nat, d ≤ 5 → i ≤ f.length →
  callW C 224 [v, .int .i64 i, .int .i64 (6 - d : Nat)] H = some (.int .i64 (endI (xdep f d i)), H)
 | 0, i, hd, hi => by
  suffices hs : Ret C 224 [v, .int .i64 i, .int .i64 (6 - 0 : Nat)] H fun q H' => q = .int .i64 (endI (xdep f 0 i)) ∧ H' = H by
   obtain ⟨q, H', hc, rfl, rfl⟩ := hs
   exact hc
  rw [op224]
  by_cases g : i < f.length
  ·have g' : ¬ (f.length : Int) ≤ i := by omega
   simp [code224, Tryz.f224, h.len, g', endI, xdep]
  ·have g' : (f.length : Int) ≤ i := by omega
   simp [code224, Tryz.f224, h.len, g', endI, xdep]
 | d + 1, i, hd, hi => by
  suffices hs : Ret C 224 [v, .int .i64 i, .int .i64 (6 - (d + 1) : Nat)] H fun q H' => q = .int .i64 (endI (xdep f (d + 1) i)) ∧ H' = H by
   obtain ⟨q, H', hc, rfl, rfl⟩ := hs
   exact hc
  rw [op224]
  have hdp : ¬ (5 : Int) < (6 - (d + 1) : Nat) := by omega
  have hdw : IntKind.i64.wrap (((6 - (d + 1) : Nat) : Int) + 1) = ((6 - d : Nat) : Int) := by rw [wrap_i64 (by omega) (by omega)]; omega
  generalize hdd : ((6 - (d + 1) : Nat) : Int) = dd at hdp hdw
  rcases Nat.lt_or_ge i f.length with g | g
  rotate_left
  ·have g' : (f.length : Int) ≤ i := by omega
   simp [code224, Tryz.f224, h.len, g', endI, xdep, List.getElem?_eq_none g, hdd]
  have g' : ¬ (f.length : Int) ≤ i := by omega
  obtain ⟨x, hx⟩ : ∃ c, f[i]? = some c := ⟨f[i], by simp [g]⟩
  obtain ⟨id, o, e1, l0, l1, _, _, w4⟩ := parts_idx h hx
  have l0' := l0 []
  have l1' := l1 []
  simp only [List.append_nil] at l0' l1'
  have c1 := s_Part (p := x) (H := H)
  by_cases g1 : PartOk x
  rotate_left
  ·rw [dec_neg g1] at c1
   simp [code224, Tryz.f224, h.len, g', hdp, e1, l1', c1, endI, xdep, hx, dec_neg g1, hdd]
  have hm : x.many ≤ 2 := by unfold PPart.many; split <;> (try split) <;> omega
  have c5 := s_Many (n := x.op) (H := H)
  rw [many_eq g1] at c5
  rw [dec_pos g1] at c1
  have hw : IntKind.i64.wrap ((i : Int) + 1) = ((i : Int) + 1) := wrap_i64 (by omega) (by omega)
  have l0'' : ∀ T : LT, T.one → ∀ r c, loadAt T ⟨r, c, H⟩ (.hp id o) = some (.int .i64 x.op) := fun T hT r c => (l0' T hT r c).1
  have hgoal : endI (xdep f (d + 1) i) = endI (frep (xdep f d) x.many (i + 1, 0)) := by
   show endI (match f[i]? with
    | none => none
    | some n => if dec (PartOk n) = true then (frep (xdep f d) n.many (i + 1, 0)).map fun p => (p.1, p.2 + 1) else none) = _
   rw [hx]
   simp only [dec_pos g1, if_true]
   cases frep (xdep f d) x.many (i + 1, 0) <;> rfl
  rw [hgoal]
  simp [code224, Tryz.f224, h.len, g', hdp, e1, l1', l0'', c1, c5, hw, hdd]
  refine WP_loop (fun k σ => ∃ (m : Nat) (p : Option (Nat × Nat)) (a : Int) (r : Nat → R), σ = ⟨r, 0, H⟩ ∧ r 0 = .val v ∧ r 1 = .val (.int .i64 a) ∧ r 2 = .val (.int .i64 dd) ∧ r 7 = .val (.int .i64 m) ∧ m ≤ 20 ∧ k = (if p.isSome then m else 0) ∧ a = endI p ∧ (∀ q, p = some q → q.1 ≤ f.length) ∧ (p.bind fun q => frep (xdep f d) m q) = frep (xdep f d) x.many (i + 1, 0)) ?_ x.many _ ⟨x.many, some (i + 1, 0), i + 1, _, rfl, by simp, by simp, by simp, by simp, by omega, by simp, by simp [endI], fun q e => by cases e; exact g, rfl⟩
  rintro k σ ⟨m, p, a, r, rfl, r0, r1, r2, r7, hm20, hk, ha, hq, hp⟩
  cases p with
  | none =>
   simp only [Option.isSome_none, Bool.false_eq_true, if_false] at hk
   subst hk
   simp only [Option.bind_none] at hp
   subst ha
   by_cases hm0 : 0 < m
   ·simp [r0, r1, r2, r7, hm0, endI, ← hp]
   ·simp [r0, r1, r2, r7, hm0, endI, ← hp]
  | some q =>
   simp only [Option.isSome_some, if_true] at hk
   subst hk
   simp only [Option.bind_some] at hp
   have hql := hq q rfl
   subst ha
   cases k with
   | zero =>
    have : q = q := rfl
    simp only [frep] at hp
    simp [r0, r1, r2, r7, endI, ← hp]
   | succ k =>
    have c2 := s_EndX h hl d q.1 (by omega) hql
    have hw2 : IntKind.i64.wrap (((k + 1 : Nat) : Int) - 1) = (k : Int) := by rw [wrap_i64 (by omega) (by omega)]; omega
    have hw3 : IntKind.i64.wrap ((k : Int) + 1 - 1) = (k : Int) := by rw [wrap_i64 (by omega) (by omega)]; omega
    have h0 : (0 : Int) < (k : Int) + 1 := by omega
    have h1 : (0 : Int) ≤ (q.1 : Int) := by omega
    cases hsub : xdep f d q.1 with
    | none =>
     rw [hsub] at c2
     simp only [frep, hsub] at hp
     simp [r0, r1, r2, r7, h0, h1, endI, c2, hw2, hw3, hdw]
     exact ⟨0, by omega, k, by rw [wrap_i64 (by omega) (by omega)], by omega, none, by simp, rfl, by simp, by simpa using hp⟩
    | some q2 =>
     rw [hsub] at c2
     simp only [frep, hsub] at hp
     have hq2 := xdep_some _ _ _ hsub
     simp [r0, r1, r2, r7, h0, h1, endI, c2, hw2, hw3, hdw]
     exact ⟨k, by omega, k, by rw [wrap_i64 (by omega) (by omega)], by omega, some (q2.1, max q.2 q2.2), by simp, rfl, fun a b e => by cases e; exact hq2.2.1, by simpa using hp⟩
theorem s_ExprRight {v : V} {f : List PPart} {H : List Ob} (h : AParts H v f) : callW C 131 [v] H = some (.bool (dec (ExprOk f)), H) := by
 apply Ret.dec
 rw [op131]
 by_cases g : f.length ≤ 12
 rotate_left
 ·have g' : ¬ (f.length : Int) ≤ 12 := by omega
  simp [code131, Tryz.f131, h.len, g']
  exact fun h => g h.1
 have g' : (f.length : Int) ≤ 12 := by omega
 have c1 := s_EndX h g 5 0 (by omega) (by omega)
 simp only [Int.natCast_zero, show ((6 - 5 : Nat) : Int) = 1 from rfl] at c1
 cases hf : xdep f 5 0 with
 | none =>
  rw [hf] at c1
  have e : ¬ (-1 : Int) = (f.length : Int) := by omega
  simp [code131, Tryz.f131, h.len, g', c1, endI, e]
  rintro ⟨_, x, hx⟩
  rw [hf] at hx
  cases hx
 | some q =>
  rw [hf] at c1
  by_cases e : q.1 = f.length
  ·have e' : (q.1 : Int) = f.length := by omega
   simp [code131, Tryz.f131, h.len, g', c1, endI, e']
   exact ⟨g, q.2, by rw [hf, ← e]⟩
  ·have e' : ¬ (q.1 : Int) = f.length := by omega
   simp [code131, Tryz.f131, h.len, g', c1, endI, e']
   rintro ⟨_, x, hx⟩
   rw [hf] at hx
   cases hx
   exact e rfl
theorem i_between {n a b : Int} {H : List Ob} : callW C 178 [.int .i64 n, .int .i64 a, .int .i64 b] H = some (.bool (dec (a ≤ n ∧ n ≤ b)), H) := by
 apply Ret.dec
 rw [op178]
 by_cases h1 : a ≤ n
 ·by_cases h2 : n ≤ b
  ·simp [code178, Tryz.f178, h1, h2]
  ·simp [code178, Tryz.f178, h1, h2]
 ·simp [code178, Tryz.f178, h1]
theorem i_isPart {p : PPart} {H : List Ob} : callW C 309 [.agg p.cs] H = some (.bool (dec (PartOk p)), H) := by
 apply Ret.dec
 rw [op309]
 have c1 := i_operands (n := p.op) (H := H)
 have c2 := i_between (n := p.n) (a := 0) (b := 40) (H := H)
 have c3 := i_Name (t := p.text) (H := H)
 unfold PartOk
 by_cases g : manyI p.op < 0
 ·have hno : ¬ (1 ≤ p.op ∧ p.op ≤ 7) := by
   unfold manyI at g
   intro h
   split at g <;> try omega
  simp [code309, Tryz.f309, c1, g]
  exact fun a b => absurd ⟨a, b⟩ hno
 have hop : 1 ≤ p.op ∧ p.op ≤ 7 := by
  unfold manyI at g
  split at g <;> try omega
 by_cases g2 : 0 ≤ p.n ∧ p.n ≤ 40
 rotate_left
 ·rw [dec_neg g2] at c2
  by_cases o7 : p.op = 7
  ·have g7 : ¬ manyI 7 < 0 := by decide
   rw [o7] at c1
   simp [code309, Tryz.f309, c1, g7, o7, c2]
   omega
  ·by_cases n0 : p.n = 0
   ·omega
   ·simp [code309, Tryz.f309, c1, g, o7, c2, n0]
 rw [dec_pos g2] at c2
 by_cases hn : p.op = 7 ∨ p.n = 0
 rotate_left
 ·obtain ⟨o7, n0⟩ : ¬ p.op = 7 ∧ ¬ p.n = 0 := ⟨fun h => hn (.inl h), fun h => hn (.inr h)⟩
  simp [code309, Tryz.f309, c1, g, o7, n0]
 by_cases o1 : p.op = 1
 ·have g1 : ¬ manyI 1 < 0 := by decide
  have n0 : p.n = 0 := by omega
  rw [o1] at c1
  by_cases h4 : p.text.length ≤ 40
  ·have c4 := i_Plain (t := p.text) (H := H) (by omega)
   have h4' : (p.text.length : Int) ≤ 40 := by omega
   by_cases hp : Plain p.text
   ·rw [dec_pos hp] at c4
    rw [n0] at c2
    simp [code309, Tryz.f309, c1, g1, o1, n0, c2, h4', h4, c4, hp]
   ·rw [dec_neg hp] at c4
    rw [n0] at c2
    simp [code309, Tryz.f309, c1, g1, o1, n0, c2, h4', h4, c4, hp]
  ·have h4' : ¬ (p.text.length : Int) ≤ 40 := by omega
   rw [n0] at c2
   simp [code309, Tryz.f309, c1, g1, o1, n0, c2, h4', h4]
 by_cases o2 : p.op = 2
 ·have g1 : ¬ manyI 2 < 0 := by decide
  have n0 : p.n = 0 := by omega
  rw [o2] at c1
  rw [n0] at c2
  by_cases hp : NameOk p.text
  ·rw [dec_pos hp] at c3
   simp [code309, Tryz.f309, c1, g1, o2, n0, c2, c3, hp]
  ·rw [dec_neg hp] at c3
   simp [code309, Tryz.f309, c1, g1, o2, n0, c2, c3, hp]
 have h3 : 3 ≤ p.op := by omega
 by_cases o7 : p.op = 7
 ·have g1 : ¬ manyI 7 < 0 := by decide
  rw [o7] at c1
  by_cases ht : p.text = []
  ·simp [code309, Tryz.f309, c1, g1, o7, c2, ht]
   omega
  ·have e2 : List.isEmpty p.text = false := by simpa using ht
   simp [code309, Tryz.f309, c1, g1, o7, c2, ht, e2]
 ·have n0 : p.n = 0 := by omega
  rw [n0] at c2
  by_cases ht : p.text = []
  ·simp [code309, Tryz.f309, c1, g, o1, o2, o7, n0, c2, ht]
   omega
  ·have e2 : List.isEmpty p.text = false := by simpa using ht
   simp [code309, Tryz.f309, c1, g, o1, o2, o7, n0, c2, ht, e2, h3]
theorem i_exprDepth {f : List PPart} (hl : f.length ≤ 100) : ∀ (d : Nat) (v : V) (i : Nat) (H : List Ob), d ≤ 100 → i ≤ f.length → f.length - i ≤ d → AParts H v (f.drop i) →
  callW C 233 [v] H = some (depI i (xdep f d i), H) := by
 intro d
 induction d with
 | zero =>
  intro v i H hd hi hfi h
  suffices hs : Ret C 233 [v] H fun q H' => q = depI i (xdep f 0 i) ∧ H' = H by
   obtain ⟨q, H', hc, rfl, rfl⟩ := hs
   exact hc
  rw [op233]
  have he : f.drop i = [] := by simp; omega
  rw [he] at h
  simp [code233, Tryz.f233, h.len, depI, xdep]
 | succ d ih0 =>
 intro v i H hdb hi0 hfi h
 suffices hs : Ret C 233 [v] H fun q H' => q = depI i (xdep f (d + 1) i) ∧ H' = H by
  obtain ⟨q, H', hc, rfl, rfl⟩ := hs
  exact hc
 rw [op233]
 rcases Nat.lt_or_ge i f.length with hi | g
 rotate_left
 ·have he : f.drop i = [] := by simp; omega
  rw [he] at h
  simp [code233, Tryz.f233, h.len, depI, xdep, List.getElem?_eq_none g]
 obtain ⟨x, hx⟩ : ∃ c, f[i]? = some c := ⟨f[i], by simp [hi]⟩
 have ih : ∀ (w : V) (j : Nat) (G : List Ob), i < j → j ≤ f.length → AParts G w (f.drop j) → callW C 233 [w] G = some (depI j (xdep f d j), G) := fun w j G h1 h2 h3 => ih0 w j G (by omega) h2 (by omega) h3
 obtain ⟨fs, hfs⟩ : ∃ fs, fs = f.drop i := ⟨_, rfl⟩
 have hfl : fs.length = f.length - i := by rw [hfs]; simp
 have hn0 : ¬ fs = [] := by intro h; rw [h] at hfl; simp at hfl; omega
 have hn0' : ¬ (fs.length : Int) = 0 := by omega
 have hx0 : fs[0]? = some x := by rw [hfs, List.getElem?_drop]; exact hx
 rw [← hfs] at h
 obtain ⟨id, o, e1, l0, l1, _, _, w4⟩ := parts_idx h hx0
 have e1' := fun (e s b : Nat) (z : List V) (ty : Nat → LT) => e1 e s b z ty .i64
 have l1' := l1 []
 have l0' := l0 []
 simp only [List.append_nil, Int.natCast_zero] at l1' e1' l0'
 have l0'' : ∀ T : LT, T.one → ∀ r c, loadAt T ⟨r, c, H⟩ (.hp id o) = some (.int .i64 x.op) := fun T hT r c => (l0' T hT r c).1
 have c1 := i_isPart (p := x) (H := H)
 by_cases hok : PartOk x
 rotate_left
 ·rw [dec_neg hok] at c1
  simp [code233, Tryz.f233, h.len, hn0, hn0', e1', l1', c1, depI, xdep, hx, dec_neg hok]
 rw [dec_pos hok] at c1
 have c5 := i_operands (n := x.op) (H := H)
 rw [many_eq hok] at c5
 have hmb : x.many ≤ 2 := by unfold PPart.many; split <;> (try split) <;> omega
 have hgoal : depI i (xdep f (d + 1) i) = depI i ((frep (xdep f d) x.many (i + 1, 0)).map fun p => (p.1, p.2 + 1)) := by
  show depI i (match f[i]? with
   | none => none
   | some n => if dec (PartOk n) = true then (frep (xdep f d) n.many (i + 1, 0)).map fun p => (p.1, p.2 + 1) else none) = _
  rw [hx]
  simp only [dec_pos hok, if_true]
 rw [hgoal]
 obtain ⟨mm, hmm⟩ : ∃ mm, mm = x.many := ⟨_, rfl⟩
 rw [← hmm] at hmb c5 ⊢
 simp [code233, Tryz.f233, h.len, hn0, hn0', e1', l1', l0'', c1, c5]
 refine WP_loop (fun k σ => ∃ (p : Nat × Nat) (r : Nat → R), σ = ⟨r, 0, H⟩ ∧ r 0 = .val v ∧ r 4 = .val (.int .i64 ((p.1 - i : Nat) : Int)) ∧ r 5 = .val (.int .i64 (p.2 : Int)) ∧ r 22 = .val (.int .i64 (mm : Int)) ∧ k ≤ mm ∧ r 23 = .val (.int .i64 ((mm - k : Nat) : Int)) ∧ i < p.1 ∧ p.1 ≤ f.length ∧ p.2 ≤ d ∧ frep (xdep f d) k p = frep (xdep f d) mm (i + 1, 0)) ?_ mm _ ⟨(i + 1, 0), _, rfl, by simp, by simp, by simp, by simp, Nat.le_refl _, by simp, by simp, by simp; omega, by simp, rfl⟩
 rintro k σ ⟨p, r, rfl, r0, r5, r6, r50, hkm, r51, hip, hpl, hpd, hp⟩
 cases k with
 | zero =>
  have e1 : ¬ ((mm - 0 : Nat) : Int) < mm := by omega
  simp only [frep] at hp
  have hw : IntKind.i64.wrap ((p.2 : Int) + 1) = ((p.2 + 1 : Nat) : Int) := by rw [wrap_i64 (by omega) (by omega)]; omega
  simp [r0, r5, r6, r50, r51, ← hp, depI, hw]
 | succ k =>
  have e1 : ((mm - (k + 1) : Nat) : Int) < mm := by omega
  have hw1 : IntKind.i64.wrap (((mm - (k + 1) : Nat) : Int) + 1) = ((mm - k : Nat) : Int) := by rw [wrap_i64 (by omega) (by omega)]; omega
  obtain ⟨ids, off, own, cells, hv, hcell, hd⟩ := h.drop (k := p.1 - i) (by omega) (by omega)
  have hdj : fs.drop (p.1 - i) = f.drop p.1 := by rw [hfs, List.drop_drop]; congr 1; omega
  rw [hdj] at hd
  have hst : strideIs H ids 3 = true := by simp [strideIs, hcell]
  have hsz : shPart.size = 3 := rfl
  rw [hsz] at hd
  have c2 := ih _ p.1 H hip hpl hd
  have hle : p.1 - i ≤ fs.length := by omega
  cases hsub : xdep f d p.1 with
  | none =>
   rw [hsub] at c2
   simp only [frep, hsub] at hp
   simp only [depI] at c2
   simp [r0, r5, r6, r50, r51, e1, hv, hst, hle, c2, ← hp, depI]
  | some q =>
   rw [hsub] at c2
   simp only [frep, hsub] at hp
   simp only [depI] at c2
   have hq := xdep_some _ _ _ hsub
   have e2 : ¬ ((q.1 - p.1 : Nat) : Int) = 0 := by omega
   have e2' : ¬ (q.1 - p.1 : Nat) = 0 := by omega
   have hw2 : IntKind.i64.wrap (((p.1 - i : Nat) : Int) + ((q.1 - p.1 : Nat) : Int)) = ((q.1 - i : Nat) : Int) := by rw [wrap_i64 (by omega) (by omega)]; omega
   have hmx : maxV [.int .i64 (p.2 : Int), .int .i64 (q.2 : Int)] = some (.int .i64 ((max p.2 q.2 : Nat) : Int)) := by
    simp [maxV]
    omega
   simp [r0, r5, r6, r50, r51, e1, hv, hst, hle, c2, e2, e2', hw1, hw2, hmx]
   exact ⟨k, by omega, q.1, rfl, max p.2 q.2, rfl, by omega, rfl, by omega, by omega, by omega, hp⟩
theorem i_ExprRight {v : V} {f : List PPart} {H : List Ob} (h : AParts H v f) : callW C 141 [v] H = some (.bool (dec (ExprOk f)), H) := by
 apply Ret.dec
 rw [op141]
 by_cases g : f.length ≤ 12
 rotate_left
 ·have g' : (12 : Int) < f.length := by omega
  simp [code141, Tryz.f141, h.len, g']
  exact fun h => g h.1
 have g' : ¬ (12 : Int) < f.length := by omega
 have c1 := i_exprDepth (f := f) (by omega) 12 v 0 H (by omega) (by omega) (by omega) h
 rw [expr_ok]
 cases hf : xdep f 12 0 with
 | none =>
  rw [hf] at c1
  simp only [depI] at c1
  simp [code141, Tryz.f141, h.len, g', c1]
 | some q =>
  rw [hf] at c1
  simp only [depI, Nat.sub_zero] at c1
  have hq := xdep_some _ _ _ hf
  have h0 : 0 < q.1 := by omega
  by_cases e : q.1 = f.length
  ·have h1 : 0 < f.length := by omega
   by_cases e5 : q.2 ≤ 5
   ·have e5' : (q.2 : Int) ≤ 5 := by omega
    simp [code141, Tryz.f141, h.len, g', c1, e, h1, e5']
    exact ⟨g, q.2, by rw [← e], e5⟩
   ·have e5' : ¬ (q.2 : Int) ≤ 5 := by omega
    simp [code141, Tryz.f141, h.len, g', c1, e, h1, e5']
    intro _ x hx
    rw [hx] at e5
    exact Nat.lt_of_not_le e5
  ·have e' : ¬ (q.1 : Int) = f.length := by omega
   simp [code141, Tryz.f141, h.len, g', c1, e, e', h0]
   intro _ x hx
   rw [hx] at e
   exact absurd rfl e
def attrsX (x : List PPart) : List Str := x.flatMap fun p => if p.op = 2 then [p.text] else []
theorem attrsX_step {x : List PPart} {i : Nat} {p : PPart} (h : x[i]? = some p) : attrsX (x.take (i + 1)) = attrsX (x.take i) ++ if p.op = 2 then [p.text] else [] := by
 unfold attrsX
 rw [take_get h, List.flatMap_append]
 simp
theorem attrsX_len {x : List PPart} : (attrsX x).length ≤ x.length := by
 induction x with
 | nil => simp [attrsX]
 | cons p x ih =>
  unfold attrsX at ih ⊢
  rw [List.flatMap_cons, List.length_append, List.length_cons]
  have h1 : (if p.op = 2 then [p.text] else []).length ≤ 1 := by split <;> simp
  omega
theorem s_L13Attrs {H : List Ob} {v : V} {x : List PPart} (h : AParts H v x) (hl : x.length ≤ 12) :
  ∃ T w l', callW C 134 [v] H = some (w, H ++ T) ∧ AStrs (H ++ T) w l' ∧ (∀ y, y ∈ l' ↔ y ∈ attrsX x) := by
 suffices hs : Ret C 134 [v] H fun w H' => ∃ T l', H' = H ++ T ∧ AStrs (H ++ T) w l' ∧ (∀ y, y ∈ l' ↔ y ∈ attrsX x) by
  obtain ⟨q, H', hc, T, l', rfl, hr⟩ := hs
  exact ⟨T, q, l', hc, hr⟩
 rw [op134]
 have hone := h.one
 simp [code134, Tryz.f134, St.new, elemT, fillL, zerosL]
 have hinit : AStrs (H ++ [.mk true 1 []]) (.slc (some (H.length, 0)) 0) [] := (Gs.strs (l := []) Gs.init (by simp) (by simp)).1
 refine WP_loop (fun k σ => ∃ (i : Nat) (r : Nat → R) (T : List Ob) (w : V) (ks : List Str), i + k = x.length ∧ σ = ⟨r, 0, H ++ T⟩ ∧ r 0 = .val v ∧ r 3 = .val w ∧ r 4 = .val (.int .i64 i) ∧ AStrs (H ++ T) w ks ∧ (∀ y, y ∈ ks ↔ y ∈ attrsX (x.take i)) ∧ ks.length ≤ i) ?_ x.length _ ⟨0, _, _, _, [], by simp, rfl, by simp, by simp, by simp, hinit, by simp [attrsX], by simp⟩
 rintro k σ ⟨i, r, T, w, ks, hik, rfl, r0, r3, r4, hw, hmem, hlen⟩
 have hwo := hw.one
 cases k with
 | zero =>
  have hi : i = x.length := by omega
  subst hi
  rw [List.take_length] at hmem
  obtain ⟨T', hg, hw'⟩ := hw.gc
  simp [r0, r3, r4, h.len, hwo, hg, regionL_none, regionL_some, List.lookup]
  exact ⟨ks, hw', hmem⟩
 | succ k =>
  have hi : i < x.length := by omega
  obtain ⟨p, hp⟩ : ∃ p, x[i]? = some p := ⟨x[i], by simp [hi]⟩
  have hw1 : IntKind.i64.wrap ((i : Int) + 1) = ((i : Int) + 1) := wrap_i64 (by omega) (by omega)
  obtain ⟨id, o, e1, l0, _, ht, _⟩ := parts_idx h hp
  have l0' := l0 T
  have hstep := attrsX_step hp
  by_cases g : p.op = 2
  ·obtain ⟨T2, w', ks', c1, hw', hm', hl'⟩ := s_L05Put hw ht (by omega)
   have hwo' := hw'.one
   simp [r0, r3, r4, hi, h.len, e1, l0', g, c1, hw1, hwo', regionL_none, regionL_some, List.lookup]
   refine ⟨k, by omega, i + 1, by omega, _, T ++ T2, ⟨rfl, by simp⟩, by simp [r0], w', by simp, by simp, ks', by simpa using hw', fun y => ?_, by omega⟩
   rw [hm' y, hmem y, hstep, if_pos g, List.mem_append, List.mem_singleton, or_comm]
  ·simp [r0, r3, r4, hi, h.len, e1, l0', g, hw1, regionL_none, regionL_some, List.lookup]
   refine ⟨k, by omega, i + 1, by omega, _, T, ⟨rfl, rfl⟩, by simp [r0], w, by simp [r3], by simp, ks, hw, fun y => ?_, by omega⟩
   rw [hmem y, hstep, if_neg g, List.append_nil]
theorem i_exprAttrs {H : List Ob} {v : V} {x : List PPart} (h : AParts H v x) (hl : x.length ≤ 12) :
  ∃ T w l', callW C 145 [v] H = some (w, H ++ T) ∧ AStrs (H ++ T) w l' ∧ (∀ y, y ∈ l' ↔ y ∈ attrsX x) ∧ l'.length ≤ 12 := by
 suffices hs : Ret C 145 [v] H fun w H' => ∃ T l', H' = H ++ T ∧ AStrs (H ++ T) w l' ∧ (∀ y, y ∈ l' ↔ y ∈ attrsX x) ∧ l'.length ≤ 12 by
  obtain ⟨q, H', hc, T, l', rfl, hr⟩ := hs
  exact ⟨T, q, l', hc, hr⟩
 rw [op145]
 have hone := h.one
 simp [code145, Tryz.f145, St.new, elemT, fillL, zerosL, h.len, hone]
 refine WP_loop (fun k σ => ∃ (i n : Nat) (r : Nat → R) (G : List Ob) (w : V), i + k = x.length ∧ σ = ⟨r, n, G⟩ ∧ r 3 = .val w ∧ r 7 = .val v ∧ r 8 = .val (.int .i64 x.length) ∧ r 9 = .val (.int .i64 i) ∧ Gs H G w ((attrsX (x.take i)).map V.str) ∧ ∀ s ∈ attrsX (x.take i), s.length ≤ maxLen) ?_ x.length _ ⟨0, _, _, _, .slc (some (H.length, 0)) 0, by simp, rfl, by simp, by simp, by simp, by simp, by simpa [attrsX] using Gs.init, by simp [attrsX]⟩
 rintro k σ ⟨i, n, r, G, w, hik, rfl, r3, r7, r8, r9, hG, hms⟩
 obtain ⟨S, hS⟩ := hG.ext
 have hwo := hG.one
 have hle := attrsX_len (x := x.take i)
 rw [List.length_take] at hle
 cases k with
 | zero =>
  have hi : i = x.length := by omega
  subst hi
  rw [List.take_length] at hG hle hms
  have hw := (hG.strs (by unfold maxLen; omega) hms).1
  obtain ⟨T, p, m, c1, _, ⟨l', hl', hmem, hll⟩, _⟩ := i_unionM (H := G ++ [.mk true 1 [w]]) (id := G.length) (own := true) (va := w) (l := attrsX x) get_last hw.ext (by omega)
  simp only [hS, List.append_assoc] at hl'
  obtain ⟨T', hg, hat⟩ := hl'.gc
  simp only [List.append_assoc] at c1
  rw [← List.append_assoc, ← hS] at hg
  simp [r3, r7, r8, r9, hwo, St.new, elemT, fillL, zerosL, c1, hg, regionL_none, regionL_some, List.lookup]
  exact ⟨T', by simpa using hg, l', hat, hmem, by omega⟩
 | succ k =>
  have hi : i < x.length := by omega
  obtain ⟨p, hp⟩ : ∃ p, x[i]? = some p := ⟨x[i], by simp [hi]⟩
  have hw1 : IntKind.i64.wrap ((i : Int) + 1) = ((i : Int) + 1) := wrap_i64 (by omega) (by omega)
  obtain ⟨id, o, e1, l0, l3, ht, _⟩ := parts_idx h hp
  have l3' := l3 S
  rw [← hS] at l3'
  have hstep := attrsX_step hp
  by_cases g : p.op = 2
  ·rw [if_pos g] at hstep
   obtain ⟨x2, G2, p2, g2⟩ := hG.push (x := .str p.text) (d := .str) (b := 16) (z := [.str []]) rfl (by simp; unfold maxMade; omega) (by decide) (by decide) rfl
   have o2 := g2.one
   simp [r3, r7, r8, r9, hi, e1, l3', hwo, o2, g, St.new, elemT, fillL, zerosL, p2, hw1, regionL_none, regionL_some, List.lookup]
   refine ⟨k, by omega, i + 1, by omega, _, _, _, ⟨rfl, rfl, rfl⟩, x2, by simp, by simp [r7], by simp [r8], by simp, by rw [hstep]; simpa using g2, fun s hs => ?_⟩
   rw [hstep] at hs
   rcases List.mem_append.1 hs with hs | hs
   ·exact hms s hs
   ·rw [List.mem_singleton.1 hs]; exact ht
  ·rw [if_neg g, List.append_nil] at hstep
   simp [r3, r7, r8, r9, hi, e1, l3', hwo, g, St.new, elemT, fillL, zerosL, hw1, regionL_none, regionL_some, List.lookup]
   exact ⟨k, by omega, i + 1, by omega, _, _, _, ⟨rfl, rfl, rfl⟩, w, by simp [r3], by simp [r7], by simp [r8], by simp, by rw [hstep]; exact hG, by rw [hstep]; exact hms⟩
noncomputable def attrsF (f : List PNode) : List Str := f.flatMap fun n => if dec n.Inner = true then [] else [n.attr]
theorem attrsF_step {f : List PNode} {i : Nat} {n : PNode} (h : f[i]? = some n) : attrsF (f.take (i + 1)) = attrsF (f.take i) ++ if dec n.Inner = true then [] else [n.attr] := by
 unfold attrsF
 rw [take_get h, List.flatMap_append]
 simp
theorem attrsF_len {f : List PNode} : (attrsF f).length ≤ f.length := by
 induction f with
 | nil => simp [attrsF]
 | cons n f ih =>
  unfold attrsF at ih ⊢
  rw [List.flatMap_cons, List.length_append, List.length_cons]
  have h1 : (if dec n.Inner = true then [] else [n.attr]).length ≤ 1 := by split <;> simp
  omega
theorem frep_all {f : List PNode} {g : Nat → Option (Nat × Nat)} (hg : ∀ i q, g i = some q → i < q.1 ∧ ∀ j n, i ≤ j → j < q.1 → f[j]? = some n → NodeOk n) : ∀ k p q, frep g k p = some q → p.1 ≤ q.1 ∧ ∀ j n, p.1 ≤ j → j < q.1 → f[j]? = some n → NodeOk n
 | 0, p, q, h => by cases h; exact ⟨Nat.le_refl _, fun j n h1 h2 => by omega⟩
 | k + 1, p, q, h => by
  unfold frep at h
  cases hq : g p.1 with
  | none => rw [hq] at h; cases h
  | some r =>
   rw [hq] at h
   obtain ⟨e1, e2⟩ := hg _ _ hq
   obtain ⟨f1, f2⟩ := frep_all hg k _ q h
   simp only at f1 f2
   refine ⟨by omega, fun j n h1 h2 h3 => ?_⟩
   by_cases hj : j < r.1
   ·exact e2 j n h1 hj h3
   ·exact f2 j n (by omega) h2 h3
theorem fdep_all {f : List PNode} : ∀ d i q, fdep f d i = some q → i < q.1 ∧ ∀ j n, i ≤ j → j < q.1 → f[j]? = some n → NodeOk n
 | 0, i, q, h => by cases h
 | d + 1, i, q, h => by
  unfold fdep at h
  cases hn : f[i]? with
  | none => rw [hn] at h; cases h
  | some x =>
   rw [hn] at h
   simp only at h
   split at h
   ·rename_i hok
    cases hr : frep (fdep f d) x.many.toNat (i + 1, 0) with
    | none => rw [hr] at h; cases h
    | some r =>
     rw [hr] at h
     cases h
     obtain ⟨e1, e2⟩ := frep_all (f := f) (fun i q h => fdep_all d i q h) _ _ _ hr
     simp only at e1 e2
     refine ⟨by simp only; omega, fun j n h1 h2 h3 => ?_⟩
     by_cases hj : j = i
     ·subst hj
      rw [hn] at h3
      cases h3
      exact dec_true.1 hok
     ·exact e2 j n (by omega) h2 h3
   ·cases h
theorem FilterOk.nodes {f : List PNode} (h : FilterOk f) : ∀ n ∈ f, NodeOk n := fun n hn => by
 obtain ⟨_, x, hx⟩ := h
 obtain ⟨j, hj, rfl⟩ := List.getElem_of_mem hn
 exact (fdep_all _ _ _ hx).2 j _ (Nat.zero_le _) hj (List.getElem?_eq_getElem hj)
theorem node_gt {n : PNode} (h : NodeOk n) : 3 < n.op ↔ ¬ n.Inner := by
 unfold PNode.Inner
 rcases h with ⟨a, _⟩ | ⟨a, _⟩ | ⟨a, _⟩
 ·unfold PNode.Inner at a; omega
 ·omega
 ·omega
theorem i_filterAttrs {H : List Ob} {v : V} {f : List PNode} (h : ANodes H v f) (hok : FilterOk f) :
  ∃ T w l', callW C 144 [v] H = some (w, H ++ T) ∧ AStrs (H ++ T) w l' ∧ (∀ y, y ∈ l' ↔ y ∈ attrsF f) ∧ l'.length ≤ 20 := by
 suffices hs : Ret C 144 [v] H fun w H' => ∃ T l', H' = H ++ T ∧ AStrs (H ++ T) w l' ∧ (∀ y, y ∈ l' ↔ y ∈ attrsF f) ∧ l'.length ≤ 20 by
  obtain ⟨q, H', hc, T, l', rfl, hr⟩ := hs
  exact ⟨T, q, l', hc, hr⟩
 rw [op144]
 have hone := h.one
 have hl := hok.1
 simp [code144, Tryz.f144, St.new, elemT, fillL, zerosL, h.len, hone]
 refine WP_loop (fun k σ => ∃ (i n : Nat) (r : Nat → R) (G : List Ob) (w : V), i + k = f.length ∧ σ = ⟨r, n, G⟩ ∧ r 3 = .val w ∧ r 7 = .val v ∧ r 8 = .val (.int .i64 f.length) ∧ r 9 = .val (.int .i64 i) ∧ Gs H G w ((attrsF (f.take i)).map V.str) ∧ ∀ s ∈ attrsF (f.take i), s.length ≤ maxLen) ?_ f.length _ ⟨0, _, _, _, .slc (some (H.length, 0)) 0, by simp, rfl, by simp, by simp, by simp, by simp, by simpa [attrsF] using Gs.init, by simp [attrsF]⟩
 rintro k σ ⟨i, n, r, G, w, hik, rfl, r3, r7, r8, r9, hG, hms⟩
 obtain ⟨S, hS⟩ := hG.ext
 have hwo := hG.one
 have hle := attrsF_len (f := f.take i)
 rw [List.length_take] at hle
 cases k with
 | zero =>
  have hi : i = f.length := by omega
  subst hi
  rw [List.take_length] at hG hle hms
  have hw := (hG.strs (by unfold maxLen; omega) hms).1
  obtain ⟨T, p, m, c1, _, ⟨l', hl', hmem, hll⟩, _⟩ := i_unionM (H := G ++ [.mk true 1 [w]]) (id := G.length) (own := true) (va := w) (l := attrsF f) get_last hw.ext (by omega)
  simp only [hS, List.append_assoc] at hl'
  obtain ⟨T', hg, hat⟩ := hl'.gc
  simp only [List.append_assoc] at c1
  rw [← List.append_assoc, ← hS] at hg
  simp [r3, r7, r8, r9, hwo, St.new, elemT, fillL, zerosL, c1, hg, regionL_none, regionL_some, List.lookup]
  exact ⟨T', by simpa using hg, l', hat, hmem, by omega⟩
 | succ k =>
  have hi : i < f.length := by omega
  obtain ⟨p, hp⟩ : ∃ p, f[i]? = some p := ⟨f[i], by simp [hi]⟩
  have hw1 : IntKind.i64.wrap ((i : Int) + 1) = ((i : Int) + 1) := wrap_i64 (by omega) (by omega)
  obtain ⟨id, o, e1, l0, l3, ht, _⟩ := nodes_idx h hp
  have l3' := l3 S
  rw [← hS] at l3'
  have hstep := attrsF_step hp
  have hgt := node_gt (FilterOk.nodes hok p (List.mem_of_getElem? hp))
  by_cases g : p.Inner
  ·have g' : ¬ 3 < p.op := fun hh => hgt.1 hh g
   rw [dec_pos g, if_pos rfl, List.append_nil] at hstep
   simp [r3, r7, r8, r9, hi, e1, l3', hwo, g', St.new, elemT, fillL, zerosL, hw1, regionL_none, regionL_some, List.lookup]
   exact ⟨k, by omega, i + 1, by omega, _, _, _, ⟨rfl, rfl, rfl⟩, w, by simp [r3], by simp [r7], by simp [r8], by simp, by rw [hstep]; exact hG, by rw [hstep]; exact hms⟩
  ·have g' : 3 < p.op := hgt.2 g
   rw [dec_neg g] at hstep
   simp only [Bool.false_eq_true, if_false] at hstep
   obtain ⟨x2, G2, p2, g2⟩ := hG.push (x := .str p.attr) (d := .str) (b := 16) (z := [.str []]) rfl (by simp; unfold maxMade; omega) (by decide) (by decide) rfl
   have o2 := g2.one
   simp [r3, r7, r8, r9, hi, e1, l3', hwo, o2, g', St.new, elemT, fillL, zerosL, p2, hw1, regionL_none, regionL_some, List.lookup]
   refine ⟨k, by omega, i + 1, by omega, _, _, _, ⟨rfl, rfl, rfl⟩, x2, by simp, by simp [r7], by simp [r8], by simp, by rw [hstep]; simpa using g2, fun s hs => ?_⟩
   rw [hstep] at hs
   rcases List.mem_append.1 hs with hs | hs
   ·exact hms s hs
   ·rw [List.mem_singleton.1 hs]; exact ht
end Go.Proofs.Try1
end
