/- Part 14 of the proof of a law: the interpreter, its soundness, and what functions of the program compute over it. Conditions: none but those that each theorem names. -/
import Derived.Test.YtipjjjlomghdfaaGreatDoorS13
import Derived.Test.YtipjjjlomghdfaaGreatDoorS08
import Derived.Test.YtipjjjlomghdfaaGreatDoorS10
import Derived.Test.YtipjjjlomghdfaaGreatDoorS12

set_option linter.all false
set_option maxRecDepth 20000
set_option maxHeartbeats 40000000
section
namespace Go.Lite
open Go
def Rw (s : Nat) (B G : List Ob) (v : V) (n : Nat) (cs : List V) : Prop :=
 (∃ T, G = B ++ T) ∧ cs.length = n * s ∧ ((v = .slc none 0 ∧ n = 0) ∨ ∃ id, v = .slc (some (id, 0)) n ∧ B.length ≤ id ∧ G[id]? = some (.mk true s cs))
section
variable {s n m : Nat} {B G : List Ob} {v : V} {cs xs : List V}
theorem Rw.nil : Rw s B B (.slc none 0) 0 [] := ⟨⟨[], by simp⟩, by simp, .inl ⟨rfl, rfl⟩⟩
theorem Rw.init (hB : ∃ T, G = B ++ T) : Rw s B (G ++ [.mk true s []]) (.slc (some (G.length, 0)) 0) 0 [] := by
 obtain ⟨T, rfl⟩ := hB
 exact ⟨⟨T ++ [.mk true s []], by simp⟩, by simp, .inr ⟨(B ++ T).length, rfl, by simp, get_last⟩⟩
theorem Rw.pre (h : Rw s B G v n cs) : ∃ T, G = B ++ T := h.1
theorem Rw.ext {T : List Ob} (h : Rw s B G v n cs) : Rw s B (G ++ T) v n cs := by
 obtain ⟨⟨S, rfl⟩, h2, h3⟩ := h
 exact ⟨⟨S ++ T, by simp⟩, h2, h3.imp id fun ⟨id, q1, q2, q3⟩ => ⟨id, q1, q2, up_append _ _ q3⟩⟩
theorem Rw.one (h : Rw s B G v n cs) : isOne v = true ∧ cellsOf v = some [v] := by
 rcases h.2.2 with ⟨rfl, _⟩ | ⟨id, rfl, _⟩ <;> exact ⟨rfl, rfl⟩
theorem Rw.many (h : Rw s B G v n cs) {d : LD} {by_ : Nat} {z : List V} {x : V} (hx : newCells ⟨d, s, by_, z⟩ G x = some (xs, m)) (hm : xs.length = m * s) (ho : xs.all isOne = true)
  (hz : z.length = s) (h0 : 0 < s) (hb0 : 0 < by_) (hb1 : by_ ≤ 1000000) (hb : (n + m) * by_ ≤ maxMade) :
  ∃ v' G', appendV ⟨d, s, by_, z⟩ G v x = some (v', G') ∧ Rw s B G' v' (n + m) (cs ++ xs) := by
 by_cases hm0 : m = 0
 ·subst hm0
  have hx0 : xs = [] := List.length_eq_zero_iff.1 (by omega)
  subst hx0
  refine ⟨v, G, ?_, by simpa using h⟩
  unfold appendV
  rw [if_pos (by simp [growOk, h0, hb0, hb1, hz]), hx]
  simp only [if_true]
  rcases h.2.2 with ⟨rfl, _⟩ | ⟨id, rfl, _⟩ <;> rfl
 obtain ⟨⟨T, rfl⟩, h2, h3⟩ := h
 rcases h3 with ⟨rfl, rfl⟩ | ⟨id, rfl, q2, q3⟩
 ·have hc0 : cs = [] := List.length_eq_zero_iff.1 (by omega)
  subst hc0
  refine ⟨_, _, appendV_nil hz h0 hb0 hb1 hx hm0 ho (by simpa using hb), ⟨T ++ [.mk true s xs], by simp⟩, by simp [hm], .inr ⟨(B ++ T).length, by simp, by simp, ?_⟩⟩
  rw [List.nil_append]; exact get_last
 ·refine ⟨_, _, appendV_row hz h0 hb0 hb1 q3 h2 hx hm0 ho hb, ⟨T.set (id - B.length) .dead ++ [.mk true s (cs ++ xs)], ?_⟩, by simp [h2, hm, Nat.add_mul], .inr ⟨(B ++ T).length, rfl, by simp, ?_⟩⟩
  ·rw [List.set_append_right _ _ q2, List.append_assoc]
  ·have hl : ((B ++ T).set id .dead).length = (B ++ T).length := List.length_set
   rw [← hl, get_last]
end
def RowsOk (B : List Ob) (sh : Sh) (cs : List V) (us : List U) (Fs : List (List Nat)) : Prop :=
 cs.length = us.length * sh.size ∧ Fs.length = us.length ∧ ∀ i x F, us[i]? = some x → Fs[i]? = some F → AtF B sh ((cs.drop (i * sh.size)).take sh.size) x F
section
variable {B G : List Ob} {sh : Sh} {cs cs' : List V} {us us' : List U} {Fs Fs' : List (List Nat)} {v : V}
theorem RowsOk.nil : RowsOk B sh [] [] [] := ⟨by simp, rfl, fun i x F h => by cases h⟩
theorem RowsOk.one {c : List V} {x : U} {F : List Nat} (h : AtF B sh c x F) : RowsOk B sh c [x] [F] := by
 have hl : c.length = sh.size := At.len _ (AtF.at _ h)
 refine ⟨by simp [hl], rfl, fun i y K hy hK => ?_⟩
 cases i with
 | zero => cases hy; cases hK; rw [Nat.zero_mul, List.drop_zero, List.take_of_length_le (by omega)]; exact h
 | succ i => cases hy
theorem RowsOk.take (h : RowsOk B sh cs us Fs) {k : Nat} (hk : k ≤ us.length) : RowsOk B sh (cs.take (k * sh.size)) (us.take k) (Fs.take k) := by
 obtain ⟨h1, h2, h3⟩ := h
 have hm : k * sh.size ≤ us.length * sh.size := Nat.mul_le_mul_right _ hk
 refine ⟨by simp [Nat.min_eq_left hk]; omega, by simp; omega, fun i x F hx hF => ?_⟩
 have hi : i < k := by have := (List.getElem?_eq_some_iff.1 hx).1; simp at this; omega
 rw [List.getElem?_take_of_lt hi] at hx hF
 have hs : i * sh.size + sh.size ≤ k * sh.size := mul_step hi
 have := h3 i x F hx hF
 rw [chunk_take hs]
 exact this
theorem RowsOk.drop (h : RowsOk B sh cs us Fs) {k : Nat} (hk : k ≤ us.length) : RowsOk B sh (cs.drop (k * sh.size)) (us.drop k) (Fs.drop k) := by
 obtain ⟨h1, h2, h3⟩ := h
 refine ⟨by simp [h1, Nat.sub_mul], by simp; omega, fun i x F hx hF => ?_⟩
 rw [List.getElem?_drop] at hx hF
 have := h3 (k + i) x F hx hF
 rw [List.drop_drop, ← Nat.add_mul]
 exact this
theorem RowsOk.append (h : RowsOk B sh cs us Fs) (h' : RowsOk B sh cs' us' Fs') : RowsOk B sh (cs ++ cs') (us ++ us') (Fs ++ Fs') := by
 obtain ⟨h1, h2, h3⟩ := h
 obtain ⟨k1, k2, k3⟩ := h'
 refine ⟨by simp [h1, k1, Nat.add_mul], by simp [h2, k2], fun i x F hx hF => ?_⟩
 by_cases hi : i < us.length
 ·rw [List.getElem?_append_left hi] at hx
  rw [List.getElem?_append_left (by omega)] at hF
  have hs : i * sh.size + sh.size ≤ us.length * sh.size := mul_step hi
  rw [List.drop_append_of_le_length (by omega), List.take_append_of_le_length (by simp; omega)]
  exact h3 i x F hx hF
 ·obtain ⟨t, rfl⟩ : ∃ t, i = us.length + t := ⟨i - us.length, by omega⟩
  rw [List.getElem?_append_right (by omega)] at hx hF
  rw [show us.length + t - us.length = t by omega] at hx
  rw [show us.length + t - Fs.length = t by omega] at hF
  have e : (us.length + t) * sh.size = cs.length + t * sh.size := by rw [Nat.add_mul, h1]
  rw [e, List.drop_append, List.drop_eq_nil_of_le (by omega), List.nil_append, Nat.add_sub_cancel_left]
  exact k3 t x F hx hF
theorem RowsOk.ones (h : RowsOk B sh cs us Fs) : cs.all isOne = true := by
 refine rows_ones (n := us.length) (s := sh.size) h.1 fun j hj => ?_
 have hF : j < Fs.length := by rw [h.2.1]; exact hj
 exact At.ones _ (AtF.at _ (h.2.2 j us[j] Fs[j] (List.getElem?_eq_getElem hj) (List.getElem?_eq_getElem hF)))
theorem RowsOk.mem (h : RowsOk B sh cs us Fs) : ∀ q ∈ Fs.flatten, q < B.length := fun q hq => by
 obtain ⟨F, hF, hq⟩ := List.mem_flatten.1 hq
 obtain ⟨i, hi, rfl⟩ := List.getElem_of_mem hF
 have hi' : i < us.length := by rw [← h.2.1]; exact hi
 exact AtF.mem _ (h.2.2 i us[i] Fs[i] (List.getElem?_eq_getElem hi') (List.getElem?_eq_getElem hi)) q hq
theorem RowsOk.frame (h : RowsOk B sh cs us Fs) (hG : ∀ q ∈ Fs.flatten, G[q]? = B[q]?) : RowsOk G sh cs us Fs :=
 ⟨h.1, h.2.1, fun i x F hx hF => AtF.frame _ (fun q hq => hG q (List.mem_flatten.2 ⟨F, List.mem_of_getElem? hF, hq⟩)) (h.2.2 i x F hx hF)⟩
theorem AtF.rows {F : List Nat} (h : AtF B (.slice sh) [v] (.lst us) F) (hn : F.Nodup) : ∃ p cs Fs, v = .slc p us.length ∧ RowsOk B sh cs us Fs ∧ Fs.flatten.Nodup ∧ (∀ q ∈ Fs.flatten, q ∈ F) ∧
  ((p = none ∧ us = []) ∨ ∃ id off cells, p = some (id, off) ∧ B[id]? = some (.mk true sh.size cells) ∧ id ∈ F ∧ id ∉ Fs.flatten ∧
   ∀ (d : LD) (by_ : Nat) (z : List V) (G : List Ob) (lo hi : Nat), G[id]? = B[id]? → lo ≤ hi → hi ≤ us.length →
    newCells ⟨d, sh.size, by_, z⟩ G (.slc (some (id, off + lo * sh.size)) (hi - lo)) = some ((cs.drop (lo * sh.size)).take ((hi - lo) * sh.size), hi - lo)) := by
 obtain ⟨w, us', hw, hus, hlen, h⟩ := AtF_slice.1 h
 cases hw
 cases hus
 rcases h with ⟨rfl, rfl, rfl⟩ | ⟨id, off, cells, Fs, rfl, h2, h3, h4, rfl, h6⟩
 ·exact ⟨none, [], [], rfl, RowsOk.nil, by simp, by simp, .inl ⟨rfl, rfl⟩⟩
 ·obtain ⟨hn1, hn2⟩ := List.nodup_cons.1 hn
  have hcl : ((cells.drop off).take (us.length * sh.size)).length = us.length * sh.size := by simp; omega
  refine ⟨some (id, off), (cells.drop off).take (us.length * sh.size), Fs, rfl, ⟨hcl, h4, fun i x F hx hF => ?_⟩, hn2, fun q hq => List.mem_cons_of_mem _ hq, .inr ⟨id, off, cells, rfl, h2, List.mem_cons_self, hn1, fun d by_ z G lo hi hG hlo hhi => ?_⟩⟩
  ·rw [row_chunk h3 (List.getElem?_eq_some_iff.1 hx).1]
   exact h6 i x F hx hF
  ·have e1 : lo * sh.size + (hi - lo) * sh.size = hi * sh.size := by rw [← Nat.add_mul]; congr 1; omega
   have e2 : hi * sh.size ≤ us.length * sh.size := Nat.mul_le_mul_right _ hhi
   have e3 : (((cells.drop off).take (us.length * sh.size)).drop (lo * sh.size)).take ((hi - lo) * sh.size) = (cells.drop (off + lo * sh.size)).take ((hi - lo) * sh.size) := by
    rw [List.drop_take, List.take_take, List.drop_drop, Nat.min_eq_left (by omega)]
   rw [e3]
   simp only [newCells, slcCells, hG, h2]
   by_cases h0 : (hi - lo) * sh.size = 0
   ·rw [if_pos h0, h0, List.take_zero]
   ·rw [if_neg h0]
    unfold rdCells
    rw [if_pos (by omega)]
end
section
variable {H S X : List Ob} {l : List Nat} {k : Nat} {o : Ob}
theorem hideL_app : hideL l H.length (H ++ S) = H ++ hideL l 0 S := by
 apply List.ext_getElem?
 intro i
 rw [hideL_get]
 by_cases hi : i < H.length
 ·rw [List.getElem?_append_left hi, List.getElem?_append_left hi]
  cases H[i]? with
  | none => rfl
  | some o => rw [Option.map_some, if_neg (fun hc => absurd hc.1 (by omega))]
 ·rw [List.getElem?_append_right (by omega), List.getElem?_append_right (by omega), hideL_get]
  have : (H.length ≤ i ∧ l.contains (i - H.length) = true) ↔ (0 ≤ i - H.length ∧ l.contains (i - H.length - 0) = true) := by simp; omega
  simp only [this]
theorem backL_app : backL l H.length (H ++ S) (H ++ X) = H ++ backL l 0 S X := by
 apply List.ext_getElem?
 intro i
 rw [backL_get]
 by_cases hi : i < H.length
 ·rw [List.getElem?_append_left hi, List.getElem?_append_left hi]
  cases H[i]? with
  | none => rfl
  | some o => rw [Option.map_some, if_neg (fun hc => absurd hc.1 (by omega))]
 ·rw [List.getElem?_append_right (by omega), List.getElem?_append_right (by omega), backL_get]
  have : (H.length ≤ i ∧ l.contains (i - H.length) = true) ↔ (0 ≤ i - H.length ∧ l.contains (i - H.length - 0) = true) := by simp; omega
  simp only [this, List.getD_eq_getElem?_getD]
  rw [List.getElem?_append_right (by omega)]
theorem set_app_at : (H ++ S).set (H.length + k) o = H ++ S.set k o := by
 rw [List.set_append_right _ _ (by omega), Nat.add_sub_cancel_left]
end
end Go.Lite
end
section
namespace Go.Lite
open Go
variable {H T : List Ob}
theorem ASl.shape {α : Type} {sh : Sh} {f : α → U} {v : V} {l : List α} (h : ASl H sh f v l) : ∃ p, v = .slc p l.length := by
 rcases h.sub with ⟨rfl, rfl⟩ | ⟨id, off, own, cells, rfl, _⟩ <;> exact ⟨_, rfl⟩
end Go.Lite
end
section
namespace Go.Lite
open Go
section
variable {B G : List Ob} {sh : Sh} {cs xs : List V} {us : List U} {Fs : List (List Nat)} {v : V} {s n m : Nat}
end
def srcH (H : List Ob) (id : Nat) (v : V) (a m z : Int) : List Ob := H.set id (.mk true 4 [v, .int .i64 a, .int .u64 m, .int .i64 z])
section
variable {H T : List Ob} {id : Nat} {v : V} {a m z a' m' z' : Int}
theorem srcH_at (h : id < H.length) : (srcH H id v a m z)[id]? = some (.mk true 4 [v, .int .i64 a, .int .u64 m, .int .i64 z]) := List.getElem?_set_self h
theorem srcH_ne {q : Nat} (h : q ≠ id) : (srcH H id v a m z)[q]? = H[q]? := List.getElem?_set_ne fun e => h e.symm
theorem srcH_app (h : id < H.length) : srcH H id v a m z ++ T = srcH (H ++ T) id v a m z := by
 unfold srcH; rw [set_app h]
end
def strFirst : Sh → Bool
 | .st (.str :: _) => true
 | _ => false
mutual
def okS : Sh → Bool
 | .slice e => (e.size != 4 || strFirst e) && okS e
 | .st fs => okSs fs
 | _ => true
def okSs : List Sh → Bool
 | [] => true
 | f :: fs => okS f && okSs fs
end
section
variable {H : List Ob} {id : Nat} {v : V} {a m z a' m' z' : Int}
mutual
theorem At.src (hid : id < H.length) (hv : ∃ p n, v = .slc p n) : ∀ (sh : Sh) {cs : List V} {u : U}, okS sh = true → At (srcH H id v a m z) sh cs u → At (srcH H id v a' m' z') sh cs u
 | .int k, _, _, _, h => by simpa only [At] using h
 | .bool, _, _, _, h => by simpa only [At] using h
 | .str, _, _, _, h => by simpa only [At] using h
 | .slice e, _, _, ho, h => by
  simp only [okS, Bool.and_eq_true, Bool.or_eq_true, bne_iff_ne, ne_eq] at ho
  simp only [At] at h ⊢
  obtain ⟨w, l, h1, h2, h3, h4⟩ := h
  refine ⟨w, l, h1, h2, h3, ?_⟩
  rcases h4 with h4 | ⟨i, off, own, cells, h5, h6, h7, h8⟩
  ·exact .inl h4
  ·by_cases hi : i = id
   ·subst hi
    rw [srcH_at hid] at h6
    simp only [Option.some.injEq, Ob.mk.injEq] at h6
    obtain ⟨rfl, h6, rfl⟩ := h6
    have hs := ho.1.resolve_left fun hn => hn h6.symm
    refine .inr ⟨i, off, true, [v, .int .i64 a', .int .u64 m', .int .i64 z'], h5, by rw [srcH_at hid, h6], by simpa using h7, fun j x hx => ?_⟩
    exfalso
    have hj := (List.getElem?_eq_some_iff.1 hx).1
    rw [← h6] at h7 h8
    simp only [List.length_cons, List.length_nil] at h7
    have hl : l.length = 1 := by omega
    have ho0 : off = 0 := by omega
    have hj0 : j = 0 := by omega
    subst ho0 hj0
    have := h8 0 x hx
    obtain ⟨p, n, rfl⟩ := hv
    match e, hs, this with
    | .st (.str :: fs), _, this =>
     obtain ⟨us, _, h9⟩ := At_st.1 this
     obtain ⟨c1, c2, u1, us1, hc, _, h10, _⟩ := Ats_cons.1 h9
     obtain ⟨s, rfl, _⟩ := At_str.1 h10
     simp at hc
   ·refine .inr ⟨i, off, own, cells, h5, by rw [srcH_ne hi] at h6 ⊢; exact h6, h7, fun j x hx => At.src hid hv e ho.2 (h8 j x hx)⟩
 | .st fs, _, _, ho, h => by
  simp only [okS] at ho
  simp only [At] at h ⊢
  obtain ⟨us, h1, h2⟩ := h
  exact ⟨us, h1, Ats.src hid hv fs ho h2⟩
theorem Ats.src (hid : id < H.length) (hv : ∃ p n, v = .slc p n) : ∀ (fs : List Sh) {cs : List V} {us : List U}, okSs fs = true → Ats (srcH H id v a m z) fs cs us → Ats (srcH H id v a' m' z') fs cs us
 | [], _, _, _, h => by simpa only [Ats] using h
 | f :: fs, _, _, ho, h => by
  simp only [okSs, Bool.and_eq_true] at ho
  simp only [Ats] at h ⊢
  obtain ⟨c1, c2, u, us', h1, h2, h3, h4⟩ := h
  exact ⟨c1, c2, u, us', h1, h2, At.src hid hv f ho.1 h3, Ats.src hid hv fs ho.2 h4⟩
end
theorem At.srcApp {T : List Ob} (hid : id < H.length) (hv : ∃ p n, v = .slc p n) {sh : Sh} {cs : List V} {u : U} (ho : okS sh = true) (h : At (srcH H id v a m z) sh cs u) : At (srcH (H ++ T) id v a' m' z') sh cs u := by
 have := At.ext (T := T) (At.src (a' := a') (m' := m') (z' := z') hid hv sh ho h)
 rwa [srcH_app hid] at this
structure SrcOk (H : List Ob) (id : Nat) (v : V) (n : Nat) (a m z : Int) : Prop where
 lt : id < H.length
 bytes : ∃ us : List U, us.length = n ∧ At (srcH H id v a m z) (.slice (.int .u8)) [v] (.lst us)
 at0 : 0 ≤ a
 at1 : a ≤ n
 m0 : 0 ≤ m
 m1 : m < 18446744073709551616
 z0 : 0 ≤ z
 z1 : z ≤ 12
theorem SrcOk.slc {n : Nat} (h : SrcOk H id v n a m z) : ∃ p k, v = .slc p k := by
 obtain ⟨us, _, hb⟩ := h.bytes
 obtain ⟨w, l, e, _, _, hs⟩ := At_slice.1 hb
 cases e
 rcases hs with ⟨rfl, _⟩ | ⟨i, off, own, cells, rfl, _⟩ <;> exact ⟨_, _, rfl⟩
theorem SrcOk.to {n : Nat} (h : SrcOk H id v n a m z) (h0 : 0 ≤ a') (h1 : a' ≤ n) (h2 : 0 ≤ m') (h3 : m' < 18446744073709551616) : SrcOk H id v n a' m' z := by
 obtain ⟨us, hl, hb⟩ := h.bytes
 exact ⟨h.lt, ⟨us, hl, At.src h.lt h.slc _ (by simp [okS, Sh.size]) hb⟩, h0, h1, h2, h3, h.z0, h.z1⟩
theorem SrcOk.app {n : Nat} {T : List Ob} (h : SrcOk H id v n a m z) : SrcOk (H ++ T) id v n a m z := by
 obtain ⟨us, hl, hb⟩ := h.bytes
 exact ⟨by have := h.lt; simp; omega, ⟨us, hl, At.srcApp h.lt h.slc (by simp [okS, Sh.size]) hb⟩, h.at0, h.at1, h.m0, h.m1, h.z0, h.z1⟩
def Drew (H : List Ob) (id : Nat) (v : V) (n : Nat) (z : Int) (H' : List Ob) : Prop := ∃ T a m, H' = srcH (H ++ T) id v a m z ∧ SrcOk (H ++ T) id v n a m z
theorem Drew.up {n : Nat} {H' : List Ob} (hs : SrcOk H id v n a m z) (h : Drew H id v n z H') {sh : Sh} {cs : List V} {u : U} (ho : okS sh = true) (hat : At (srcH H id v a m z) sh cs u) : At H' sh cs u := by
 obtain ⟨T, a', m', rfl, _⟩ := h
 exact At.srcApp hs.lt hs.slc ho hat
theorem Drew.trans {n : Nat} {H1 H2 : List Ob} (h : Drew H id v n z H1) (k : ∀ T a m, H1 = srcH (H ++ T) id v a m z → SrcOk (H ++ T) id v n a m z → Drew (H ++ T) id v n z H2) : Drew H id v n z H2 := by
 obtain ⟨T, a1, m1, e, hs⟩ := h
 obtain ⟨T', a2, m2, rfl, hs'⟩ := k T a1 m1 e hs
 exact ⟨T ++ T', a2, m2, by rw [List.append_assoc], by rw [← List.append_assoc]; exact hs'⟩
theorem Drew.gc {n : Nat} {H' : List Ob} {r : V} (hs : SrcOk H id v n a m z) (h : Drew H id v n z H') : Drew H id v n z (gcH (srcH H id v a m z) H' r) := by
 unfold gcH
 split
 ·exact ⟨[], a, m, by simp, by simpa using hs⟩
 ·exact h
theorem Drew.refl {n : Nat} (hs : SrcOk H id v n a m z) : Drew H id v n z (srcH H id v a m z) := ⟨[], a, m, by simp, by simpa using hs⟩
end
def EnR (b : Nat) (G : List Ob) (w1 w2 : V) (e : PEntry) : Prop := ARdns G w1 e.dn ∧ ((w2 = .slc none 0 ∧ e.attrs = []) ∨ ∃ id cs, b ≤ id ∧ w2 = .slc (some (id, 0)) e.attrs.length ∧ G[id]? = some (.mk true 2 cs) ∧ cs.length = e.attrs.length * 2 ∧ ARdns (G.set id .dead) w1 e.dn ∧ ∀ (i : Nat) x, e.attrs[i]? = some x → At (G.set id .dead) shAttr ((cs.drop (i * 2)).take 2) x.u)
section
variable {b b' : Nat} {G T K : List Ob} {w1 w2 w : V} {e : PEntry} {dn : List PRdn} {l : List PAttr}
theorem EnR.ext (h : EnR b G w1 w2 e) : EnR b (G ++ T) w1 w2 e := by
 obtain ⟨h0, h | ⟨id, cs, hb, h1, h2, h3, h4, h5⟩⟩ := h
 ·exact ⟨h0.ext, .inl h⟩
 ·have hid := (List.getElem?_eq_some_iff.1 h2).1
  exact ⟨h0.ext, .inr ⟨id, cs, hb, h1, up_append _ _ h2, h3, by rw [set_app hid]; exact h4.ext, fun i x hx => by rw [set_app hid]; exact (h5 i x hx).ext⟩⟩
theorem EnR.wide (h : EnR b G w1 w2 e) (hb : b' ≤ b) : EnR b' G w1 w2 e := ⟨h.1, h.2.imp id fun ⟨i, cs, h1, h2⟩ => ⟨i, cs, Nat.le_trans hb h1, h2⟩⟩
theorem EnR.attrs (h : EnR b G w1 w2 e) (hl : e.attrs.length ≤ maxLen) : AAttrs G w2 e.attrs := by
 obtain ⟨_, ⟨rfl, h0⟩ | ⟨id, cs, _, rfl, h2, h3, _, h5⟩⟩ := h
 ·rw [h0]
  exact At_slice.2 ⟨_, _, rfl, rfl, by simp, .inl ⟨rfl, rfl⟩⟩
 ·refine At_slice.2 ⟨_, _, rfl, rfl, by simpa using hl, .inr ⟨id, 0, true, cs, by simp, h2, by simp; omega, fun i x hx => ?_⟩⟩
  rw [List.getElem?_map] at hx
  obtain ⟨y, hy, rfl⟩ := Option.map_eq_some_iff.1 hx
  rw [Nat.zero_add]
  exact (h5 i y hy).undead
theorem EnR.nil (hd : ARdns G w1 dn) : EnR b G w1 (.slc none 0) ⟨dn, []⟩ := ⟨hd, .inl ⟨rfl, rfl⟩⟩
theorem EnR.push {x : PAttr} {c : List V} {d : LD} {z : List V} (h : EnR b G w1 w2 e) (hb : b ≤ G.length) (hc : c.length = 2) (hx : ∀ id, id < G.length → At ((G ++ T).set id .dead) shAttr c x.u) (hx0 : At (G ++ T) shAttr c x.u) (hz : z.length = 2) (hl : e.attrs.length ≤ 1000000) :
  ∃ v' G', appendV ⟨d, 2, 40, z⟩ (G ++ T ++ [.mk true 2 c]) w2 (.slc (some ((G ++ T).length, 0)) 1) = some (v', G') ∧ EnR b G' w1 v' ⟨e.dn, e.attrs ++ [x]⟩ ∧ G.length ≤ G'.length ∧ (∀ q, q < b → G'[q]? = G[q]?) ∧ ∀ q, q < G.length → G'[q]? = G[q]? ∨ ∃ own cells, G[q]? = some (.mk own 2 cells) := by
 have hco := At.ones _ hx0
 have hnew := newCells_tmp (d := d) (by_ := 40) (z := z) (G := G ++ T) (es := 2) (c := c) (by omega)
 rw [hc] at hnew
 obtain ⟨h0, ⟨rfl, hn⟩ | ⟨id, cs, hbi, rfl, h2, h3, h4, h5⟩⟩ := h
 ·refine ⟨_, _, appendV_nil hz (by decide) (by decide) (by decide) hnew (by decide) hco (by decide), ⟨h0.ext.ext.ext, .inr ⟨_, c, ?_, by simp [hn], get_last, by simp [hn, hc], ?_, fun i y hy => ?_⟩⟩, by simp, fun q hq => ?_, fun q hq => .inl ?_⟩
  ·simp; omega
  ·rw [set_last]; exact h0.ext.ext.ext
  ·rw [set_last]
   rw [hn] at hy
   have : i = 0 := by
    have := (List.getElem?_eq_some_iff.1 hy).1
    simp at this; omega
   subst this
   cases hy
   rw [Nat.zero_mul, List.drop_zero, List.take_of_length_le (by omega)]
   exact hx0.ext.ext
  ·rw [List.append_assoc, List.append_assoc, List.getElem?_append_left (by omega)]
  ·rw [List.append_assoc, List.append_assoc, List.getElem?_append_left (by omega)]
 ·have hid := (List.getElem?_eq_some_iff.1 h2).1
  have h2' : (G ++ T ++ [Ob.mk true 2 c])[id]? = some (.mk true 2 cs) := by rw [List.append_assoc]; exact up_append _ _ h2
  have hl2 : ((G ++ T ++ [Ob.mk true 2 c]).set id .dead).length = (G ++ T ++ [Ob.mk true 2 c]).length := List.length_set
  have hset : (G ++ T ++ [Ob.mk true 2 c]).set id .dead = (G ++ T).set id .dead ++ [.mk true 2 c] := set_app (by simp; omega)
  have hG : (G ++ T).set id .dead = G.set id .dead ++ T := set_app hid
  refine ⟨_, _, appendV_row hz (by decide) (by decide) (by decide) h2' h3 hnew (by decide) hco (by unfold maxMade; omega), ⟨?_, .inr ⟨(G ++ T ++ [Ob.mk true 2 c]).length, cs ++ c, ?_, by simp, ?_, by simp [h3, hc, Nat.add_mul], ?_, fun i y hy => ?_⟩⟩, by simp; omega, fun q hq => ?_, fun q hq => ?_⟩
  ·rw [hset, hG]; exact h4.ext.ext.ext
  ·simp; omega
  ·rw [← hl2, get_last]
  ·rw [← hl2, set_last, hset, hG]; exact h4.ext.ext.ext
  ·rw [← hl2, set_last, hset]
   have key := row_snoc (n := e.attrs.length) (s := 2) (cs := cs) (c := c) h3 hc (P := fun i cc => ∀ y, (e.attrs ++ [x])[i]? = some y → At ((G ++ T).set id .dead ++ [Ob.mk true 2 c] ++ [.dead]) shAttr cc y.u) (fun i hi y hy => by
     rw [List.getElem?_append_left hi] at hy
     rw [hG]
     exact (h5 i y hy).ext.ext.ext) (fun y hy => by
     simp at hy
     subst hy
     exact (hx id hid).ext.ext)
   have hi : i < e.attrs.length + 1 := by
    have := (List.getElem?_eq_some_iff.1 hy).1
    simpa using this
   exact key i hi y hy
  ·rw [List.getElem?_append_left (by rw [hl2]; simp; omega), List.getElem?_set_ne (by omega), List.append_assoc, List.getElem?_append_left (by omega)]
  ·by_cases hqi : id = q
   ·subst hqi; exact .inr ⟨_, _, h2⟩
   ·exact .inl (by rw [List.getElem?_append_left (by rw [hl2]; simp; omega), List.getElem?_set_ne hqi, List.append_assoc, List.getElem?_append_left (by omega)])
end
def SrcAt (G : List Ob) (id : Nat) (v : V) : Prop := (∃ a m z, G[id]? = some (.mk true 4 [v, .int .i64 a, .int .u64 m, .int .i64 z])) ∧ ∃ p n, v = .slc p n
def Ev (id : Nat) (G G' : List Ob) : Prop := G.length ≤ G'.length ∧ ∀ q, q ≠ id → q < G.length → G'[q]? = G[q]?
section
variable {id : Nat} {v : V} {G G1 G2 T : List Ob}
theorem Ev.refl : Ev id G G := ⟨Nat.le_refl _, fun _ _ _ => rfl⟩
theorem Ev.trans (h : Ev id G G1) (h' : Ev id G1 G2) : Ev id G G2 := ⟨Nat.le_trans h.1 h'.1, fun q hq hl => by rw [h'.2 q hq (Nat.lt_of_lt_of_le hl h.1), h.2 q hq hl]⟩
theorem Ev.app : Ev id G (G ++ T) := ⟨by simp, fun q _ hl => List.getElem?_append_left hl⟩
theorem Ev.gc {r : V} (h : Ev id G G1) : Ev id G (gcH G G1 r) := by
 unfold gcH
 split
 ·exact .refl
 ·exact h
theorem New.ev {b e : Nat} {sh : Sh} {cs : List V} {u : U} (h : New b e G sh cs u) (hid : id < b) (he : e ≤ G.length) (hE : Ev id G G1) : New b e G1 sh cs u :=
 h.frame fun q h1 h2 => hE.2 q (by omega) (by omega)
theorem At.ev {sh : Sh} {cs : List V} {u : U} (ho : okS sh = true) (hs : SrcAt G id v) (h1 : SrcAt G1 id v) (hE : Ev id G G1) (h : At G sh cs u) : At G1 sh cs u := by
 obtain ⟨⟨a, m, z, e⟩, hv⟩ := hs
 obtain ⟨⟨a', m', z', e'⟩, _⟩ := h1
 have hl := (List.getElem?_eq_some_iff.1 e').1
 have e1 : G1 = srcH G1 id v a' m' z' := by
  apply List.ext_getElem?
  intro q
  by_cases hq : q = id
  ·subst hq; rw [srcH_at hl, e']
  ·rw [srcH_ne hq]
 rw [e1]
 refine At.src (a := a) (m := m) (z := z) hl hv sh ho (At.upL (fun q own es cells hq => ?_) sh h)
 by_cases hqi : q = id
 ·subst hqi; rw [srcH_at hl, ← e]; exact hq
 ·rw [srcH_ne hqi, hE.2 q hqi (List.getElem?_eq_some_iff.1 hq).1]; exact hq
theorem EnR.ev {b : Nat} {w1 w2 : V} {e : PEntry} (hs : SrcAt G id v) (h1 : SrcAt G1 id v) (hE : Ev id G G1) (h : EnR b G w1 w2 e) : EnR b G1 w1 w2 e := by
 obtain ⟨h0, h | ⟨i, cs, hb, q1, q2, q3, q4, q5⟩⟩ := h
 ·exact ⟨At.ev (by decide) hs h1 hE h0, .inl h⟩
 ·have hi := (List.getElem?_eq_some_iff.1 q2).1
  have hne : i ≠ id := by
   rintro rfl
   obtain ⟨⟨a, m, z, e⟩, _⟩ := hs
   rw [q2] at e
   simp at e
  have hk : ∀ {X : List Ob}, SrcAt X id v → SrcAt (X.set i .dead) id v := fun {X} ⟨⟨a, m, z, e⟩, hv⟩ => ⟨⟨a, m, z, by rw [List.getElem?_set_ne hne]; exact e⟩, hv⟩
  have hE' : Ev id (G.set i .dead) (G1.set i .dead) := ⟨by simpa using hE.1, fun q hq hl => by
   rw [List.length_set] at hl
   by_cases hqi : i = q
   ·subst hqi
    rw [List.getElem?_set_self hi, List.getElem?_set_self (Nat.lt_of_lt_of_le hi hE.1)]
   ·rw [List.getElem?_set_ne hqi, List.getElem?_set_ne hqi]
    exact hE.2 q hq hl⟩
  exact ⟨At.ev (by decide) hs h1 hE h0, .inr ⟨i, cs, hb, q1, by rw [hE.2 i hne hi]; exact q2, q3, At.ev (by decide) (hk hs) (hk h1) hE' q4, fun j x hx => At.ev (by decide) (hk hs) (hk h1) hE' (q5 j x hx)⟩⟩
end
end Go.Lite
end
section
namespace Go.Proofs.Try1
open Go Go.Lite
def Aa (e : PEntry) : Prop := e.dn.length ≤ 1048576 ∧ e.attrs.length ≤ 1048576 ∧ ∀ a ∈ e.attrs, a.vals.length ≤ 1048576
section
variable {pre : List PAttr} {a : PAttr} {n : Str} {vs : List Str} {done : Bool}
end
theorem EntryOk.small {e : PEntry} (h : EntryOk e) : Aa e := by
 obtain ⟨_, h1, h2⟩ := h
 refine ⟨by have := h1.2; omega, by have := h2.2; omega, fun a ha => ?_⟩
 obtain ⟨j, hj, rfl⟩ := List.getElem_of_mem ha
 have := (h2.1 j _ (List.getElem?_eq_getElem hj)).2.2.2.2
 omega
theorem EntryOk.rise {e : PEntry} (h : EntryOk e) : e.attrs.Pairwise fun a b => a.name < b.name := dM (fun j x hx => (h.2.2.1 j x hx).2.1)

theorem TreeOk.dns {t : PTree} (h : TreeOk t) : ∀ x ∈ t.entries, EntryOk x := fun x hx => by
 obtain ⟨j, hj, rfl⟩ := List.getElem_of_mem hx
 exact (h.2.1.2 j _ (List.getElem?_eq_getElem hj)).1
def EP (c : PClass) : Prop := c.must.length ≤ 1048576 ∧ c.may.length ≤ 1048576 ∧ c.single.length ≤ 1048576
def EF (t : PTree) : Prop := (t.schema.length ≤ 1048576 ∧ ∀ c ∈ t.schema, EP c) ∧ t.entries.length ≤ 1048576 ∧ ∀ e ∈ t.entries, Aa e
structure PTreeOut where
 tree : PTree
 entries : List PEntry
 code : Int
def PTreeOut.u (o : PTreeOut) : U := .st [o.tree.u, .lst (o.entries.map PEntry.u), .int o.code]
abbrev ja : Sh := .st [shTree, .slice shEntry, .int .i64]
def TOut (H : List Ob) (o : PTreeOut) (q : V) (H' : List Ob) : Prop := ∃ T w1 w2 w3, q = .agg [w1, w2, w3, .int .i64 o.code] ∧ H' = H ++ T ∧ New H.length (H ++ T).length (H ++ T) ja [w1, w2, w3, .int .i64 o.code] o.u
theorem TOut.of {H G : List Ob} {t : PTree} {w1 w2 : V} (hT : ∃ T, G = H ++ T) (hn : New H.length G.length G shTree [w1, w2] t.u) : TOut H ⟨t, [], 0⟩ (.agg [w1, w2, .slc none 0, .int .i64 0]) (gcH H G (.agg [w1, w2, .slc none 0, .int .i64 0])) := by
 obtain ⟨T, rfl⟩ := hT
 have h2 : New H.length (H ++ T).length (H ++ T) ja [w1, w2, .slc none 0, .int .i64 0] (PTreeOut.u ⟨t, [], 0⟩) := New.st (News.cons (c1 := [w1, w2]) (m := (H ++ T).length) hn (News.nilS (News.int (by decide) News.nil)) (by simp) (Nat.le_refl _))
 obtain ⟨T', h3, h4⟩ := h2.gcA
 exact ⟨T', w1, w2, .slc none 0, rfl, h3, h4⟩
def iH (dn base : List PRdn) : Prop := base.length ≤ dn.length ∧ keyD (dn.drop (dn.length - base.length)) = keyD base
theorem lZ {H : List Ob} {v : V} {l : List PRdn} (h : ARdns H v l) {k : Nat} (hk : k ≤ l.length) (h0 : 0 < l.length) :
  ∃ id off own cells, v = .slc (some (id, off)) l.length ∧ H[id]? = some (.mk own 2 cells) ∧ ARdns H (.slc (some (id, off + k * 2)) (l.length - k)) (l.drop k) := by
 have hb := h.bound
 rcases h.sl with ⟨rfl, h1⟩ | ⟨id, off, own, cells, rfl, h2, h3, h4⟩
 ·have : l = [] := by simpa using h1
  subst this
  simp at h0
 ·rw [List.length_map] at h3 ⊢
  refine ⟨id, off, own, cells, rfl, h2, ?_⟩
  have hsz : shRdn.size = 2 := rfl
  rw [hsz] at h2 h3 h4
  refine At_slice.2 ⟨_, _, rfl, rfl, by simp; omega, .inr ⟨id, off + k * 2, own, cells, by simp, h2, ?_, fun i x hx => ?_⟩⟩
  ·rw [hsz, List.length_map, List.length_drop]; omega
  ·have := h4 (k + i) x (by rw [List.getElem?_map] at hx ⊢; rw [List.getElem?_drop] at hx; exact hx)
   rw [hsz, show off + k * 2 + i * 2 = off + (k + i) * 2 by omega]
   exact this
theorem DnOk.drop {l : List PRdn} (hd : DnOk l) (k : Nat) : DnOk (l.drop k) :=
 ⟨fun j x hx => hd.1 (k + j) x (by rw [List.getElem?_drop] at hx; exact hx), by have := hd.2; simp; omega⟩
theorem Bi {H : List Ob} {v w : V} {dn base : List PRdn} (h : ARdns H v dn) (hb : ARdns H w base) (h1 : DnOk dn) (h2 : DnOk base) (hl : 0 < dn.length) :
  callW C 223 [v, w] H = some (.bool (dec (iH dn base)), H) := by
 apply Ret.dec
 rw [JK]
 have e1 : ¬ (400 : Int) < dn.length := by have := h1.2; omega
 have e2 : ¬ (400 : Int) < base.length := by have := h2.2; omega
 have c1 := Bd h
 have c2 := Bd hb
 rw [dec_pos h1] at c1
 rw [dec_pos h2] at c2
 by_cases g : base.length ≤ dn.length
 rotate_left
 ·have g' : (dn.length : Int) < base.length := by omega
  simp [nK, Tryz.f223, h.len, hb.len, e1, e2, c1, c2, g']
  exact fun h => g h.1
 have g' : ¬ (dn.length : Int) < base.length := by omega
 have hw : IntKind.i64.wrap ((dn.length : Int) - base.length) = ((dn.length - base.length : Nat) : Int) := by
  have := h1.2
  rw [wrap_i64 (by omega) (by omega)]; omega
 obtain ⟨id, off, own, cells, hv, hcell, hd⟩ := lZ h (k := dn.length - base.length) (by omega) hl
 have hst : strideIs H id 2 = true := by simp [strideIs, hcell]
 have c3 := l9 hd (DnOk.drop h1 _)
 have c4 := l9 hb h2
 have hle : dn.length - base.length ≤ dn.length := by omega
 rw [hv] at h c1 ⊢
 simp [nK, Tryz.f223, h.len, hb.len, e1, e2, c1, c2, g', hw, hst, c3, c4, hle]
 by_cases gk : keyD (dn.drop (dn.length - base.length)) = keyD base
 ·exact .inr ⟨gk, g, gk⟩
 ·exact .inl ⟨gk, fun h => gk h.2⟩
end Go.Proofs.Try1
end
section
namespace Go.Proofs.Try1
open Go Go.Lite
attribute [-simp] WP_region WP_cond
attribute [local simp] WP_regionF WP_condF ThenW_some ThenW_none CondW_true CondW_false
attribute [local simp low] CondW_bool
theorem JU {n a b : Int} {H : List Ob} : callW C 91 [.int .i64 n, .int .i64 a, .int .i64 b] H = some (.bool (dec (a ≤ n ∧ n ≤ b)), H) := by
 apply Ret.dec
 rw [Qq]
 by_cases h1 : a ≤ n
 ·by_cases h2 : n ≤ b
  ·simp [nC, Tryz.f91, h1, h2]
  ·simp [nC, Tryz.f91, h1, h2]
 ·simp [nC, Tryz.f91, h1]
theorem En {n : PNode} {H : List Ob} : callW C 283 [.agg n.cs] H = some (.bool (dec (NodeOk n)), H) := by
 apply Ret.dec
 rw [Hz]
 have c1 := JU (n := n.many) (a := 1) (b := 20) (H := H)
 have c2 := gp (t := n.attr) (H := H)
 have c3 := iO (t := n.value) (H := H)
 unfold NodeOk PNode.Inner
 by_cases o1 : n.op = 1
 ·by_cases g1 : n.attr = []
  ·by_cases g2 : n.value = []
   ·by_cases g3 : 1 ≤ n.many ∧ n.many ≤ 20
    ·rw [dec_pos g3] at c1
     simp [aj, Tryz.f283, o1, g1, g2, c1, g3]
    ·rw [dec_neg g3] at c1
     simp [aj, Tryz.f283, o1, g1, g2, c1]
     omega
   ·have e2 : List.isEmpty n.value = false := by simpa using g2
    simp [aj, Tryz.f283, o1, g1, g2, e2]
  ·have e1 : List.isEmpty n.attr = false := by simpa using g1
   simp [aj, Tryz.f283, o1, g1, e1]
 by_cases o2 : n.op = 2
 ·by_cases g1 : n.attr = []
  ·by_cases g2 : n.value = []
   ·by_cases g3 : 1 ≤ n.many ∧ n.many ≤ 20
    ·rw [dec_pos g3] at c1
     simp [aj, Tryz.f283, o2, g1, g2, c1, g3]
    ·rw [dec_neg g3] at c1
     simp [aj, Tryz.f283, o2, g1, g2, c1]
     omega
   ·have e2 : List.isEmpty n.value = false := by simpa using g2
    simp [aj, Tryz.f283, o2, g1, g2, e2]
  ·have e1 : List.isEmpty n.attr = false := by simpa using g1
   simp [aj, Tryz.f283, o2, g1, e1]
 by_cases o3 : n.op = 3
 ·by_cases g1 : n.attr = []
  ·by_cases g2 : n.value = []
   ·by_cases g3 : n.many = 1
    ·simp [aj, Tryz.f283, o3, g1, g2, g3]
    ·simp [aj, Tryz.f283, o3, g1, g2, g3]
   ·have e2 : List.isEmpty n.value = false := by simpa using g2
    simp [aj, Tryz.f283, o3, g1, g2, e2]
  ·have e1 : List.isEmpty n.attr = false := by simpa using g1
   simp [aj, Tryz.f283, o3, g1, e1]
 by_cases o5 : n.op = 5
 ·by_cases g1 : NameOk n.attr
  ·rw [dec_pos g1] at c2
   by_cases g2 : n.value = []
   ·by_cases g3 : n.many = 0
    ·simp [aj, Tryz.f283, o5, g1, g2, g3, c2]
    ·simp [aj, Tryz.f283, o5, g1, g2, g3, c2]
   ·have e2 : List.isEmpty n.value = false := by simpa using g2
    simp [aj, Tryz.f283, o5, g1, g2, c2, e2]
  ·rw [dec_neg g1] at c2
   simp [aj, Tryz.f283, o5, g1, c2]
 by_cases o4 : n.op = 4 ∨ n.op = 6 ∨ n.op = 7 ∨ n.op = 8
 ·by_cases g1 : NameOk n.attr
  ·rw [dec_pos g1] at c2
   by_cases g2 : ValueOk n.value
   ·rw [dec_pos g2] at c3
    by_cases g3 : n.many = 0
    ·rcases o4 with o4 | o4 | o4 | o4 <;> simp [aj, Tryz.f283, o4, g1, g2, g3, c2, c3]
    ·rcases o4 with o4 | o4 | o4 | o4 <;> simp [aj, Tryz.f283, o4, g1, g2, g3, c2, c3]
   ·rw [dec_neg g2] at c3
    rcases o4 with o4 | o4 | o4 | o4 <;> simp [aj, Tryz.f283, o4, g1, g2, c2, c3]
  ·rw [dec_neg g1] at c2
   rcases o4 with o4 | o4 | o4 | o4 <;> simp [aj, Tryz.f283, o4, g1, c2]
 ·obtain ⟨o6, o7, o8, o9⟩ : ¬ n.op = 4 ∧ ¬ n.op = 6 ∧ ¬ n.op = 7 ∧ ¬ n.op = 8 := ⟨fun h => o4 (.inl h), fun h => o4 (.inr (.inl h)), fun h => o4 (.inr (.inr (.inl h))), fun h => o4 (.inr (.inr (.inr h)))⟩
  simp [aj, Tryz.f283, o1, o2, o3, o5, o6, o7, o8, o9]
noncomputable def aH : Option (Nat × Nat) → Int
 | some q => q.1
 | none => -1
theorem D9 {v : V} {f : List PNode} {H : List Ob} (h : ANodes H v f) (hl : f.length ≤ 20) : ∀ d i : Nat, d ≤ 5 → i ≤ f.length →
  callW C 218 [v, .int .i64 i, .int .i64 (6 - d : Nat)] H = some (.int .i64 (aH (fdep f d i)), H)
 | 0, i, hd, hi => by
  suffices hs : Ret C 218 [v, .int .i64 i, .int .i64 (6 - 0 : Nat)] H fun q H' => q = .int .i64 (aH (fdep f 0 i)) ∧ H' = H by
   obtain ⟨q, H', hc, rfl, rfl⟩ := hs
   exact hc
  rw [D6]
  by_cases g : i < f.length
  ·have g' : ¬ (f.length : Int) ≤ i := by omega
   simp [gz, Tryz.f218, h.len, g', aH, fdep]
  ·have g' : (f.length : Int) ≤ i := by omega
   simp [gz, Tryz.f218, h.len, g', aH, fdep]
 | d + 1, i, hd, hi => by
  suffices hs : Ret C 218 [v, .int .i64 i, .int .i64 (6 - (d + 1) : Nat)] H fun q H' => q = .int .i64 (aH (fdep f (d + 1) i)) ∧ H' = H by
   obtain ⟨q, H', hc, rfl, rfl⟩ := hs
   exact hc
  rw [D6]
  have hdp : ¬ (5 : Int) < (6 - (d + 1) : Nat) := by omega
  have hdw : IntKind.i64.wrap (((6 - (d + 1) : Nat) : Int) + 1) = ((6 - d : Nat) : Int) := by rw [wrap_i64 (by omega) (by omega)]; omega
  generalize hdd : ((6 - (d + 1) : Nat) : Int) = dd at hdp hdw
  rcases Nat.lt_or_ge i f.length with g | g
  rotate_left
  ·have g' : (f.length : Int) ≤ i := by omega
   simp [gz, Tryz.f218, h.len, g', aH, fdep, List.getElem?_eq_none g, hdd]
  have g' : ¬ (f.length : Int) ≤ i := by omega
  obtain ⟨x, hx⟩ : ∃ c, f[i]? = some c := ⟨f[i], by simp [g]⟩
  obtain ⟨id, o, e1, l0, l1, _, _, _, w4⟩ := nodes_idx h hx
  have l0' := l0 []
  have l1' := l1 []
  simp only [List.append_nil] at l0' l1'
  have c1 := En (n := x) (H := H)
  by_cases g1 : NodeOk x
  rotate_left
  ·rw [dec_neg g1] at c1
   simp [gz, Tryz.f218, h.len, g', hdp, e1, l1', c1, aH, fdep, hx, dec_neg g1, hdd]
  have hm := g1.many_le
  rw [dec_pos g1] at c1
  have hw : IntKind.i64.wrap ((i : Int) + 1) = ((i : Int) + 1) := wrap_i64 (by omega) (by omega)
  have l0'' : ∀ T : LT, T.one → ∀ r c, loadAt T ⟨r, c, H⟩ (.hp id (o + 3)) = some (.int .i64 x.many) := fun T hT r c => (l0' T hT r c).2.2.2
  have hgoal : aH (fdep f (d + 1) i) = aH (frep (fdep f d) x.many.toNat (i + 1, 0)) := by
   show aH (match f[i]? with
    | none => none
    | some n => if dec (NodeOk n) = true then (frep (fdep f d) n.many.toNat (i + 1, 0)).map fun p => (p.1, p.2 + 1) else none) = _
   rw [hx]
   simp only [dec_pos g1, if_true]
   cases frep (fdep f d) x.many.toNat (i + 1, 0) <;> rfl
  rw [hgoal]
  simp [gz, Tryz.f218, h.len, g', hdp, e1, l1', l0'', c1, hw, hdd]
  refine WP_loop (fun k σ => ∃ (m : Nat) (p : Option (Nat × Nat)) (a : Int) (r : Nat → R), σ = ⟨r, 0, H⟩ ∧ r 0 = .val v ∧ r 1 = .val (.int .i64 a) ∧ r 2 = .val (.int .i64 dd) ∧ r 7 = .val (.int .i64 m) ∧ m ≤ 20 ∧ k = (if p.isSome then m else 0) ∧ a = aH p ∧ (∀ q, p = some q → q.1 ≤ f.length) ∧ (p.bind fun q => frep (fdep f d) m q) = frep (fdep f d) x.many.toNat (i + 1, 0)) ?_ x.many.toNat _ ⟨x.many.toNat, some (i + 1, 0), i + 1, _, rfl, by simp, by simp, by simp, by simp; omega, by omega, by simp, by simp [aH], fun q e => by cases e; exact g, rfl⟩
  rintro k σ ⟨m, p, a, r, rfl, r0, r1, r2, r7, hm20, hk, ha, hq, hp⟩
  cases p with
  | none =>
   simp only [Option.isSome_none, Bool.false_eq_true, if_false] at hk
   subst hk
   simp only [Option.bind_none] at hp
   subst ha
   by_cases hm0 : 0 < m
   ·simp [r0, r1, r2, r7, hm0, aH, ← hp]
   ·simp [r0, r1, r2, r7, hm0, aH, ← hp]
  | some q =>
   simp only [Option.isSome_some, if_true] at hk
   subst hk
   simp only [Option.bind_some] at hp
   have hql := hq q rfl
   subst ha
   cases k with
   | zero =>
    have : q = q := rfl
    simp only [frep] at hp
    simp [r0, r1, r2, r7, aH, ← hp]
   | succ k =>
    have c2 := D9 h hl d q.1 (by omega) hql
    have hw2 : IntKind.i64.wrap (((k + 1 : Nat) : Int) - 1) = (k : Int) := by rw [wrap_i64 (by omega) (by omega)]; omega
    have hw3 : IntKind.i64.wrap ((k : Int) + 1 - 1) = (k : Int) := by rw [wrap_i64 (by omega) (by omega)]; omega
    have h0 : (0 : Int) < (k : Int) + 1 := by omega
    have h1 : (0 : Int) ≤ (q.1 : Int) := by omega
    cases hsub : fdep f d q.1 with
    | none =>
     rw [hsub] at c2
     simp only [frep, hsub] at hp
     simp [r0, r1, r2, r7, h0, h1, aH, c2, hw2, hw3, hdw]
     exact ⟨0, by omega, k, by rw [wrap_i64 (by omega) (by omega)], by omega, none, by simp, rfl, by simp, by simpa using hp⟩
    | some q2 =>
     rw [hsub] at c2
     simp only [frep, hsub] at hp
     have hq2 := fdep_some _ _ _ hsub
     simp [r0, r1, r2, r7, h0, h1, aH, c2, hw2, hw3, hdw]
     exact ⟨k, by omega, k, by rw [wrap_i64 (by omega) (by omega)], by omega, some (q2.1, max q.2 q2.2), by simp, rfl, fun a b e => by cases e; exact hq2.2.1, by simpa using hp⟩
theorem gV {v : V} {f : List PNode} {H : List Ob} (h : ANodes H v f) : callW C 130 [v] H = some (.bool (dec (FilterOk f)), H) := by
 apply Ret.dec
 rw [Jw]
 by_cases g : f.length ≤ 20
 rotate_left
 ·have g' : ¬ (f.length : Int) ≤ 20 := by omega
  simp [iE, Tryz.f130, h.len, g']
  exact fun h => g h.1
 have g' : (f.length : Int) ≤ 20 := by omega
 have c1 := D9 h g 5 0 (by omega) (by omega)
 simp only [Int.natCast_zero, show ((6 - 5 : Nat) : Int) = 1 from rfl] at c1
 cases hf : fdep f 5 0 with
 | none =>
  rw [hf] at c1
  have e : ¬ (-1 : Int) = (f.length : Int) := by omega
  simp [iE, Tryz.f130, h.len, g', c1, aH, e]
  rintro ⟨_, x, hx⟩
  rw [hf] at hx
  cases hx
 | some q =>
  rw [hf] at c1
  by_cases e : q.1 = f.length
  ·have e' : (q.1 : Int) = f.length := by omega
   simp [iE, Tryz.f130, h.len, g', c1, aH, e']
   exact ⟨g, q.2, by rw [hf, ← e]⟩
  ·have e' : ¬ (q.1 : Int) = f.length := by omega
   simp [iE, Tryz.f130, h.len, g', c1, aH, e']
   rintro ⟨_, x, hx⟩
   rw [hf] at hx
   cases hx
   exact e rfl
noncomputable def ag (i : Nat) : Option (Nat × Nat) → V
 | some q => .tup [.int .i64 ((q.1 - i : Nat) : Int), .int .i64 (q.2 : Int)]
 | none => .tup [.int .i64 0, .int .i64 0]
theorem zl {v : V} {f : List PNode} {H : List Ob} (d i : Nat) (hi : i < f.length) (hl : f.length ≤ 100) (hdb : d ≤ 100) {x : PNode} (hx : f[i]? = some x) (h : ANodes H v (f.drop i)) (hn : x.Inner) (hok : NodeOk x)
  (ih : ∀ (w : V) (j : Nat) (G : List Ob), i < j → j ≤ f.length → ANodes G w (f.drop j) → callW C 231 [w] G = some (ag j (fdep f d j), G)) :
  callW C 231 [v] H = some (ag i (fdep f (d + 1) i), H) := by
 suffices hs : Ret C 231 [v] H fun q H' => q = ag i (fdep f (d + 1) i) ∧ H' = H by
  obtain ⟨q, H', hc, rfl, rfl⟩ := hs
  exact hc
 rw [mJ]
 obtain ⟨fs, hfs⟩ : ∃ fs, fs = f.drop i := ⟨_, rfl⟩
 have hfl : fs.length = f.length - i := by rw [hfs]; simp
 have hn0 : ¬ fs = [] := by intro h; rw [h] at hfl; simp at hfl; omega
 have hn0' : ¬ (fs.length : Int) = 0 := by omega
 have hx0 : fs[0]? = some x := by rw [hfs, List.getElem?_drop]; exact hx
 rw [← hfs] at h
 obtain ⟨id, o, e1, l0, l1, _, _, _, w4⟩ := nodes_idx h hx0
 have e1' := fun (e s b : Nat) (z : List V) (ty : Nat → LT) => e1 e s b z ty .i64
 have l1' := l1 []
 simp only [List.append_nil, Int.natCast_zero] at l1' e1'
 have hm : x.attr = [] ∧ x.value = [] ∧ 1 ≤ x.many ∧ x.many ≤ 20 ∧ (x.op = 3 → x.many = 1) := by
  rcases hok with ⟨_, a⟩ | ⟨a, _⟩ | ⟨a, _⟩
  ·exact a
  ·unfold PNode.Inner at hn; omega
  ·unfold PNode.Inner at hn; omega
 obtain ⟨m1, m2, m3, m4, m5⟩ := hm
 have m3' : ¬ x.many < 1 := by omega
 have m4' : ¬ 20 < x.many := by omega
 have hgoal : ag i (fdep f (d + 1) i) = ag i ((frep (fdep f d) x.many.toNat (i + 1, 0)).map fun p => (p.1, p.2 + 1)) := by
  show ag i (match f[i]? with
   | none => none
   | some n => if dec (NodeOk n) = true then (frep (fdep f d) n.many.toNat (i + 1, 0)).map fun p => (p.1, p.2 + 1) else none) = _
  rw [hx]
  simp only [dec_pos hok, if_true]
 rw [hgoal]
 have hmn : x.many = (x.many.toNat : Int) := by omega
 have hmb : x.many.toNat ≤ 20 := by omega
 obtain ⟨mm, hmm⟩ : ∃ mm, mm = x.many.toNat := ⟨_, rfl⟩
 rw [← hmm] at hmn hmb ⊢
 rcases hn with ho | ho | ho
 ·simp [ae, Tryz.f231, fillL, zerosL, buildV, structPlace, h.len, hn0, hn0', e1', l1', ho, m1, m2, m3', m4']
  refine WP_loop (fun k σ => ∃ (p : Nat × Nat) (r : Nat → R), σ = ⟨r, 1, H⟩ ∧ r 0 = .val v ∧ r 5 = .val (.int .i64 ((p.1 - i : Nat) : Int)) ∧ r 6 = .val (.int .i64 (p.2 : Int)) ∧ r 50 = .val (.int .i64 (mm : Int)) ∧ k ≤ mm ∧ r 51 = .val (.int .i64 ((mm - k : Nat) : Int)) ∧ i < p.1 ∧ p.1 ≤ f.length ∧ p.2 ≤ d ∧ frep (fdep f d) k p = frep (fdep f d) mm (i + 1, 0)) ?_ mm _ ⟨(i + 1, 0), _, rfl, by simp, by simp, by simp, by simp [hmn], Nat.le_refl _, by simp, by simp, by simp; omega, by simp, rfl⟩
  rintro k σ ⟨p, r, rfl, r0, r5, r6, r50, hkm, r51, hip, hpl, hpd, hp⟩
  cases k with
  | zero =>
   have e1 : ¬ ((mm - 0 : Nat) : Int) < mm := by omega
   simp only [frep] at hp
   have hw : IntKind.i64.wrap ((p.2 : Int) + 1) = ((p.2 + 1 : Nat) : Int) := by rw [wrap_i64 (by omega) (by omega)]; omega
   simp [r0, r5, r6, r50, r51, ← hp, ag, hw]
  | succ k =>
   have e1 : ((mm - (k + 1) : Nat) : Int) < mm := by omega
   have hw1 : IntKind.i64.wrap (((mm - (k + 1) : Nat) : Int) + 1) = ((mm - k : Nat) : Int) := by rw [wrap_i64 (by omega) (by omega)]; omega
   obtain ⟨ids, off, own, cells, hv, hcell, hd⟩ := h.drop (k := p.1 - i) (by omega) (by omega)
   have hdj : fs.drop (p.1 - i) = f.drop p.1 := by rw [hfs, List.drop_drop]; congr 1; omega
   rw [hdj] at hd
   have hst : strideIs H ids 4 = true := by simp [strideIs, hcell]
   have hsz : shNode.size = 4 := rfl
   rw [hsz] at hd
   have c2 := ih _ p.1 H hip hpl hd
   have hle : p.1 - i ≤ fs.length := by omega
   cases hsub : fdep f d p.1 with
   | none =>
    rw [hsub] at c2
    simp only [frep, hsub] at hp
    simp only [ag] at c2
    simp [r0, r5, r6, r50, r51, e1, hv, hst, hle, c2, ← hp, ag]
   | some q =>
    rw [hsub] at c2
    simp only [frep, hsub] at hp
    simp only [ag] at c2
    have hq := fdep_some _ _ _ hsub
    have e2 : ¬ ((q.1 - p.1 : Nat) : Int) = 0 := by omega
    have e2' : ¬ (q.1 - p.1 : Nat) = 0 := by omega
    have hw2 : IntKind.i64.wrap (((p.1 - i : Nat) : Int) + ((q.1 - p.1 : Nat) : Int)) = ((q.1 - i : Nat) : Int) := by rw [wrap_i64 (by omega) (by omega)]; omega
    have hmx : maxV [.int .i64 (p.2 : Int), .int .i64 (q.2 : Int)] = some (.int .i64 ((max p.2 q.2 : Nat) : Int)) := by
     simp [maxV]
     omega
    simp [r0, r5, r6, r50, r51, e1, hv, hst, hle, c2, e2, e2', hw1, hw2, hmx]
    exact ⟨k, by omega, q.1, rfl, max p.2 q.2, rfl, by omega, rfl, by omega, by omega, by omega, hp⟩
 ·simp [ae, Tryz.f231, fillL, zerosL, buildV, structPlace, h.len, hn0, hn0', e1', l1', ho, m1, m2, m3', m4']
  refine WP_loop (fun k σ => ∃ (p : Nat × Nat) (r : Nat → R), σ = ⟨r, 1, H⟩ ∧ r 0 = .val v ∧ r 5 = .val (.int .i64 ((p.1 - i : Nat) : Int)) ∧ r 6 = .val (.int .i64 (p.2 : Int)) ∧ r 50 = .val (.int .i64 (mm : Int)) ∧ k ≤ mm ∧ r 51 = .val (.int .i64 ((mm - k : Nat) : Int)) ∧ i < p.1 ∧ p.1 ≤ f.length ∧ p.2 ≤ d ∧ frep (fdep f d) k p = frep (fdep f d) mm (i + 1, 0)) ?_ mm _ ⟨(i + 1, 0), _, rfl, by simp, by simp, by simp, by simp [hmn], Nat.le_refl _, by simp, by simp, by simp; omega, by simp, rfl⟩
  rintro k σ ⟨p, r, rfl, r0, r5, r6, r50, hkm, r51, hip, hpl, hpd, hp⟩
  cases k with
  | zero =>
   have e1 : ¬ ((mm - 0 : Nat) : Int) < mm := by omega
   simp only [frep] at hp
   have hw : IntKind.i64.wrap ((p.2 : Int) + 1) = ((p.2 + 1 : Nat) : Int) := by rw [wrap_i64 (by omega) (by omega)]; omega
   simp [r0, r5, r6, r50, r51, ← hp, ag, hw]
  | succ k =>
   have e1 : ((mm - (k + 1) : Nat) : Int) < mm := by omega
   have hw1 : IntKind.i64.wrap (((mm - (k + 1) : Nat) : Int) + 1) = ((mm - k : Nat) : Int) := by rw [wrap_i64 (by omega) (by omega)]; omega
   obtain ⟨ids, off, own, cells, hv, hcell, hd⟩ := h.drop (k := p.1 - i) (by omega) (by omega)
   have hdj : fs.drop (p.1 - i) = f.drop p.1 := by rw [hfs, List.drop_drop]; congr 1; omega
   rw [hdj] at hd
   have hst : strideIs H ids 4 = true := by simp [strideIs, hcell]
   have hsz : shNode.size = 4 := rfl
   rw [hsz] at hd
   have c2 := ih _ p.1 H hip hpl hd
   have hle : p.1 - i ≤ fs.length := by omega
   cases hsub : fdep f d p.1 with
   | none =>
    rw [hsub] at c2
    simp only [frep, hsub] at hp
    simp only [ag] at c2
    simp [r0, r5, r6, r50, r51, e1, hv, hst, hle, c2, ← hp, ag]
   | some q =>
    rw [hsub] at c2
    simp only [frep, hsub] at hp
    simp only [ag] at c2
    have hq := fdep_some _ _ _ hsub
    have e2 : ¬ ((q.1 - p.1 : Nat) : Int) = 0 := by omega
    have e2' : ¬ (q.1 - p.1 : Nat) = 0 := by omega
    have hw2 : IntKind.i64.wrap (((p.1 - i : Nat) : Int) + ((q.1 - p.1 : Nat) : Int)) = ((q.1 - i : Nat) : Int) := by rw [wrap_i64 (by omega) (by omega)]; omega
    have hmx : maxV [.int .i64 (p.2 : Int), .int .i64 (q.2 : Int)] = some (.int .i64 ((max p.2 q.2 : Nat) : Int)) := by
     simp [maxV]
     omega
    simp [r0, r5, r6, r50, r51, e1, hv, hst, hle, c2, e2, e2', hw1, hw2, hmx]
    exact ⟨k, by omega, q.1, rfl, max p.2 q.2, rfl, by omega, rfl, by omega, by omega, by omega, hp⟩
 ·have m5' := m5 ho
  simp [ae, Tryz.f231, fillL, zerosL, buildV, structPlace, h.len, hn0, hn0', e1', l1', ho, m1, m2, m5']
  refine WP_loop (fun k σ => ∃ (p : Nat × Nat) (r : Nat → R), σ = ⟨r, 1, H⟩ ∧ r 0 = .val v ∧ r 5 = .val (.int .i64 ((p.1 - i : Nat) : Int)) ∧ r 6 = .val (.int .i64 (p.2 : Int)) ∧ r 50 = .val (.int .i64 (mm : Int)) ∧ k ≤ mm ∧ r 51 = .val (.int .i64 ((mm - k : Nat) : Int)) ∧ i < p.1 ∧ p.1 ≤ f.length ∧ p.2 ≤ d ∧ frep (fdep f d) k p = frep (fdep f d) mm (i + 1, 0)) ?_ mm _ ⟨(i + 1, 0), _, rfl, by simp, by simp, by simp, by simp; omega, Nat.le_refl _, by simp, by simp, by simp; omega, by simp, rfl⟩
  rintro k σ ⟨p, r, rfl, r0, r5, r6, r50, hkm, r51, hip, hpl, hpd, hp⟩
  cases k with
  | zero =>
   have e1 : ¬ ((mm - 0 : Nat) : Int) < mm := by omega
   simp only [frep] at hp
   have hw : IntKind.i64.wrap ((p.2 : Int) + 1) = ((p.2 + 1 : Nat) : Int) := by rw [wrap_i64 (by omega) (by omega)]; omega
   simp [r0, r5, r6, r50, r51, ← hp, ag, hw]
  | succ k =>
   have e1 : ((mm - (k + 1) : Nat) : Int) < mm := by omega
   have hw1 : IntKind.i64.wrap (((mm - (k + 1) : Nat) : Int) + 1) = ((mm - k : Nat) : Int) := by rw [wrap_i64 (by omega) (by omega)]; omega
   obtain ⟨ids, off, own, cells, hv, hcell, hd⟩ := h.drop (k := p.1 - i) (by omega) (by omega)
   have hdj : fs.drop (p.1 - i) = f.drop p.1 := by rw [hfs, List.drop_drop]; congr 1; omega
   rw [hdj] at hd
   have hst : strideIs H ids 4 = true := by simp [strideIs, hcell]
   have hsz : shNode.size = 4 := rfl
   rw [hsz] at hd
   have c2 := ih _ p.1 H hip hpl hd
   have hle : p.1 - i ≤ fs.length := by omega
   cases hsub : fdep f d p.1 with
   | none =>
    rw [hsub] at c2
    simp only [frep, hsub] at hp
    simp only [ag] at c2
    simp [r0, r5, r6, r50, r51, e1, hv, hst, hle, c2, ← hp, ag]
   | some q =>
    rw [hsub] at c2
    simp only [frep, hsub] at hp
    simp only [ag] at c2
    have hq := fdep_some _ _ _ hsub
    have e2 : ¬ ((q.1 - p.1 : Nat) : Int) = 0 := by omega
    have e2' : ¬ (q.1 - p.1 : Nat) = 0 := by omega
    have hw2 : IntKind.i64.wrap (((p.1 - i : Nat) : Int) + ((q.1 - p.1 : Nat) : Int)) = ((q.1 - i : Nat) : Int) := by rw [wrap_i64 (by omega) (by omega)]; omega
    have hmx : maxV [.int .i64 (p.2 : Int), .int .i64 (q.2 : Int)] = some (.int .i64 ((max p.2 q.2 : Nat) : Int)) := by
     simp [maxV]
     omega
    simp [r0, r5, r6, r50, r51, e1, hv, hst, hle, c2, e2, e2', hw1, hw2, hmx]
    exact ⟨k, by omega, q.1, rfl, max p.2 q.2, rfl, by omega, rfl, by omega, by omega, by omega, hp⟩
theorem Bl {f : List PNode} {i : Nat} {x : PNode} (hx : f[i]? = some x) (d : Nat) (h : ¬ x.Inner) : fdep f (d + 1) i = if dec (NodeOk x) = true then some (i + 1, 1) else none := by
 show (match f[i]? with
   | none => none
   | some n => if dec (NodeOk n) = true then (frep (fdep f d) n.many.toNat (i + 1, 0)).map fun (p : Nat × Nat) => (p.1, p.2 + 1) else none) = _
 rw [hx]
 by_cases hok : NodeOk x
 ·have hm : x.many = 0 := by
   rcases hok with ⟨a, _⟩ | ⟨_, _, _, a⟩ | ⟨_, _, _, a⟩
   ·exact absurd a h
   ·exact a
   ·exact a
  simp only [dec_pos hok, if_true, hm]
  rfl
 ·simp only [dec_neg hok, Bool.false_eq_true, if_false]
theorem yY {f : List PNode} {i : Nat} {x : PNode} (hx : f[i]? = some x) (d : Nat) (h : ¬ NodeOk x) : fdep f (d + 1) i = none := by
 show (match f[i]? with
   | none => none
   | some n => if dec (NodeOk n) = true then (frep (fdep f d) n.many.toNat (i + 1, 0)).map fun (p : Nat × Nat) => (p.1, p.2 + 1) else none) = _
 rw [hx]
 simp only [dec_neg h, Bool.false_eq_true, if_false]
theorem qG {v : V} {f : List PNode} {H : List Ob} (d i : Nat) (hi : i < f.length) {x : PNode} (hx : f[i]? = some x) (h : ANodes H v (f.drop i)) (hn : x.op = 4 ∨ x.op = 5 ∨ x.op = 6 ∨ x.op = 7 ∨ x.op = 8) :
  callW C 231 [v] H = some (ag i (fdep f (d + 1) i), H) := by
 suffices hs : Ret C 231 [v] H fun q H' => q = ag i (fdep f (d + 1) i) ∧ H' = H by
  obtain ⟨q, H', hc, rfl, rfl⟩ := hs
  exact hc
 rw [mJ]
 obtain ⟨fs, hfs⟩ : ∃ fs, fs = f.drop i := ⟨_, rfl⟩
 have hfl : fs.length = f.length - i := by rw [hfs]; simp
 have hn0 : ¬ fs = [] := by intro h; rw [h] at hfl; simp at hfl; omega
 have hn0' : ¬ (fs.length : Int) = 0 := by omega
 have hx0 : fs[0]? = some x := by rw [hfs, List.getElem?_drop]; exact hx
 rw [← hfs] at h
 obtain ⟨id, o, e1, l0, l1, _, _, _, w4⟩ := nodes_idx h hx0
 have e1' := fun (e s b : Nat) (z : List V) (ty : Nat → LT) => e1 e s b z ty .i64
 have l1' := l1 []
 simp only [List.append_nil, Int.natCast_zero] at l1' e1'
 have hni : ¬ x.Inner := by unfold PNode.Inner; omega
 rw [Bl hx d hni]
 have c2 := ig (t := x.attr) (H := H)
 have c3 := iF (t := x.value) (H := H)
 have hok : NodeOk x ↔ x.many = 0 ∧ NameOk x.attr ∧ (x.op = 5 ∧ x.value = [] ∨ x.op ≠ 5 ∧ ValueOk x.value) := by
  unfold NodeOk
  constructor
  ·rintro (⟨a, _⟩ | ⟨a, b, c, d⟩ | ⟨a, b, c, d⟩)
   ·exact absurd a hni
   ·exact ⟨d, b, .inl ⟨a, c⟩⟩
   ·exact ⟨d, b, .inr ⟨by omega, c⟩⟩
  ·rintro ⟨a, b, ⟨c, d⟩ | ⟨c, d⟩⟩
   ·exact .inr (.inl ⟨c, b, d, a⟩)
   ·exact .inr (.inr ⟨by omega, b, d, a⟩)
 have hvn : ∀ (b : Bool), (b = true ↔ NodeOk x) → dec (NodeOk x) = b := by
  intro b hb
  cases b
  ·exact dec_neg (fun h => by have := hb.2 h; simp at this)
  ·exact dec_pos (hb.1 rfl)
 by_cases hv : x.op = 5 ∧ x.value = [] ∨ x.op ≠ 5 ∧ ValueOk x.value
 rotate_left
 ·rw [dec_neg (fun h => hv (hok.1 h).2.2)]
  by_cases o5 : x.op = 5
  ·have g2 : ¬ x.value = [] := fun h => hv (.inl ⟨o5, h⟩)
   have e2 : List.isEmpty x.value = false := by simpa using g2
   simp [ae, Tryz.f231, fillL, zerosL, buildV, structPlace, h.len, hn0, hn0', e1', l1', o5, g2, e2, ag]
  ·have g2 : ¬ ValueOk x.value := fun h => hv (.inr ⟨o5, h⟩)
   rw [dec_neg g2] at c3
   rcases hn with o4 | o4 | o4 | o4 | o4
   ·simp [ae, Tryz.f231, fillL, zerosL, buildV, structPlace, h.len, hn0, hn0', e1', l1', o4, c3, ag]
   ·exact absurd o4 o5
   ·simp [ae, Tryz.f231, fillL, zerosL, buildV, structPlace, h.len, hn0, hn0', e1', l1', o4, c3, ag]
   ·simp [ae, Tryz.f231, fillL, zerosL, buildV, structPlace, h.len, hn0, hn0', e1', l1', o4, c3, ag]
   ·simp [ae, Tryz.f231, fillL, zerosL, buildV, structPlace, h.len, hn0, hn0', e1', l1', o4, c3, ag]
 by_cases hm : x.many = 0
 rotate_left
 ·rw [dec_neg (fun h => hm (hok.1 h).1)]
  rcases hv with ⟨o5, hv⟩ | ⟨o5, hv⟩
  ·simp [ae, Tryz.f231, fillL, zerosL, buildV, structPlace, h.len, hn0, hn0', e1', l1', o5, hv, hm, ag]
  ·rw [dec_pos hv] at c3
   rcases hn with o4 | o4 | o4 | o4 | o4
   ·simp [ae, Tryz.f231, fillL, zerosL, buildV, structPlace, h.len, hn0, hn0', e1', l1', o4, c3, hm, ag]
   ·exact absurd o4 o5
   ·simp [ae, Tryz.f231, fillL, zerosL, buildV, structPlace, h.len, hn0, hn0', e1', l1', o4, c3, hm, ag]
   ·simp [ae, Tryz.f231, fillL, zerosL, buildV, structPlace, h.len, hn0, hn0', e1', l1', o4, c3, hm, ag]
   ·simp [ae, Tryz.f231, fillL, zerosL, buildV, structPlace, h.len, hn0, hn0', e1', l1', o4, c3, hm, ag]
 by_cases g1 : NameOk x.attr
 ·rw [dec_pos g1] at c2
  rw [dec_pos (hok.2 ⟨hm, g1, hv⟩)]
  rcases hv with ⟨o5, hv⟩ | ⟨o5, hv⟩
  ·simp [ae, Tryz.f231, fillL, zerosL, buildV, structPlace, h.len, hn0, hn0', e1', l1', o5, hv, hm, c2, ag]
  ·rw [dec_pos hv] at c3
   rcases hn with o4 | o4 | o4 | o4 | o4
   ·simp [ae, Tryz.f231, fillL, zerosL, buildV, structPlace, h.len, hn0, hn0', e1', l1', o4, c3, hm, c2, ag]
   ·exact absurd o4 o5
   ·simp [ae, Tryz.f231, fillL, zerosL, buildV, structPlace, h.len, hn0, hn0', e1', l1', o4, c3, hm, c2, ag]
   ·simp [ae, Tryz.f231, fillL, zerosL, buildV, structPlace, h.len, hn0, hn0', e1', l1', o4, c3, hm, c2, ag]
   ·simp [ae, Tryz.f231, fillL, zerosL, buildV, structPlace, h.len, hn0, hn0', e1', l1', o4, c3, hm, c2, ag]
 ·rw [dec_neg g1] at c2
  rw [dec_neg (fun h => g1 (hok.1 h).2.1)]
  rcases hv with ⟨o5, hv⟩ | ⟨o5, hv⟩
  ·simp [ae, Tryz.f231, fillL, zerosL, buildV, structPlace, h.len, hn0, hn0', e1', l1', o5, hv, hm, c2, ag]
  ·rw [dec_pos hv] at c3
   rcases hn with o4 | o4 | o4 | o4 | o4
   ·simp [ae, Tryz.f231, fillL, zerosL, buildV, structPlace, h.len, hn0, hn0', e1', l1', o4, c3, hm, c2, ag]
   ·exact absurd o4 o5
   ·simp [ae, Tryz.f231, fillL, zerosL, buildV, structPlace, h.len, hn0, hn0', e1', l1', o4, c3, hm, c2, ag]
   ·simp [ae, Tryz.f231, fillL, zerosL, buildV, structPlace, h.len, hn0, hn0', e1', l1', o4, c3, hm, c2, ag]
   ·simp [ae, Tryz.f231, fillL, zerosL, buildV, structPlace, h.len, hn0, hn0', e1', l1', o4, c3, hm, c2, ag]
theorem wG {v : V} {f : List PNode} {H : List Ob} (d i : Nat) (hi : i < f.length) {x : PNode} (hx : f[i]? = some x) (h : ANodes H v (f.drop i)) (hn : x.Inner) (hb : ¬ NodeOk x) :
  callW C 231 [v] H = some (ag i (fdep f (d + 1) i), H) := by
 suffices hs : Ret C 231 [v] H fun q H' => q = ag i (fdep f (d + 1) i) ∧ H' = H by
  obtain ⟨q, H', hc, rfl, rfl⟩ := hs
  exact hc
 rw [mJ]
 obtain ⟨fs, hfs⟩ : ∃ fs, fs = f.drop i := ⟨_, rfl⟩
 have hfl : fs.length = f.length - i := by rw [hfs]; simp
 have hn0 : ¬ fs = [] := by intro h; rw [h] at hfl; simp at hfl; omega
 have hn0' : ¬ (fs.length : Int) = 0 := by omega
 have hx0 : fs[0]? = some x := by rw [hfs, List.getElem?_drop]; exact hx
 rw [← hfs] at h
 obtain ⟨id, o, e1, l0, l1, _, _, _, w4⟩ := nodes_idx h hx0
 have e1' := fun (e s b : Nat) (z : List V) (ty : Nat → LT) => e1 e s b z ty .i64
 have l1' := l1 []
 simp only [List.append_nil, Int.natCast_zero] at l1' e1'
 rw [yY hx d hb]
 by_cases g1 : x.attr = []
 rotate_left
 ·have e1 : List.isEmpty x.attr = false := by simpa using g1
  rcases hn with ho | ho | ho <;> simp [ae, Tryz.f231, fillL, zerosL, buildV, structPlace, h.len, hn0, hn0', e1', l1', ho, g1, e1, ag]
 by_cases g2 : x.value = []
 rotate_left
 ·have e2 : List.isEmpty x.value = false := by simpa using g2
  rcases hn with ho | ho | ho <;> simp [ae, Tryz.f231, fillL, zerosL, buildV, structPlace, h.len, hn0, hn0', e1', l1', ho, g1, g2, e2, ag]
 by_cases g3 : x.many < 1
 ·rcases hn with ho | ho | ho <;> simp [ae, Tryz.f231, fillL, zerosL, buildV, structPlace, h.len, hn0, hn0', e1', l1', ho, g1, g2, g3, ag]
 by_cases g4 : 20 < x.many
 ·by_cases g5 : x.many = 1
  ·omega
  ·rcases hn with ho | ho | ho <;> simp [ae, Tryz.f231, fillL, zerosL, buildV, structPlace, h.len, hn0, hn0', e1', l1', ho, g1, g2, g3, g4, g5, ag]
 by_cases o3 : x.op = 3
 ·by_cases g5 : x.many = 1
  ·exact absurd (.inl ⟨hn, g1, g2, by omega, by omega, fun _ => g5⟩) hb
  ·simp [ae, Tryz.f231, fillL, zerosL, buildV, structPlace, h.len, hn0, hn0', e1', l1', o3, g1, g2, g3, g4, g5, ag]
 ·exact absurd (.inl ⟨hn, g1, g2, by omega, by omega, fun h => absurd h o3⟩) hb
theorem wE {v : V} {f : List PNode} {H : List Ob} (d i : Nat) (hi : i < f.length) {x : PNode} (hx : f[i]? = some x) (h : ANodes H v (f.drop i)) (hn : ¬ x.Inner) (ho : ¬ (x.op = 4 ∨ x.op = 5 ∨ x.op = 6 ∨ x.op = 7 ∨ x.op = 8)) (hb : ¬ NodeOk x) :
  callW C 231 [v] H = some (ag i (fdep f (d + 1) i), H) := by
 suffices hs : Ret C 231 [v] H fun q H' => q = ag i (fdep f (d + 1) i) ∧ H' = H by
  obtain ⟨q, H', hc, rfl, rfl⟩ := hs
  exact hc
 rw [mJ]
 obtain ⟨fs, hfs⟩ : ∃ fs, fs = f.drop i := ⟨_, rfl⟩
 have hfl : fs.length = f.length - i := by rw [hfs]; simp
 have hn0 : ¬ fs = [] := by intro h; rw [h] at hfl; simp at hfl; omega
 have hn0' : ¬ (fs.length : Int) = 0 := by omega
 have hx0 : fs[0]? = some x := by rw [hfs, List.getElem?_drop]; exact hx
 rw [← hfs] at h
 obtain ⟨id, o, e1, l0, l1, _, _, _, w4⟩ := nodes_idx h hx0
 have e1' := fun (e s b : Nat) (z : List V) (ty : Nat → LT) => e1 e s b z ty .i64
 have l1' := l1 []
 simp only [List.append_nil, Int.natCast_zero] at l1' e1'
 rw [yY hx d hb]
 unfold PNode.Inner at hn
 obtain ⟨o1, o2, o3⟩ : ¬ x.op = 1 ∧ ¬ x.op = 2 ∧ ¬ x.op = 3 := ⟨fun h => hn (.inl h), fun h => hn (.inr (.inl h)), fun h => hn (.inr (.inr h))⟩
 obtain ⟨o4, o5, o6, o7, o8⟩ : ¬ x.op = 4 ∧ ¬ x.op = 5 ∧ ¬ x.op = 6 ∧ ¬ x.op = 7 ∧ ¬ x.op = 8 := by omega
 simp [ae, Tryz.f231, fillL, zerosL, buildV, structPlace, h.len, hn0, hn0', e1', l1', o1, o2, o3, o4, o5, o6, o7, o8, ag]
theorem wo {f : List PNode} (hl : f.length ≤ 100) : ∀ (d : Nat) (v : V) (i : Nat) (H : List Ob), d ≤ 100 → i ≤ f.length → f.length - i ≤ d → ANodes H v (f.drop i) →
  callW C 231 [v] H = some (ag i (fdep f d i), H) := by
 intro d
 induction d with
 | zero =>
  intro v i H hd hi hfi h
  suffices hs : Ret C 231 [v] H fun q H' => q = ag i (fdep f 0 i) ∧ H' = H by
   obtain ⟨q, H', hc, rfl, rfl⟩ := hs
   exact hc
  rw [mJ]
  have he : f.drop i = [] := by simp; omega
  rw [he] at h
  have hlen := h.len (e := 226) (s := 1) (b := 24) (z := [.slc none 0])
  simp [ae, Tryz.f231, h.len, ag, fdep]
 | succ d ih =>
  intro v i H hd hi hfi h
  rcases Nat.lt_or_ge i f.length with g | g
  rotate_left
  ·suffices hs : Ret C 231 [v] H fun q H' => q = ag i (fdep f (d + 1) i) ∧ H' = H by
    obtain ⟨q, H', hc, rfl, rfl⟩ := hs
    exact hc
   rw [mJ]
   have he : f.drop i = [] := by simp; omega
   rw [he] at h
   simp [ae, Tryz.f231, h.len, ag, fdep, List.getElem?_eq_none g]
  obtain ⟨x, hx⟩ : ∃ c, f[i]? = some c := ⟨f[i], by simp [g]⟩
  by_cases hn : x.Inner
  ·by_cases hok : NodeOk x
   ·exact zl d i g hl (by omega) hx h hn hok fun w j G h1 h2 h3 => ih w j G (by omega) h2 (by omega) h3
   ·exact wG d i g hx h hn hok
  ·by_cases hop : x.op = 4 ∨ x.op = 5 ∨ x.op = 6 ∨ x.op = 7 ∨ x.op = 8
   ·exact qG d i g hx h hop
   ·have hok : ¬ NodeOk x := by
     rintro (⟨a, _⟩ | ⟨a, _⟩ | ⟨a, _⟩)
     ·exact hn a
     ·omega
     ·omega
    exact wE d i g hx h hn hop hok
theorem lT {v : V} {f : List PNode} {H : List Ob} (h : ANodes H v f) : callW C 144 [v] H = some (.bool (dec (FilterOk f)), H) := by
 apply Ret.dec
 rw [GZ]
 by_cases g : f.length ≤ 20
 rotate_left
 ·have g' : (20 : Int) < f.length := by omega
  simp [gy, Tryz.f144, h.len, g']
  exact fun h => g h.1
 have g' : ¬ (20 : Int) < f.length := by omega
 have c1 := wo (f := f) (by omega) 20 v 0 H (by omega) (by omega) (by omega) h
 rw [filter_ok]
 cases hf : fdep f 20 0 with
 | none =>
  rw [hf] at c1
  simp only [ag] at c1
  simp [gy, Tryz.f144, h.len, g', c1]
 | some q =>
  rw [hf] at c1
  simp only [ag, Nat.sub_zero] at c1
  have hq := fdep_some _ _ _ hf
  have h0 : 0 < q.1 := by omega
  by_cases e : q.1 = f.length
  ·have h1 : 0 < f.length := by omega
   by_cases e5 : q.2 ≤ 5
   ·have e5' : (q.2 : Int) ≤ 5 := by omega
    simp [gy, Tryz.f144, h.len, g', c1, e, h1, e5']
    exact ⟨g, q.2, by rw [← e], e5⟩
   ·have e5' : ¬ (q.2 : Int) ≤ 5 := by omega
    simp [gy, Tryz.f144, h.len, g', c1, e, h1, e5']
    intro _ x hx
    rw [hx] at e5
    exact Nat.lt_of_not_le e5
  ·have e' : ¬ (q.1 : Int) = f.length := by omega
   simp [gy, Tryz.f144, h.len, g', c1, e, e', h0]
   intro _ x hx
   rw [hx] at e
   exact absurd rfl e
def iD (t s : Str) : Prop := s.length ≤ t.length ∧ t.take s.length = s
def fC (op : Int) (x v : Str) : Prop := (op = 4 ∧ x = v) ∨ op = 5 ∨ (op = 6 ∧ iD x v) ∨ (op = 7 ∧ Op.bytesLess x v = false) ∨ (op = 8 ∧ (Op.bytesLess x v = true ∨ x = v))
def jc (n : PNode) (az : List PAttr) : Prop := ∃ x ∈ valsOf az n.attr, fC n.op (norm x) (norm n.value)
theorem xJ {t s : Str} {H : List Ob} : callW C 320 [.str t, .str s] H = some (.bool (dec (iD t s)), H) := by
 apply Ret.dec
 rw [IR]
 unfold iD
 by_cases g : s.length ≤ t.length
 ·simp [nM, Tryz.f320, g]
  exact (Classical.em _).symm
 ·simp [nM, Tryz.f320, g]
theorem xX {t s : Str} {H : List Ob} : callW C 351 [.str t, .str s] H = some (.bool (dec (iD t s)), H) := by
 apply Ret.dec
 rw [Ia]
 unfold iD
 by_cases g : s.length ≤ t.length
 ·simp [nN, Tryz.f351, g]
  exact (Classical.em _).symm
 ·simp [nN, Tryz.f351, g]
theorem pq {t s : Str} {H : List Ob} : callW C 328 [.str t, .str s] H = some (.bool (dec (iD t s)), H) := by
 apply Ret.dec
 rw [FX]
 have c1 := xX (t := t) (s := s) (H := H)
 by_cases g : iD t s
 ·rw [dec_pos g] at c1
  simp [oO, Tryz.f328, c1, g]
 ·rw [dec_neg g] at c1
  simp [oO, Tryz.f328, c1, g]
theorem uJ {n : PNode} {H : List Ob} : callW C 220 [.agg n.cs] H = some (.bool (dec n.Inner), H) := by
 apply Ret.dec
 rw [Gf]
 unfold PNode.Inner
 by_cases o1 : n.op = 1
 ·simp [iV, Tryz.f220, o1]
 by_cases o2 : n.op = 2
 ·simp [iV, Tryz.f220, o2]
 by_cases o3 : n.op = 3
 ·simp [iV, Tryz.f220, o3]
 ·simp [iV, Tryz.f220, o1, o2, o3]
def fV (b : Bool) : Int := if b then 1 else 0
theorem BI {b : Bool} {H : List Ob} : callW C 286 [.bool b] H = some (.int .i64 (fV b), H) := by
 suffices hs : Ret C 286 [.bool b] H fun q H' => q = .int .i64 (fV b) ∧ H' = H by
  obtain ⟨q, H', hc, rfl, rfl⟩ := hs
  exact hc
 rw [Fg]
 cases b <;> simp [uf, Tryz.f286, fV]
theorem BF {b : Bool} {H : List Ob} : callW C 326 [.bool b] H = some (.int .i64 (fV b), H) := by
 suffices hs : Ret C 326 [.bool b] H fun q H' => q = .int .i64 (fV b) ∧ H' = H by
  obtain ⟨q, H', hc, rfl, rfl⟩ := hs
  exact hc
 rw [FB]
 cases b <;> simp [sD, Tryz.f326, fV]
def dE (n : Int) : Int := if n = 0 then 1 else if n = 1 then 0 else 2
theorem Eg {n : Int} {H : List Ob} : callW C 288 [.int .i64 n] H = some (.int .i64 (dE n), H) := by
 suffices hs : Ret C 288 [.int .i64 n] H fun q H' => q = .int .i64 (dE n) ∧ H' = H by
  obtain ⟨q, H', hc, rfl, rfl⟩ := hs
  exact hc
 rw [FP]
 unfold dE
 by_cases h0 : n = 0
 ·simp [jF, Tryz.f288, h0]
 by_cases h1 : n = 1
 ·simp [jF, Tryz.f288, h1]
 ·simp [jF, Tryz.f288, h0, h1]
theorem Hr {n : Int} {H : List Ob} : callW C 300 [.int .i64 n] H = some (.int .i64 (dE n), H) := by
 suffices hs : Ret C 300 [.int .i64 n] H fun q H' => q = .int .i64 (dE n) ∧ H' = H by
  obtain ⟨q, H', hc, rfl, rfl⟩ := hs
  exact hc
 rw [Kq]
 unfold dE
 by_cases h0 : n = 0
 ·simp [kF, Tryz.f300, h0]
 by_cases h1 : n = 1
 ·simp [kF, Tryz.f300, h1]
 ·simp [kF, Tryz.f300, h0, h1]
theorem Et {n : PNode} {v v' : V} {az : List PAttr} {H : List Ob} (h : AAttrs H v az) (ho : cellsOf v' = some [v']) (ho' : isOne v' = true) (hn : n.op = 4 ∨ n.op = 5 ∨ n.op = 6 ∨ n.op = 7 ∨ n.op = 8) :
  callW C 287 [.agg n.cs, .agg [v', v]] H = some (.bool (dec (jc n az)), H) := by
 apply Ret.dec
 rw [Gl]
 have h1 := h.one
 obtain ⟨w, c1, hw⟩ := BR (t := n.attr) h ho ho'
 have c2 := cZ (t := n.value) (H := H)
 obtain ⟨l, hl⟩ : ∃ l, l = valsOf az n.attr := ⟨_, rfl⟩
 unfold jc
 rw [← hl] at hw ⊢
 have hb : l.length ≤ 9223372036854775807 := hw.bound
 have hw1 := hw.one
 simp [uw, Tryz.f287, c1, c2, h1, ho, ho', hw1]
 refine WP_loop (fun k σ => ∃ (i : Nat) (r : Nat → R), i + k = l.length ∧ σ = ⟨r, 2, H⟩ ∧ r 2 = .box 0 n.cs ∧ r 5 = .val w ∧ r 6 = .val (.str (norm n.value)) ∧ r 7 = .val (.int .i64 i) ∧ ∀ j x, j < i → l[j]? = some x → ¬ fC n.op (norm x) (norm n.value)) ?_ l.length _ ⟨0, _, by simp, rfl, by simp, by simp, by simp, by simp, by simp⟩
 rintro k σ ⟨i, r, hik, rfl, r2, r5, r6, r7, hall⟩
 cases k with
 | zero =>
  have hi : i = l.length := by omega
  subst hi
  have hx := at_all (P := fun j (x : Str) => ¬ fC n.op (norm x) (norm n.value)) hall
  have hno : ∀ x ∈ l, ¬ fC n.op (norm x) (norm n.value) := by
   intro x hm
   obtain ⟨j, hj, e⟩ := List.getElem_of_mem hm
   exact hx j x (by rw [List.getElem?_eq_getElem hj, e])
  simp [r2, r5, r6, r7, hw.len]
  exact hno
 | succ k =>
  have hi : i < l.length := by omega
  obtain ⟨x, hx⟩ : ∃ c, l[i]? = some c := ⟨l[i], by simp [hi]⟩
  have hmem : x ∈ l := List.mem_of_getElem? hx
  have hwr : IntKind.i64.wrap ((i : Int) + 1) = ((i : Int) + 1) := wrap_i64 (by omega) (by omega)
  obtain ⟨id, o, e1, l0, _⟩ := strs_idx hw hx
  have c3 := cZ (t := x) (H := H)
  have c4 := xJ (t := norm x) (s := norm n.value) (H := H)
  by_cases g : fC n.op (norm x) (norm n.value)
  ·have g' := g
   have hex : ∃ x ∈ l, fC n.op (norm x) (norm n.value) := ⟨x, hmem, g⟩
   rcases g with ⟨o4, g⟩ | o4 | ⟨o4, g⟩ | ⟨o4, g⟩ | ⟨o4, g⟩
   ·simp [r2, r5, r6, r7, hi, hw.len, e1, l0, c3, o4, g]
    rw [o4] at hex
    exact hex
   ·simp [r2, r5, r6, r7, hi, hw.len, e1, l0, c3, o4]
    rw [o4] at hex
    exact hex
   ·rw [dec_pos g] at c4
    simp [r2, r5, r6, r7, hi, hw.len, e1, l0, c3, o4, c4]
    rw [o4] at hex
    exact hex
   ·simp [r2, r5, r6, r7, hi, hw.len, e1, l0, c3, o4, g]
    rw [o4] at hex
    exact hex
   ·have hg : (Op.bytesLess (norm x) (norm n.value) || decide (norm x = norm n.value)) = true := by simpa using g
    simp [r2, r5, r6, r7, hi, hw.len, e1, l0, c3, o4, hg]
    rw [o4] at hex
    exact hex
  ·have hst := at_step (P := fun j (x : Str) => ¬ fC n.op (norm x) (norm n.value)) hall hx g
   unfold fC at g
   rcases hn with o4 | o4 | o4 | o4 | o4
   ·have g' : ¬ norm x = norm n.value := fun h => g (.inl ⟨o4, h⟩)
    simp [r2, r5, r6, r7, hi, hw.len, e1, l0, c3, o4, g', hwr]
    exact ⟨k, by omega, i + 1, by omega, by omega, by rw [← o4]; exact hst⟩
   ·exact absurd (.inr (.inl o4)) g
   ·have g' : ¬ iD (norm x) (norm n.value) := fun h => g (.inr (.inr (.inl ⟨o4, h⟩)))
    rw [dec_neg g'] at c4
    simp [r2, r5, r6, r7, hi, hw.len, e1, l0, c3, o4, c4, hwr]
    exact ⟨k, by omega, i + 1, by omega, by omega, by rw [← o4]; exact hst⟩
   ·have g' : Op.bytesLess (norm x) (norm n.value) = true := by
     cases hb : Op.bytesLess (norm x) (norm n.value) with
     | true => rfl
     | false => exact absurd (.inr (.inr (.inr (.inl ⟨o4, hb⟩)))) g
    simp [r2, r5, r6, r7, hi, hw.len, e1, l0, c3, o4, g', hwr]
    exact ⟨k, by omega, i + 1, by omega, by omega, by rw [← o4]; exact hst⟩
   ·have g1 : ¬ norm x = norm n.value := fun h => g (.inr (.inr (.inr (.inr ⟨o4, .inr h⟩))))
    have g2 : Op.bytesLess (norm x) (norm n.value) = false := by
     cases hb : Op.bytesLess (norm x) (norm n.value) with
     | false => rfl
     | true => exact absurd (.inr (.inr (.inr (.inr ⟨o4, .inl hb⟩)))) g
    simp [r2, r5, r6, r7, hi, hw.len, e1, l0, c3, o4, g1, g2, hwr]
    exact ⟨k, by omega, i + 1, by omega, by omega, by rw [← o4]; exact hst⟩
theorem wW {H : List Ob} {ide eo : Nat} {vd va : V} {l : List PAttr} {t : Str} (he : At2 H ide eo vd va) (h : AAttrs H va l) (hl : l.length ≤ 1000) (hp : l.Pairwise fun a b => a.name < b.name) :
  ∃ w, (∀ T, callW C 311 [.ptr (some (ide, eo)), .str t] (H ++ T) = some (w, H ++ T)) ∧ AStrs H w (valsOf l t) := by
 cases hf : firstOf PAttr.name l t with
 | none =>
  have hv : valsOf l t = [] := by unfold valsOf; rw [hf]
  refine ⟨.slc none 0, fun T => ?_, by rw [hv]; exact At_slice.2 ⟨_, _, rfl, rfl, by simp, .inl ⟨rfl, rfl⟩⟩⟩
  have heT : At2 (H ++ T) ide eo vd va := he.ext
  obtain ⟨i, ok, c1, h1, h2⟩ := oH (t := t) heT h.ext hl hp
  cases ok with
  | true =>
   obtain ⟨a, ha, hat⟩ := h1 rfl
   rw [kR hp ha hat] at hf
   cases hf
  | false =>
   suffices hs : Ret C 311 [.ptr (some (ide, eo)), .str t] (H ++ T) fun q H' => q = .slc none 0 ∧ H' = H ++ T by
    obtain ⟨q, H', hc, rfl, rfl⟩ := hs
    exact hc
   rw [xY]
   simp [iR, Tryz.f311, c1]
 | some a0 =>
  have hv : valsOf l t = a0.vals := by unfold valsOf; rw [hf]
  obtain ⟨i0, hi0, hfst⟩ : ∃ i, l[i]? = some a0 ∧ a0.name = t := by
   unfold firstOf at hf
   obtain ⟨h1, i, h2, h3, h4⟩ := List.find?_eq_some_iff_getElem.1 hf
   exact ⟨i, by rw [List.getElem?_eq_getElem h2, h3], by simpa using h1⟩
  obtain ⟨id, o, own2, cells, e1, e2, e3, e4⟩ := ASl.idx h hi0 (by decide)
  obtain ⟨w, e4, e5, e6⟩ := attr_at.1 e4
  have hsz : shAttr.size = 2 := rfl
  rw [hsz] at e1 e2 e3 e4
  refine ⟨w, fun T => ?_, by rw [hv]; exact e6⟩
  have heT : At2 (H ++ T) ide eo vd va := he.ext
  obtain ⟨i, ok, c1, h1, h2⟩ := oH (t := t) heT h.ext hl hp
  cases ok with
  | false => exact absurd hfst (h2 rfl a0 (List.mem_of_getElem? hi0))
  | true =>
   obtain ⟨a, ha, hat⟩ := h1 rfl
   have hii : i = i0 := by
    obtain ⟨g1, g2⟩ := List.getElem?_eq_some_iff.1 ha
    obtain ⟨g3, g4⟩ := List.getElem?_eq_some_iff.1 hi0
    rcases Nat.lt_trichotomy i i0 with g | g | g
    ·have := List.pairwise_iff_getElem.1 hp i i0 g1 g3 g
     rw [g2, g4, hat, hfst] at this
     exact absurd this (by simp)
    ·exact g
    ·have := List.pairwise_iff_getElem.1 hp i0 i g3 g1 g
     rw [g2, g4, hat, hfst] at this
     exact absurd this (by simp)
   subst hii
   have ld := heT.ld1
   have l1 := load1 (o := o + 1) (v := w) (up_append (T := T) _ _ e2) (by simpa using cells_get e4 (j := 1) rfl)
   suffices hs : Ret C 311 [.ptr (some (ide, eo)), .str t] (H ++ T) fun q H' => q = w ∧ H' = H ++ T by
    obtain ⟨q, H', hc, rfl, rfl⟩ := hs
    exact hc
   rw [xY]
   simp [iR, Tryz.f311, c1, ld, e1, l1]
theorem BK {n : PNode} {x v : Str} {H : List Ob} {idn idv : Nat} {o1 o2 : Bool} {es1 es2 : Nat} (hn : H[idn]? = some (.mk o1 es1 n.cs)) (hv : H[idv]? = some (.mk o2 es2 [.str v])) (ho : n.op = 4 ∨ n.op = 5 ∨ n.op = 6 ∨ n.op = 7 ∨ n.op = 8) :
  callW C 327 [.str x, .ptr (some (idn, 0)), .ptr (some (idv, 0))] H = some (.bool (dec (fC n.op (norm x) v)), H) := by
 apply Ret.dec
 rw [Ic]
 have c1 := bu (t := x) (H := H)
 have c2 := pq (t := norm x) (s := v) (H := H)
 have l0 := load1 (o := 0) (v := .int .i64 n.op) hn rfl
 have l1 := load1 (o := 0) (v := .str v) hv rfl
 unfold fC
 rcases ho with o4 | o4 | o4 | o4 | o4
 ·rw [o4] at l0
  simp [eQ, Tryz.f327, c1, l0, l1, o4]
  exact (Classical.em _).symm
 ·rw [o4] at l0
  simp [eQ, Tryz.f327, c1, l0, l1, o4]
 ·rw [o4] at l0
  by_cases g : iD (norm x) v
  ·rw [dec_pos g] at c2
   simp [eQ, Tryz.f327, c1, c2, l0, l1, o4, g]
  ·rw [dec_neg g] at c2
   simp [eQ, Tryz.f327, c1, c2, l0, l1, o4, g]
 ·rw [o4] at l0
  simp [eQ, Tryz.f327, c1, l0, l1, o4]
 ·rw [o4] at l0
  simp [eQ, Tryz.f327, c1, l0, l1, o4]
  by_cases h : norm x = v <;> cases Op.bytesLess (norm x) v <;> simp [h]
noncomputable def fH (n : PNode) (az : List PAttr) (known : List Str) : Int := if dec (n.attr ∈ known) = true then fV (dec (jc n az)) else 2
theorem qP {n : PNode} {H : List Ob} {ide eo : Nat} {vd va vk : V} {az : List PAttr} {known : List Str} (he : At2 H ide eo vd va) (h : AAttrs H va az) (hl : az.length ≤ 1000) (hp : az.Pairwise fun a b => a.name < b.name) (hk : AStrs H vk known)
  (ho : n.op = 4 ∨ n.op = 5 ∨ n.op = 6 ∨ n.op = 7 ∨ n.op = 8) :
  callW C 299 [.agg n.cs, .ptr (some (ide, eo)), vk] H = some (.int .i64 (fH n az known), H) := by
 suffices hs : Ret C 299 [.agg n.cs, .ptr (some (ide, eo)), vk] H fun q H' => q = .int .i64 (fH n az known) ∧ H' = H by
  obtain ⟨q, H', hc, rfl, rfl⟩ := hs
  exact hc
 rw [H5]
 have hk1 : AStrs (H ++ [.mk true 4 n.cs]) vk known := hk.ext
 have c1 := aY (t := n.attr) hk1
 have lat : (H ++ [Ob.mk true 4 n.cs])[H.length]? = some (.mk true 4 n.cs) := by simp
 have l1 := load1 (o := 1) (v := .str n.attr) lat rfl
 unfold fH
 by_cases g : n.attr ∈ known
 rotate_left
 ·rw [dec_neg g] at c1 ⊢
  simp [ny, Tryz.f299, fillL, zerosL, buildV, structPlace, strideOf, St.new, elemT, c1, l1]
 rw [dec_pos g] at c1 ⊢
 obtain ⟨w, c2, hw⟩ := wW (t := n.attr) he h hl hp
 have hb : ∀ x : Ob, H ++ [Ob.mk true 4 n.cs, x] = (H ++ [.mk true 4 n.cs]) ++ [x] := fun x => by simp
 have hbl : H.length + 1 = (H ++ [Ob.mk true 4 n.cs]).length := by simp
 have k1 : hideL [0] (H.length + 1) (H ++ [.mk true 4 n.cs, .dead]) = H ++ [.mk true 4 n.cs, .dead] := by rw [hb, hbl, hideL_app]; rfl
 have k2 : hideL [0] (H.length + 1) (H ++ [.mk true 4 n.cs, .mk true 1 [.str []]]) = H ++ [.mk true 4 n.cs, .dead] := by rw [hb, hbl, hideL_app, hb]; rfl
 have k3 : ∀ x, backL [0] (H.length + 1) (H ++ [.mk true 4 n.cs, x]) (H ++ [.mk true 4 n.cs, .dead]) = H ++ [.mk true 4 n.cs, x] := fun x => by rw [hb, hb, hbl, backL_app]; rfl
 have k4 : ∀ x y, (H ++ [Ob.mk true 4 n.cs, x]).set (H.length + 1) y = H ++ [.mk true 4 n.cs, y] := fun x y => by rw [set_app_at]; rfl
 have c2' := c2 [.mk true 4 n.cs, .dead]
 have c3 := bu (t := n.value) (H := H ++ [.mk true 4 n.cs, .dead])
 have c4 := cO (H := H ++ [.mk true 4 n.cs, .mk true 1 [.str (norm n.value)]]) (g := 327) (a := []) (b := [.ptr (some (H.length, 0)), .ptr (some (H.length + 1, 0))]) hw.ext (fun x => dec (fC n.op (norm x) (norm n.value))) fun x hx =>
  BK (n := n) (v := norm n.value) (o1 := true) (es1 := 4) (o2 := true) (es2 := 1) (by simp) (by simp) ho
 have hr : dec (∃ x ∈ valsOf az n.attr, dec (fC n.op (norm x) (norm n.value)) = true) = dec (jc n az) := by
  congr 1
  exact propext ⟨fun ⟨x, h1, h2⟩ => ⟨x, h1, dec_true.1 h2⟩, fun ⟨x, h1, h2⟩ => ⟨x, h1, dec_true.2 h2⟩⟩
 rw [hr] at c4
 have c5 := BF (b := dec (jc n az)) (H := H ++ [.mk true 4 n.cs, .mk true 1 [.str (norm n.value)]])
 have l2 : ∀ T : LT, T.one → ∀ r c, loadAt T ⟨r, c, H ++ [.mk true 4 n.cs, .dead]⟩ (.hp H.length 2) = some (.str n.value) := load1 (by simp; exact ⟨rfl, rfl, rfl⟩) rfl
 have l3 : ∀ x, ∀ T : LT, T.one → ∀ r c, loadAt T ⟨r, c, H ++ [.mk true 4 n.cs, x]⟩ (.hp H.length 1) = some (.str n.attr) := fun x => load1 (by simp; exact ⟨rfl, rfl, rfl⟩) rfl
 have hw1 := hw.one
 have st1 : ∀ T : LT, T.one → ∀ r c, storeAt T ⟨r, c, H ++ [.mk true 4 n.cs, .mk true 1 [.str []]]⟩ (.hp (H.length + 1) 0) (.str (norm n.value)) = some ⟨r, c, H ++ [.mk true 4 n.cs, .mk true 1 [.str (norm n.value)]]⟩ := by
  intro T hT r c
  rw [store1 (cells := [.str []]) (es := 1) (by simp) (by simp) rfl rfl T hT r c, k4]
  rfl
 have k5 : H.length < H.length + 1 + 1 := by omega
 simp [ny, Tryz.f299, fillL, zerosL, buildV, structPlace, strideOf, St.new, elemT, c1, l1, regionL_none, regionL_some, List.lookup, List.replicate, k1, k2, k3, k4, c2', c3, c4, c5, l2, l3, hideL_nil, backL_nil, hw1, k5, st1]
noncomputable def jh (op : Int) (xs : List Int) : Int :=
 if op = 3 then dE (xs.headD 0)
 else if op = 2 then (if 1 ∈ xs then 1 else if 2 ∈ xs then 2 else 0)
 else (if 0 ∈ xs then 0 else if 2 ∈ xs then 2 else 1)
def dF (g : Nat → Option (Int × Nat)) : Nat → Nat → List Int → Option (List Int × Nat)
 | 0, i, xs => some (xs, i)
 | k + 1, i, xs => match g i with
  | none => none
  | some p => dF g k p.2 (xs ++ [p.1])
noncomputable def iZ (f : List PNode) (az : List PAttr) (known : List Str) : Nat → Nat → Option (Int × Nat)
 | 0, _ => none
 | d + 1, i => match f[i]? with
  | none => none
  | some n => if dec (NodeOk n) = true then (if dec n.Inner = true then (dF (iZ f az known d) n.many.toNat (i + 1) []).map fun p => (jh n.op p.1, p.2) else some (fH n az known, i + 1)) else none
def Tri (x : Int) : Prop := x = 0 ∨ x = 1 ∨ x = 2
theorem Tri.not {x : Int} (h : Tri x) : Tri (dE x) := by
 rcases h with rfl | rfl | rfl <;> simp [Tri, dE]
theorem pI {n : PNode} {az : List PAttr} {known : List Str} : Tri (fH n az known) := by
 unfold fH fV Tri
 split
 ·split <;> simp
 ·simp
theorem pg {op : Int} {xs : List Int} (h : ∀ x ∈ xs, Tri x) : Tri (jh op xs) := by
 unfold jh
 split
 ·cases xs with
  | nil => simp [dE, Tri]
  | cons x xs => exact (h x (by simp)).not
 ·split
  ·split
   ·simp [Tri]
   ·split <;> simp [Tri]
  ·split
   ·simp [Tri]
   ·split <;> simp [Tri]
theorem vH {g : Nat → Option (Nat × Nat)} {g' : Nat → Option (Int × Nat)} (hg : ∀ i q, g i = some q → ∃ y, g' i = some (y, q.1) ∧ Tri y) : ∀ k p q xs, frep g k p = some q → (∀ x ∈ xs, Tri x) →
  ∃ ys, dF g' k p.1 xs = some (ys, q.1) ∧ (∀ x ∈ ys, Tri x) ∧ ys.length = xs.length + k
 | 0, p, q, xs, h, hx => by cases h; exact ⟨xs, rfl, hx, rfl⟩
 | k + 1, p, q, xs, h, hx => by
  unfold frep at h
  cases hq : g p.1 with
  | none => rw [hq] at h; cases h
  | some r =>
   rw [hq] at h
   obtain ⟨y, h1, h2⟩ := hg _ _ hq
   obtain ⟨ys, h3, h4, h5⟩ := vH hg k (r.1, max p.2 r.2) q (xs ++ [y]) h (by
    intro x hm
    rcases List.mem_append.1 hm with hm | hm
    ·exact hx x hm
    ·simp at hm; subst hm; exact h2)
   exact ⟨ys, by unfold dF; rw [h1]; exact h3, h4, by rw [h5]; simp; omega⟩
theorem Ae {f : List PNode} {az : List PAttr} {known : List Str} : ∀ d i q, fdep f d i = some q → ∃ y, iZ f az known d i = some (y, q.1) ∧ Tri y
 | 0, i, q, h => by cases h
 | d + 1, i, q, h => by
  unfold fdep at h
  cases hn : f[i]? with
  | none => rw [hn] at h; cases h
  | some n =>
   rw [hn] at h
   simp only at h
   split at h
   ·rename_i hok
    cases hr : frep (fdep f d) n.many.toNat (i + 1, 0) with
    | none => rw [hr] at h; cases h
    | some r =>
     rw [hr] at h
     cases h
     by_cases hin : n.Inner
     ·obtain ⟨ys, h1, h2, _⟩ := vH (g' := iZ f az known d) (fun i q h => Ae d i q h) _ _ _ [] hr (by simp)
      refine ⟨jh n.op ys, ?_, pg h2⟩
      unfold iZ
      simp only [hn, hok, if_true, dec_pos hin]
      rw [h1]
      rfl
     ·refine ⟨fH n az known, ?_, pI⟩
      have hm : n.many = 0 := by
       rcases dec_true.1 hok with ⟨a, _⟩ | ⟨_, _, _, a⟩ | ⟨_, _, _, a⟩
       ·exact absurd a hin
       ·exact a
       ·exact a
      rw [hm] at hr
      cases hr
      unfold iZ
      simp only [hn, hok, if_true, dec_neg hin, Bool.false_eq_true, if_false]
   ·cases h
def iW (op x : Int) : Int := if op = 1 then x else dE x
noncomputable def BX (op : Int) (xs : List Int) : Int :=
 let out : Int := if 0 ∈ xs.map (iW op) then 0 else if 2 ∈ xs.map (iW op) then 2 else 1
 if op = 2 then dE out else out
theorem xE {op : Int} {xs : List Int} (ho : op = 1 ∨ op = 2 ∨ op = 3) (h : ∀ x ∈ xs, Tri x) (h3 : op = 3 → xs.length = 1) : BX op xs = jh op xs := by
 unfold BX jh
 rcases ho with rfl | rfl | rfl
 ·have : xs.map (iW 1) = xs := by
   have : iW 1 = id := by funext x; simp [iW]
   rw [this]; simp
  simp [this]
 ·have m0 : 0 ∈ xs.map (iW 2) ↔ 1 ∈ xs := by
   simp only [List.mem_map, iW]
   constructor
   ·rintro ⟨x, hx, e⟩
    rcases h x hx with rfl | rfl | rfl <;> simp [dE] at e
    exact hx
   ·intro hx
    exact ⟨1, hx, by simp [dE]⟩
  have m2 : 2 ∈ xs.map (iW 2) ↔ 2 ∈ xs := by
   simp only [List.mem_map, iW]
   constructor
   ·rintro ⟨x, hx, e⟩
    rcases h x hx with rfl | rfl | rfl <;> simp [dE] at e
    exact hx
   ·intro hx
    exact ⟨2, hx, by simp [dE]⟩
  simp only [m0, m2]
  by_cases g1 : (1 : Int) ∈ xs
  ·simp [g1, dE]
  ·by_cases g2 : (2 : Int) ∈ xs
   ·simp [g1, g2, dE]
   ·simp [g1, g2, dE]
 ·match xs, h3 rfl with
  | [x], _ =>
   rcases h x (by simp) with rfl | rfl | rfl <;> simp [iW, dE]
end Go.Proofs.Try1
end
