/- Part 12 of the proof of a law: the interpreter, its soundness, and what functions of the program compute over it. Conditions: none but those that each theorem names. -/
import Derived.Test.YtipjjjlomghdfaaGreatDoorU11
import Derived.Test.YtipjjjlomghdfaaGreatDoorU08

set_option linter.all false
set_option maxRecDepth 20000
set_option maxHeartbeats 40000000
section
namespace Go.Proofs.Try1
open Go Go.Lite
theorem jm : ∀ (l : List Str), strsOf (l.map V.str) = some l
 | [] => rfl
 | s :: l => by simp only [List.map_cons, strsOf, jm l]
def sorted (l : List Str) : List Str := l.mergeSort fun x y => decide (x ≤ y)
theorem eG {l : List Str} : (sorted l).length = l.length := List.length_mergeSort l
theorem sorted_perm {l : List Str} : (sorted l).Perm l := List.mergeSort_perm l _
theorem uY {G : List Ob} {id : Nat} {l : List Str} (h : G[id]? = some (.mk true 1 (l.map V.str))) (h0 : 0 < l.length) (hl : l.length ≤ 1048576) :
  callW C 296 [.slc (some (id, 0)) l.length] G = some (.tup [], G.set id (.mk true 1 ((sorted l).map V.str))) := by
 rw [callW_prim (pr := sortPrim) rfl]
 simp only [sortPrim, if_neg (show ¬ l.length = 0 by omega), h]
 rw [if_pos ⟨trivial, by simp, hl⟩]
 rw [List.drop_zero, List.take_of_length_le (by simp), jm]
 simp only
 congr 4
 unfold setRange
 simp [sorted]
def Apart (l : List Str) : Prop := ∀ (i : Nat) x, l[i]? = some x → l[i + 1]? ≠ some x
theorem gB {H G : List Ob} (h : ∀ q, q < H.length → G[q]? = H[q]?) (hl : H.length ≤ G.length) : ∃ T, G = H ++ T := by
 refine ⟨G.drop H.length, ?_⟩
 apply List.ext_getElem?
 intro q
 by_cases hq : q < H.length
 ·rw [h q hq, List.getElem?_append_left hq]
 ·rw [List.getElem?_append_right (by omega), List.getElem?_drop]
  congr 1
  omega
theorem lK {H H' : List Ob} {r : V} (h : H'.length = H.length) : gcH H H' r = H' := by
 unfold gcH
 split
 ·rename_i hc
  obtain ⟨⟨T, rfl⟩, _⟩ := hc
  simp at h
  rw [h, List.append_nil]
 ·rfl
def CpI (cs l : List Str) (k n : Nat) : Prop := (∀ j, n ≤ j + 1 → cs[j]? = l[j]?) ∧ ∀ x, x ∈ cs.take k ↔ x ∈ l.take n
theorem CpI.init {l : List Str} {k : Nat} {x : Str} (hx : l[k]? = some x) (hy : l[k - 1]? = some x) (hk : 1 ≤ k) : CpI l l k (k + 1) :=
 ⟨fun _ _ => rfl, fun z => by
  rw [take_get hx, List.mem_append, List.mem_singleton]
  have hm : x ∈ l.take k := List.mem_of_getElem? (i := k - 1) (by rw [List.getElem?_take_of_lt (by omega)]; exact hy)
  exact ⟨.inl, fun h => h.elim id fun e => e ▸ hm⟩⟩
theorem CpI.same {cs l : List Str} {k n : Nat} {a : Str} (h : CpI cs l k n) (ha : cs[n]? = some a) (hb : cs[n - 1]? = some a) (hn : 1 ≤ n) : CpI cs l k (n + 1) := by
 have ha' : l[n]? = some a := by rw [← h.1 n (by omega)]; exact ha
 have hb' : l[n - 1]? = some a := by rw [← h.1 (n - 1) (by omega)]; exact hb
 refine ⟨fun j hj => h.1 j (by omega), fun x => ?_⟩
 rw [h.2 x, take_get ha', List.mem_append, List.mem_singleton]
 have hm : a ∈ l.take n := List.mem_of_getElem? (i := n - 1) (by rw [List.getElem?_take_of_lt (by omega)]; exact hb')
 exact ⟨.inl, fun h => h.elim id fun e => e ▸ hm⟩
theorem CpI.next {cs l : List Str} {k n : Nat} {a : Str} (h : CpI cs l k n) (ha : cs[n]? = some a) (hk : k + 1 ≤ n) : CpI (cs.set k a) l (k + 1) (n + 1) := by
 have ha' : l[n]? = some a := by rw [← h.1 n (by omega)]; exact ha
 have hkl : k < cs.length := by have := (List.getElem?_eq_some_iff.1 ha).1; omega
 refine ⟨fun j hj => by rw [List.getElem?_set_ne (by omega)]; exact h.1 j (by omega), fun x => ?_⟩
 have e1 : (cs.set k a).take (k + 1) = cs.take k ++ [a] := by
  rw [take_get (List.getElem?_set_self hkl)]
  congr 1
  apply List.ext_getElem?
  intro j
  by_cases hj : j < k
  ·rw [List.getElem?_take_of_lt hj, List.getElem?_take_of_lt hj, List.getElem?_set_ne (by omega)]
  ·rw [List.getElem?_eq_none (by simp; omega), List.getElem?_eq_none (by simp; omega)]
 rw [e1, take_get ha', List.mem_append, List.mem_append, h.2 x]
def Cp (G : List Ob) (id k : Nat) (l : List Str) : Prop := ∃ cs : List Str, G[id]? = some (.mk true 1 (cs.map V.str)) ∧ cs.length = l.length ∧ k ≤ cs.length ∧ ∀ x, x ∈ cs.take k ↔ x ∈ l
theorem Cp.all {G : List Ob} {id : Nat} {l : List Str} (h : G[id]? = some (.mk true 1 (l.map V.str))) : Cp G id l.length l := ⟨l, h, rfl, Nat.le_refl _, by simp⟩
theorem ni {n : Nat} : zerosL aZ n = (List.replicate n ([] : Str)).map V.str := by
 induction n with
 | zero => rfl
 | succ n ih => simp [zerosL, List.replicate_succ] at ih ⊢
theorem Cp.end {G : List Ob} {id k n : Nat} {cs l : List Str} (h : CpI cs l k n) (hn : n = l.length) (hc : cs.length = l.length) (hk : k ≤ l.length) (hid : id < G.length) : Cp (G.set id (.mk true 1 (setRange (cs.map V.str) k (zerosL aZ (l.length - k))))) id k l := by
 refine ⟨cs.take k ++ List.replicate (l.length - k) [], ?_, by simp; omega, by simp; omega, fun x => ?_⟩
 ·rw [List.getElem?_set_self hid, ni]
  congr 2
  unfold setRange
  rw [List.map_append, List.map_take, List.drop_of_length_le (by simp; omega), List.append_nil]
 ·rw [List.take_left' (by simp; omega), h.2 x, hn, List.take_length]
theorem vN {G0 : List Ob} {id : Nat} {l : List Str} (h : G0[id]? = some (.mk true 1 (l.map V.str))) (hl : l.length ≤ 1000) :
  ∃ G' k, callW C 297 [.slc (some (id, 0)) l.length] G0 = some (.slc (some (id, 0)) k, G') ∧ G'.length = G0.length ∧ (∀ q, q ≠ id → G'[q]? = G0[q]?) ∧ (k = l.length ↔ Apart l) ∧ Cp G' id k l := by
 suffices hs : Ret C 297 [.slc (some (id, 0)) l.length] G0 fun w G' => ∃ k, w = .slc (some (id, 0)) k ∧ G'.length = G0.length ∧ (∀ q, q ≠ id → G'[q]? = G0[q]?) ∧ (k = l.length ↔ Apart l) ∧ Cp G' id k l by
  obtain ⟨w, G', hc, k, rfl, h1, h2, h3⟩ := hs
  exact ⟨G', k, hc, h1, h2, h3⟩
 have hcp := Cp.all h
 rw [zt]
 by_cases hl2 : (l.length : Int) < 2
 ·have ha : Apart l := fun i x _ hx => by
   have := (List.getElem?_eq_some_iff.1 hx).1
   omega
  simp [fE, Tryz.f297, hl2, ha, hcp]
 simp [fE, Tryz.f297, hl2]
 refine WP_loop (fun m σ => ∃ (k : Nat) (r : Nat → R), k + m = l.length ∧ σ = ⟨r, 0, G0⟩ ∧ r 0 = .val (.slc (some (id, 0)) l.length) ∧ r 3 = .val (.int .i64 k) ∧ 1 ≤ k ∧ ∀ i x, i + 1 < k → l[i]? = some x → l[i + 1]? ≠ some x) ?_ (l.length - 1) _ ⟨1, _, by omega, rfl, by simp, by simp, by omega, fun i x h => by omega⟩
 rintro m σ ⟨k, r, hkm, rfl, r0, r3, hk1, hall⟩
 cases m with
 | zero =>
  have hk : k = l.length := by omega
  subst hk
  have ha : Apart l := fun i x hx hx' => hall i x (List.getElem?_eq_some_iff.1 hx').1 hx hx'
  simp [r0, r3, ha, hcp]
 | succ m =>
  have hk : k < l.length := by omega
  have hkI : (k : Int) < l.length := by omega
  obtain ⟨x, hx⟩ : ∃ c, l[k]? = some c := ⟨l[k], by simp [hk]⟩
  obtain ⟨y, hy⟩ : ∃ c, l[k - 1]? = some c := ⟨l[k - 1]'(by omega), by simp⟩
  have hw : IntKind.i64.wrap ((k : Int) + 1) = ((k : Int) + 1) := wrap_i64 (by omega) (by omega)
  have hw1 : IntKind.i64.wrap ((k : Int) - 1) = ((k - 1 : Nat) : Int) := by rw [wrap_i64 (by omega) (by omega)]; omega
  have hk' : ((k - 1 : Nat) : Int) < l.length := by omega
  have hk'' : k - 1 < l.length := by omega
  have ldx := load1 (o := k) (v := .str x) h (by simp [hx])
  have ldy := load1 (o := k - 1) (v := .str y) h (by simp [hy])
  by_cases hxy : x = y
  rotate_left
  ·simp [r0, r3, hk, hk'', ldx, ldy, hw, hw1, hxy, regionL_none]
   refine ⟨m, by omega, k + 1, by omega, by omega, by omega, fun i z hi hz => ?_⟩
   by_cases hik : i + 1 = k
   ·have : i = k - 1 := by omega
    subst this
    rw [hy] at hz
    cases hz
    rw [hik, hx]
    simpa using hxy
   ·exact hall i z (by omega) hz
  have hna : ¬ Apart l := fun ha => ha (k - 1) y hy (by rw [show k - 1 + 1 = k by omega, hx, hxy])
  have hst : strideIs G0 id 1 = true := by simp [strideIs, h]
  have hle : k ≤ l.length := by omega
  simp [r0, r3, hk, hk'', hle, ldx, ldy, hw1, hxy, hst, regionL_none]
  refine WP_loop (fun m σ => ∃ (k2 k' : Nat) (r : Nat → R) (G : List Ob) (cs : List Str), k2 + m = l.length - k ∧ σ = ⟨r, 0, G⟩ ∧ r 0 = .val (.slc (some (id, 0)) l.length) ∧ r 3 = .val (.int .i64 k') ∧ r 4 = .val (.slc (some (id, k)) (l.length - k)) ∧ r 5 = .val (.int .i64 k2) ∧ 1 ≤ k2 ∧ k' + 1 ≤ k + k2 ∧
   G.length = G0.length ∧ (∀ q, q ≠ id → G[q]? = G0[q]?) ∧ G[id]? = some (.mk true 1 (cs.map V.str)) ∧ cs.length = l.length ∧ CpI cs l k' (k + k2)) ?_ (l.length - k - 1) _ ⟨1, k, _, G0, l, by omega, rfl, by simp [r0], by simp [r3], by simp, by simp, by omega, by omega, rfl, fun _ _ => rfl, h, rfl, CpI.init hx (hxy ▸ hy) hk1⟩
  clear r0 r3 r hst
  rintro m2 σ ⟨k2, k', r, G, cs, hkm2, rfl, r0, r3, r4, r5, hk2, hkk, hG1, hG2, hG3, hcs, hci⟩
  have hst : strideIs G id 1 = true := by simp [strideIs, hG3]
  have hid : id < G.length := (List.getElem?_eq_some_iff.1 hG3).1
  cases m2 with
  | zero =>
   have hk2' : ((l.length - k : Nat) : Int) = k2 := by omega
   have hk2'' : l.length - k = k2 := by omega
   have hlt : k' < l.length := by omega
   have hle' : k' ≤ l.length := by omega
   have hnz : ¬ (l.length - k' = 0) := by omega
   have hwa : ∀ r c, writeAt ⟨r, c, G⟩ (.hp id k') (zerosL aZ (l.length - k')) = some ⟨r, c, G.set id (.mk true 1 (setRange (cs.map V.str) k' (zerosL aZ (l.length - k'))))⟩ := by
    intro r c
    simp only [writeAt, hG3]
    rw [if_pos (by rw [df, List.length_map]; omega)]
   have hst2 : ∀ o, strideIs (G.set id (.mk true 1 o)) id 1 = true := fun o => by simp [strideIs, hid]
   have hne : ¬ (k' = l.length) := by omega
   have hend := Cp.end (G := G) hci (by omega) hcs hle' hid
   have hgl : ∀ o w, gcH G0 (G.set id o) w = G.set id o := fun o w => lK (by rw [List.length_set]; exact hG1)
   simp [r0, r3, r4, r5, hk2'', hle', hst, elemT, hnz, hwa, hst2, hgl, -setRange]
   refine ⟨hG1, fun q hq => ?_, ⟨fun h => absurd h hne, fun h => absurd h hna⟩, hend⟩
   rw [List.getElem?_set_ne (Ne.symm hq)]
   exact hG2 q hq
  | succ m2 =>
   have hlt : k2 < l.length - k := by omega
   obtain ⟨a, ha⟩ : ∃ c, cs[k + k2]? = some c := ⟨cs[k + k2]'(by omega), by simp⟩
   obtain ⟨b, hb⟩ : ∃ c, cs[k + (k2 - 1)]? = some c := ⟨cs[k + (k2 - 1)]'(by omega), by simp⟩
   have ld1 := load1 (o := k + k2) (v := .str a) hG3 (by simp [ha])
   have ld2 := load1 (o := k + (k2 - 1)) (v := .str b) hG3 (by simp [hb])
   have hw2 : IntKind.i64.wrap ((k2 : Int) - 1) = ((k2 - 1 : Nat) : Int) := by rw [wrap_i64 (by omega) (by omega)]; omega
   have hw3 : IntKind.i64.wrap ((k2 : Int) + 1) = ((k2 : Int) + 1) := wrap_i64 (by omega) (by omega)
   have hw4 : IntKind.i64.wrap ((k' : Int) + 1) = ((k' : Int) + 1) := wrap_i64 (by omega) (by omega)
   have hlt2 : k2 - 1 < l.length - k := by omega
   have hlt3 : k' < l.length := by omega
   by_cases hab : a = b
   ·simp [r0, r3, r4, r5, hlt, hlt2, ld1, ld2, hw2, hw3, hab, regionL_none]
    exact ⟨m2, by omega, k2 + 1, by omega, k', _, G, ⟨rfl, rfl⟩, by simp [r0], by simp [r3], by simp [r4], by simp, by omega, by omega, hG1, hG2, cs, hG3, hcs, hci.same ha (by rw [show k + k2 - 1 = k + (k2 - 1) by omega, hab]; exact hb) (by omega)⟩
   ·have st := store1 (v := .str a) (o := k') hG3 (by simp; omega) rfl rfl
    simp [r0, r3, r4, r5, hlt, hlt2, hlt3, ld1, ld2, hw2, hw3, hw4, hab, regionL_none, st]
    exact ⟨m2, by omega, k2 + 1, by omega, k' + 1, _, _, ⟨rfl, rfl⟩, by simp [r0], by simp, by simp [r4], by simp, by omega, by omega, by simpa using hG1, fun q hq => by rw [List.getElem?_set_ne (Ne.symm hq)]; exact hG2 q hq, cs.set k' a, by rw [List.getElem?_set_self hid, List.map_set], by simpa using hcs, hci.next ha (by omega)⟩
theorem nO {l : List Str} (h : l.Pairwise fun a b => a ≤ b) : Apart l ↔ l.Nodup := by
 constructor
 ·intro ha
  induction l with
  | nil => exact List.nodup_nil
  | cons x l ih =>
   rw [List.pairwise_cons] at h
   rw [List.nodup_cons]
   have ha' : Apart l := fun i y hy => ha (i + 1) y (by simpa using hy)
   refine ⟨fun hx => ?_, ih h.2 ha'⟩
   cases l with
   | nil => cases hx
   | cons y l =>
    have hxy : x ≠ y := fun he => ha 0 x rfl (by simp [he])
    have h1 : x ≤ y := h.1 y List.mem_cons_self
    rcases List.mem_cons.1 hx with rfl | hx
    ·exact hxy rfl
    ·have h2 : y ≤ x := (List.pairwise_cons.1 h.2).1 x hx
     exact hxy (List.le_antisymm h1 h2)
 ·intro hn i x h1 h2
  obtain ⟨hi, h1⟩ := List.getElem?_eq_some_iff.1 h1
  obtain ⟨hi2, h2⟩ := List.getElem?_eq_some_iff.1 h2
  exact List.pairwise_iff_getElem.1 hn i (i + 1) hi hi2 (by omega) (h1.trans h2.symm)
theorem nG {l : List Str} : (sorted l).Pairwise fun a b => a ≤ b := by
 have := List.pairwise_mergeSort (le := fun x y : Str => decide (x ≤ y)) (fun a b c h1 h2 => by simp at h1 h2 ⊢; exact List.le_trans h1 h2) (fun a b => by simp; exact List.le_total a b) l
 exact this.imp fun h => by simpa using h
theorem bU {H : List Ob} {v : V} {l : List Str} (h : AStrs H v l) : ∀ s ∈ l, s.length ≤ maxLen := fun s hs => by
 obtain ⟨j, hj, rfl⟩ := List.getElem_of_mem hs
 obtain ⟨_, _, _, _, h⟩ := strs_idx h (List.getElem?_eq_getElem hj)
 exact h
def IZ (b : Nat) (p : Option (Nat × Nat)) : Prop := ∀ q o, p = some (q, o) → b ≤ q
def Some1 (G : List Ob) (w : V) (l : List Str) : Prop := ∃ l', AStrs G w l' ∧ (∀ x, x ∈ l' ↔ x ∈ l) ∧ l'.length ≤ l.length
theorem Some1.nil {G : List Ob} : Some1 G (.slc none 0) [] := ⟨[], At_slice.2 ⟨_, _, rfl, rfl, by simp, .inl ⟨rfl, rfl⟩⟩, fun _ => Iff.rfl, Nat.le_refl _⟩
theorem Some1.none {G : List Ob} {id : Nat} {cs : List V} (h : G[id]? = some (.mk true 1 cs)) : Some1 G (.slc (some (id, 0)) 0) [] := ⟨[], At_slice.2 ⟨_, _, rfl, rfl, by simp, .inr ⟨id, 0, true, cs, rfl, h, by simp, fun i x hx => by simp at hx⟩⟩, fun _ => Iff.rfl, Nat.le_refl _⟩
theorem wY {G : List Ob} {id k : Nat} {own : Bool} {cs : List Str} (h : G[id]? = some (.mk own 1 (cs.map V.str))) (hk : k ≤ cs.length) (hl : k ≤ maxLen) (hs : ∀ s ∈ cs.take k, s.length ≤ maxLen) : AStrs G (.slc (some (id, 0)) k) (cs.take k) := by
 refine At_slice.2 ⟨_, _, rfl, rfl, by simp; omega, .inr ⟨id, 0, own, cs.map V.str, by simp; omega, h, by simp; omega, fun i x hx => ?_⟩⟩
 rw [List.getElem?_map] at hx
 obtain ⟨s, hs', rfl⟩ := Option.map_eq_some_iff.1 hx
 have hi : i < (cs.take k).length := (List.getElem?_eq_some_iff.1 hs').1
 have hi2 : i < cs.length := by rw [List.length_take] at hi; omega
 have hc : cs[i]? = some s := by rw [List.length_take] at hi; rw [List.getElem?_take_of_lt (by omega)] at hs'; exact hs'
 refine At_str.2 ⟨s, ?_, rfl, hs s (List.mem_of_getElem? hs')⟩
 rw [Sh.size_str, Nat.zero_add, Nat.mul_one, List.drop_eq_getElem_cons (by simpa using hi2)]
 obtain ⟨_, rfl⟩ := List.getElem?_eq_some_iff.1 hc
 simp
theorem Some1.of {G : List Ob} {id k : Nat} {l : List Str} (h : Cp G id k (sorted l)) (hb : l.length ≤ 1000) (hm : ∀ s ∈ l, s.length ≤ maxLen) : Some1 G (.slc (some (id, 0)) k) l := by
 obtain ⟨cs, h1, h0, h2, h3⟩ := h
 rw [eG] at h0
 have h4 : ∀ x, x ∈ cs.take k ↔ x ∈ l := fun x => (h3 x).trans sorted_perm.mem_iff
 exact ⟨cs.take k, wY h1 h2 (by unfold maxLen; omega) fun s hs => hm s ((h4 s).1 hs), h4, by simp; omega⟩
theorem y5 {H : List Ob} {id : Nat} {own : Bool} {va : V} {l : List Str} (h0 : H[id]? = some (.mk own 1 [va])) (hw : AStrs H va l) (hb : l.length ≤ 1000) :
  ∃ T p n, callW C 235 [.slc (some (id, 0)) 1] H = some (.slc p n, H ++ T) ∧ (n = l.length ↔ l.Nodup) ∧ Some1 (H ++ T) (.slc p n) l ∧ IZ H.length p := by
 suffices hs : Ret C 235 [.slc (some (id, 0)) 1] H fun q H' => ∃ T p n, q = .slc p n ∧ H' = H ++ T ∧ (n = l.length ↔ l.Nodup) ∧ Some1 H' q l ∧ IZ H.length p by
  obtain ⟨q, H', hc, T, p, n, rfl, rfl, hr⟩ := hs
  exact ⟨T, p, n, hc, hr⟩
 have hmx := bU hw
 rw [Jq]
 have hfl : fl [l] 1 = l := by simp [fl]
 obtain ⟨T, w, c1, hown⟩ := nH (ls := [l]) h0 rfl (fun i w l' h1 h2 => by
  cases i with
  | zero => cases h1; cases h2; exact hw
  | succ i => simp at h1) (by simp only [List.length_singleton, hfl]; exact hb) (by simp)
 simp only [List.length_singleton, hfl] at c1 hown
 rcases hown with ⟨rfl, rfl⟩ | hgs
 ·have c2 : callW C 296 [.slc none 0] (H ++ T) = some (.tup [], H ++ T) := callW_prim (pr := sortPrim) rfl
  have c3 : callW C 297 [.slc none 0] (H ++ T) = some (.slc none 0, H ++ T) := by
   apply Ret.eq
   rw [zt]
   simp [fE, Tryz.f297]
  simp [iD, Tryz.f235, c1, c2, c3]
  exact ⟨[], _, _, ⟨rfl, rfl⟩, by simp [gcH, ext_append, lowV], rfl, Some1.nil, fun _ _ h => by cases h⟩
 ·obtain ⟨T', id', hT, h1, h2, rfl⟩ := hgs
  have hT' := List.append_cancel_left hT
  subst hT'
  rw [List.length_map] at c1
  have hid : id' < (H ++ T).length := (List.getElem?_eq_some_iff.1 h2).1
  by_cases hl0 : l.length = 0
  ·have : l = [] := List.length_eq_zero_iff.1 hl0
   subst this
   have c2 : callW C 296 [.slc (some (id', 0)) 0] (H ++ T) = some (.tup [], H ++ T) := callW_prim (pr := sortPrim) rfl
   have c3 : callW C 297 [.slc (some (id', 0)) 0] (H ++ T) = some (.slc (some (id', 0)) 0, H ++ T) := by
    apply Ret.eq
    rw [zt]
    simp [fE, Tryz.f297]
   have hgc : gcH H (H ++ T) (.slc (some (id', 0)) 0) = H ++ T := Gs.gc ⟨T, id', rfl, h1, h2, rfl⟩
   simp at c1
   simp [iD, Tryz.f235, c1, c2, c3, hgc]
   exact ⟨_, _, _, ⟨rfl, rfl⟩, rfl, rfl, Some1.none (by simpa using h2), fun _ _ h => by cases h; exact h1⟩
  ·have c2 := uY h2 (by omega) (by omega)
   obtain ⟨G', k, c3, k1, k2, k3, k4⟩ := vN (l := sorted l) (G0 := (H ++ T).set id' (.mk true 1 ((sorted l).map V.str))) (id := id') (by rw [List.getElem?_set_self hid]) (by rw [eG]; exact hb)
   rw [eG] at c3 k3
   rw [List.length_set] at k1
   obtain ⟨T2, hT2⟩ : ∃ T2, G' = H ++ T2 := gB (fun q hq => by
    rw [k2 q (by omega), List.getElem?_set_ne (by omega), List.getElem?_append_left hq]) (by rw [k1]; simp)
   subst hT2
   have hgc : ∀ n, gcH H (H ++ T2) (.slc (some (id', 0)) n) = H ++ T2 := fun n => by
    unfold gcH
    rw [if_neg]
    rintro ⟨_, own, es, cells, h⟩
    have := (List.getElem?_eq_some_iff.1 h).1
    omega
   have hnd : k = l.length ↔ l.Nodup := by
    rw [k3, nO nG]
    exact sorted_perm.nodup_iff
   simp [iD, Tryz.f235, c1, c2, c3, hgc]
   exact ⟨T2, _, _, ⟨rfl, rfl⟩, rfl, hnd, Some1.of k4 hb hmx, fun _ _ h => by cases h; exact h1⟩
theorem zF {H : List Ob} {id : Nat} {own : Bool} {va : V} {l : List Str} (h0 : H[id]? = some (.mk own 1 [va])) (hw : AStrs H va l) (hb : l.length ≤ 1000) :
  ∃ T p n, callW C 235 [.slc (some (id, 0)) 1] H = some (.slc p n, H ++ T) ∧ (n = l.length ↔ l.Nodup) := by
 obtain ⟨T, p, n, h1, h2, _⟩ := y5 h0 hw hb
 exact ⟨T, p, n, h1, h2⟩
theorem Own.strs {H G : List Ob} {w : V} {l : List Str} (h : Own H G w l) (hl : l.length ≤ maxLen) (hs : ∀ s ∈ l, s.length ≤ maxLen) : AStrs G w l := by
 rcases h with ⟨rfl, rfl⟩ | h
 ·exact At_slice.2 ⟨_, _, rfl, rfl, by simp, .inl ⟨rfl, rfl⟩⟩
 ·exact (h.strs hl hs).1
theorem dQ {H X Y : List Ob} : Keep H.length (H ++ X) (H ++ Y) := fun id hid => by rw [List.getElem?_append_left hid, List.getElem?_append_left hid]
theorem fG {H Y : List Ob} : Keep H.length H (H ++ Y) := fun id hid => by rw [List.getElem?_append_left hid]
theorem Own.one {H G : List Ob} {w : V} {l : List Str} (h : Own H G w l) : isOne w = true ∧ cellsOf w = some [w] := by
 rcases h with ⟨rfl, rfl⟩ | h
 ·exact ⟨rfl, rfl⟩
 ·exact h.one
theorem ah : ∀ (a b : Str), LtS a b ↔ a < b
 | a, [] => by simp [LtS, Op.bytesLess]
 | [], b :: bs => by simp [LtS, Op.bytesLess]
 | a :: as', b :: bs => by
  have := ah as' bs
  unfold LtS at this ⊢
  simp [Op.bytesLess, List.cons_lt_cons_iff, this]
theorem iR : ∀ {l : List Str}, NamesOk l → l.Pairwise fun a b => a < b
 | [], _ => .nil
 | [x], _ => by simp
 | x :: y :: l, h => by
  have h' : NamesOk (y :: l) := fun j z hz => by
   obtain ⟨h1, h2⟩ := h (j + 1) z (by simpa using hz)
   refine ⟨h1, fun v hj hv => h2 v (by omega) ?_⟩
   rw [show j + 1 - 1 = (j - 1) + 1 by omega]
   simpa using hv
  have ih := iR h'
  have hxy : x < y := (ah x y).1 ((h 1 y rfl).2 x (by omega) rfl)
  rw [List.pairwise_cons]
  refine ⟨fun z hz => ?_, ih⟩
  rcases List.mem_cons.1 hz with rfl | hz
  ·exact hxy
  ·exact List.lt_trans hxy ((List.pairwise_cons.1 ih).1 z hz)
theorem gJ {l : List Str} (h : NamesOk l) : l.Nodup := (iR h).imp fun h e => by subst e; exact List.lt_irrefl _ h
theorem Ae {H : List Ob} {w1 w2 w3 : V} {c : PClass} (h1 : AStrs H w1 c.must) (h2 : AStrs H w2 c.may) (h3 : AStrs H w3 c.single) : callW C 194 [.agg [.str c.name, w1, w2, w3]] H = some (.bool (dec (ClassOk c)), H) := by
 apply Ret.dec
 rw [H9]
 simp [uC, Tryz.f194, h1.one, h2.one, h3.one, elemT, fillL, zerosL, St.new]
 refine WP_loop (fun k σ => ∃ (i : Nat) (r : Nat → R), i + k = 3 ∧ σ = ⟨r, 1, H ++ [.mk true 1 [w1, w2, w3]]⟩ ∧ r 1 = .box 0 [.str c.name, w1, w2, w3] ∧ r 12 = .val (.slc (some (H.length, 0)) 3) ∧ r 13 = .val (.int .i64 3) ∧ r 14 = .val (.int .i64 i) ∧ ∀ j l, j < i → [c.must, c.may, c.single][j]? = some l → l.length ≤ 10 ∧ NamesOk l) ?_ 3 _ ⟨0, _, by simp, rfl, by simp, by simp, by simp, by simp, by simp⟩
 rintro k σ ⟨i, r, hik, rfl, r1, r12, r13, r14, hall⟩
 cases k with
 | succ k =>
  have hi : i < 3 := by omega
  have hiI : (i : Int) < 3 := by omega
  obtain ⟨l, w, hli, hwi, hs, hcl⟩ : ∃ l w, [c.must, c.may, c.single][i]? = some l ∧ [w1, w2, w3][i]? = some w ∧ AStrs H w l ∧ (ClassOk c → l.length ≤ 10 ∧ NamesOk l) := by
   match i, hi with
   | 0, _ => exact ⟨_, _, rfl, rfl, h1, fun h => ⟨h.l1, h.n1⟩⟩
   | 1, _ => exact ⟨_, _, rfl, rfl, h2, fun h => ⟨h.l2, h.n2⟩⟩
   | 2, _ => exact ⟨_, _, rfl, rfl, h3, fun h => ⟨h.l3, h.n3⟩⟩
  have ld := load1 (H := H ++ [.mk true 1 [w1, w2, w3]]) (o := i) get_last hwi
  have hw : IntKind.i64.wrap ((i : Int) + 1) = ((i : Int) + 1) := wrap_i64 (by omega) (by omega)
  have c1 := sV (hs.ext (T := [.mk true 1 [w1, w2, w3]]))
  by_cases g1 : (l.length : Int) > 10
  ·have hn : ¬ ClassOk c := fun h => by have := (hcl h).1; omega
   simp [r1, r12, r13, r14, hiI, hi, ld, (hs.ext (T := [.mk true 1 [w1, w2, w3]])).len, g1, hn]
  by_cases g2 : NamesOk l
  ·rw [dec_pos g2] at c1
   simp [r1, r12, r13, r14, hiI, hi, ld, (hs.ext (T := [.mk true 1 [w1, w2, w3]])).len, g1, c1, hw]
   exact ⟨k, by omega, i + 1, by omega, by omega, at_step (P := fun j (l : List Str) => l.length ≤ 10 ∧ NamesOk l) hall hli ⟨by omega, g2⟩⟩
  ·rw [dec_neg g2] at c1
   have hn : ¬ ClassOk c := fun h => g2 (hcl h).2
   simp [r1, r12, r13, r14, hiI, hi, ld, (hs.ext (T := [.mk true 1 [w1, w2, w3]])).len, g1, c1, hn]
 | zero =>
 have hi : i = 3 := by omega
 subst hi
 obtain ⟨m1, m2⟩ := hall 0 c.must (by omega) rfl
 obtain ⟨m3, m4⟩ := hall 1 c.may (by omega) rfl
 obtain ⟨m5, m6⟩ := hall 2 c.single (by omega) rfl
 have hfl : fl [c.must, c.may] 2 = c.must ++ c.may := by simp [fl]
 obtain ⟨T, w, c1, hown⟩ := nH (H := H ++ [.mk true 1 [w1, w2, w3]] ++ [.mk true 1 [w1, w2]]) (id := H.length + 1) (ls := [c.must, c.may]) (ws := [w1, w2]) (own := true) (by rw [List.getElem?_append_right (by simp)]; simp) rfl (fun i v l g1 g2 => by
  match i with
  | 0 => cases g1; cases g2; exact h1.ext.ext
  | 1 => cases g1; cases g2; exact h2.ext.ext
  | i + 2 => simp at g1) (by simp only [List.length_cons, List.length_nil, Nat.reduceAdd, hfl, List.length_append]; omega) (by simp)
 simp only [List.length_cons, List.length_nil, Nat.reduceAdd, hfl, List.append_assoc, List.cons_append, List.nil_append] at c1 hown
 have how := hown.one
 have st := store1 (H := H ++ .mk true 1 [w1, w2, w3] :: .mk true 1 [w1, w2] :: (T ++ [.mk true 1 [.slc none 0]])) (id := H.length + (T.length + 1 + 1)) (es := 1) (cells := [.slc none 0]) (v := w) (o := 0) (by rw [List.getElem?_append_right (by omega)]; simp) (by simp) how.2 how.1
 have hmem : (H ++ Ob.mk true 1 [w1, w2, w3] :: Ob.mk true 1 [w1, w2] :: (T ++ [Ob.mk true 1 [V.slc none 0]])).length = H.length + (T.length + 1 + 1) + 1 := by simp; omega
 have hold : ∀ (q : Nat) o, (H ++ Ob.mk true 1 [w1, w2, w3] :: Ob.mk true 1 [w1, w2] :: T)[q]? = some o → ((H ++ Ob.mk true 1 [w1, w2, w3] :: Ob.mk true 1 [w1, w2] :: (T ++ [Ob.mk true 1 [V.slc none 0]])).set (H.length + (T.length + 1 + 1)) (Ob.mk true 1 ([V.slc none 0].set 0 w)))[q]? = some o := fun q o hq => by
  have hql := (List.getElem?_eq_some_iff.1 hq).1
  simp at hql
  rw [List.getElem?_set_ne (by omega), show H ++ Ob.mk true 1 [w1, w2, w3] :: Ob.mk true 1 [w1, w2] :: (T ++ [Ob.mk true 1 [V.slc none 0]]) = (H ++ Ob.mk true 1 [w1, w2, w3] :: Ob.mk true 1 [w1, w2] :: T) ++ [Ob.mk true 1 [V.slc none 0]] by simp]
  exact up_append _ _ hq
 have hobj : ((H ++ Ob.mk true 1 [w1, w2, w3] :: Ob.mk true 1 [w1, w2] :: (T ++ [Ob.mk true 1 [V.slc none 0]])).set (H.length + (T.length + 1 + 1)) (Ob.mk true 1 ([V.slc none 0].set 0 w)))[H.length + (T.length + 1 + 1)]? = some (Ob.mk true 1 [w]) := by
  rw [List.getElem?_set_self (by omega)]
  rfl
 obtain ⟨H3, hH3⟩ : ∃ H3, H3 = (H ++ Ob.mk true 1 [w1, w2, w3] :: Ob.mk true 1 [w1, w2] :: (T ++ [Ob.mk true 1 [V.slc none 0]])).set (H.length + (T.length + 1 + 1)) (Ob.mk true 1 ([V.slc none 0].set 0 w)) := ⟨_, rfl⟩
 rw [← hH3] at st hobj hold
 obtain ⟨T3, hT3⟩ : ∃ T3, H3 = H ++ T3 := by
  refine ⟨(Ob.mk true 1 [w1, w2, w3] :: Ob.mk true 1 [w1, w2] :: (T ++ [Ob.mk true 1 [V.slc none 0]])).set (T.length + 1 + 1) (Ob.mk true 1 ([V.slc none 0].set 0 w)), ?_⟩
  rw [hH3, List.set_append_right _ _ (by omega), Nat.add_sub_cancel_left]
 simp [r1, r12, r13, r14, h1.one, h2.one, h3.one, elemT, fillL, zerosL, St.new, c1, strideOf, st, -regionL_some]
 generalize H.length + (T.length + 1 + 1) = id5 at hobj
 have hall3 : AStrs H3 w (c.must ++ c.may) := (hown.strs (by rw [List.length_append]; unfold maxLen; omega) (fun s hs => by
  rcases List.mem_append.1 hs with hs | hs
  ·exact bU h1 s hs
  ·exact bU h2 s hs)).up hold
 have hid5 : id5 < H3.length := (List.getElem?_eq_some_iff.1 hobj).1
 have h33 : AStrs H3 w3 c.single := by rw [hT3]; exact h3.ext
 have hgc1 : ∀ b, gcH H H3 (.bool b) = H := fun b => by rw [hT3]; exact gcH_bool
 have hgc2 : ∀ b X, gcH H (H3 ++ X) (.bool b) = H := fun b X => by rw [hT3, List.append_assoc]; exact gcH_bool
 clear hH3 hold hT3 st c1 hown hmem
 have ld := load1 (o := 0) hobj rfl
 have c2 := fK (t := c.name) (H := H3)
 have hok : ClassOk c ↔ NameOk c.name ∧ (c.must ++ c.may).Nodup ∧ classT ∉ c.must ++ c.may ∧ ∀ t ∈ c.single, t ∈ c.must ++ c.may := by
  constructor
  ·intro h
   refine ⟨h.name, ?_, ?_, ?_⟩
   ·rw [List.nodup_append]
    exact ⟨gJ h.n1, gJ h.n2, fun a ha b hb hab => h.apart a ha (hab ▸ hb)⟩
   ·rw [List.mem_append]; exact fun h' => h'.elim h.noMust h.noMay
   ·intro t ht; rw [List.mem_append]; exact (h.known t ht).symm
  ·rintro ⟨k1, k2, k3, k4⟩
   rw [List.nodup_append] at k2
   rw [List.mem_append] at k3
   exact ⟨k1, m1, m3, m5, m2, m4, m6, fun t ht ht' => k2.2.2 t ht t ht' rfl, fun t ht => (List.mem_append.1 (k4 t ht)).symm, fun h => k3 (.inl h), fun h => k3 (.inr h)⟩
 by_cases g1 : NameOk c.name
 rotate_left
 ·rw [dec_neg g1] at c2
  have hn : ¬ ClassOk c := fun h => g1 h.name
  simp [r1, hid5, c2, hn, hgc1, hgc2, List.lookup]
 rw [dec_pos g1] at c2
 obtain ⟨T4, p, n, c3, hn⟩ := zF (H := H3 ++ [Ob.mk true 1 [w]]) (id := H3.length) get_last hall3.ext (by rw [List.length_append]; omega)
 simp only [List.append_assoc, List.cons_append, List.nil_append] at c3
 have hln := fun {e s b : Nat} {z : List V} => hall3.len (e := e) (s := s) (b := b) (z := z)
 by_cases g2 : (n : Int) = (c.must ++ c.may).length
 rotate_left
 ·have hno : ¬ ClassOk c := fun h => g2 (by have := hn.2 (hok.1 h).2.1; omega)
  simp only [List.length_append, Int.natCast_add] at g2 hln
  simp [r1, hid5, c2, c3, ld, hln, g2, elemT, fillL, zerosL, St.new, dQ, fG, hall3.one, hno, hgc1, hgc2, List.lookup]
 have c4 : callW C 146 [w, .str [99, 108, 97, 115, 115]] (H3 ++ Ob.mk true 1 [w] :: T4) = some (.bool (dec (classT ∈ c.must ++ c.may)), H3 ++ Ob.mk true 1 [w] :: T4) := bz hall3.ext
 have ld2 := load1 (H := H3 ++ Ob.mk true 1 [w] :: T4) (o := 0) (v := w) (up_append _ _ hobj) rfl
 have g2' : (c.must ++ c.may).Nodup := hn.1 (by omega)
 by_cases g3 : classT ∈ c.must ++ c.may
 ·rw [dec_pos g3] at c4
  have hno : ¬ ClassOk c := fun h => (hok.1 h).2.2.1 g3
  simp only [List.length_append, Int.natCast_add] at g2 hln
  simp [r1, hid5, c2, c3, c4, ld, ld2, hln, g2, elemT, fillL, zerosL, St.new, dQ, fG, hall3.one, hno, hgc1, hgc2, List.lookup]
 rw [dec_neg g3] at c4
 have c5 := dJ (H := H3 ++ Ob.mk true 1 [w] :: T4) (g := 265) (a := []) (b := [.ptr (some (id5, 0))]) h33.ext (fun x => !dec (x ∈ c.must ++ c.may)) (fun x _ => xn (up_append _ _ hobj) hall3.ext)
 by_cases g4 : ∃ x ∈ c.single, (!dec (x ∈ c.must ++ c.may)) = true
 ·rw [dec_pos g4] at c5
  have hno : ¬ ClassOk c := fun h => by
   obtain ⟨x, hx, hd⟩ := g4
   rw [dec_pos ((hok.1 h).2.2.2 x hx)] at hd
   cases hd
  simp only [List.length_append, Int.natCast_add] at g2 hln
  simp [r1, hid5, c2, c3, c4, c5, ld, ld2, hln, g2, elemT, fillL, zerosL, St.new, dQ, fG, hall3.one, hno, hgc1, hgc2, List.lookup, h3.one]
 ·rw [dec_neg g4] at c5
  have hyes : ClassOk c := hok.2 ⟨g1, g2', g3, fun t ht => Classical.byContradiction fun h => g4 ⟨t, ht, by rw [dec_neg h]; rfl⟩⟩
  simp only [List.length_append, Int.natCast_add] at g2 hln
  simp [r1, hid5, c2, c3, c4, c5, ld, ld2, hln, g2, elemT, fillL, zerosL, St.new, dQ, fG, hall3.one, hyes, hgc1, hgc2, List.lookup, h3.one]
theorem mO {H : List Ob} {v : V} {l : List PClass} (h : AClasses H v l) : callW C 110 [v] H = some (.bool (dec (SchemaOk l)), H) := by
 apply Ret.dec
 rw [Jf]
 have hb : l.length ≤ 9223372036854775807 := h.bound
 by_cases g0 : (l.length : Int) > 6
 ·have hn : ¬ SchemaOk l := fun h => by have := h.2; omega
  simp [kE, Tryz.f110, h.len, g0, hn]
 simp [kE, Tryz.f110, h.len, g0]
 refine WP_loop (fun k σ => ∃ (i n : Nat) (r : Nat → R), i + k = l.length ∧ σ = ⟨r, n, H⟩ ∧ r 0 = .val v ∧ r 8 = .val v ∧ r 9 = .val (.int .i64 l.length) ∧ r 10 = .val (.int .i64 i) ∧ ∀ j x, j < i → l[j]? = some x → ClassOk x ∧ PrevLt PClass.name l j x) ?_ l.length _ ⟨0, 0, _, by simp, rfl, by simp, by simp, by simp, by simp, by simp⟩
 rintro k σ ⟨i, n, r, hik, rfl, r0, r8, r9, r10, hall⟩
 cases k with
 | zero =>
  have hi : i = l.length := by omega
  subst hi
  have hx := at_all (P := fun j (x : PClass) => ClassOk x ∧ PrevLt PClass.name l j x) hall
  have hv : SchemaOk l := ⟨hx, by omega⟩
  simp [r0, r8, r9, r10, hv]
 | succ k =>
  have hi : i < l.length := by omega
  obtain ⟨x, hx⟩ : ∃ c, l[i]? = some c := ⟨l[i], by simp [hi]⟩
  have hw : IntKind.i64.wrap ((i : Int) + 1) = ((i : Int) + 1) := wrap_i64 (by omega) (by omega)
  obtain ⟨id, o, w1, w2, w3, e1, l0, l4, q1, q2, q3, _⟩ := classes_idx h hx
  have c1 := Ae q1 q2 q3
  have hstep := fun h => at_step (P := fun j (x : PClass) => ClassOk x ∧ PrevLt PClass.name l j x) hall hx h
  by_cases g1 : ClassOk x
  rotate_left
  ·rw [dec_neg g1] at c1
   have hn : ¬ SchemaOk l := fun hd => g1 (hd.1 i x hx).1
   simp [r0, r8, r9, r10, hi, e1, l4, c1, hn, regionL_none, q1.one, q2.one, q3.one]
  rw [dec_pos g1] at c1
  by_cases hi0 : i = 0
  ·have := hstep ⟨g1, fun y hy => by omega⟩
   subst hi0
   simp at e1
   simp [r0, r8, r9, r10, hi, e1, l4, c1, regionL_none, q1.one, q2.one, q3.one]
   exact ⟨k, by omega, 1, by omega, n + 1, _, ⟨rfl, rfl⟩, by simp [r0], by simp [r8], by simp [r9], by simp, this⟩
  have hip : 0 < i := by omega
  obtain ⟨y, hy⟩ : ∃ c, l[i - 1]? = some c := ⟨l[i - 1]'(by omega), by simp⟩
  obtain ⟨id', o', _, _, _, e1', l0', _⟩ := classes_idx h hy
  have hw1 : IntKind.i64.wrap ((i : Int) - 1) = ((i - 1 : Nat) : Int) := by rw [wrap_i64 (by omega) (by omega)]; omega
  by_cases g2 : LtS y.name x.name
  ·have := hstep ⟨g1, fun z _ hz => by rw [hy] at hz; cases hz; exact g2⟩
   simp [r0, r8, r9, r10, hi, e1, l0, l4, c1, e1', l0', hw, hw1, hip, aQ g2, regionL_none, q1.one, q2.one, q3.one]
   exact ⟨k, by omega, i + 1, by omega, n + 1, _, ⟨rfl, rfl⟩, by simp [r0], by simp [r8], by simp [r9], by simp, this⟩
  ·have hn : ¬ SchemaOk l := fun hd => g2 ((hd.1 i x hx).2 y hip hy)
   simp [r0, r8, r9, r10, hi, e1, l0, l4, c1, e1', l0', hw, hw1, hip, aY g2, regionL_none, q1.one, q2.one, q3.one, hn]
noncomputable def dE (a b : Str) : Int := if dec (LtS a b) = true then -1 else if dec (LtS b a) = true then 1 else 0
theorem gY {a b : Str} : dE a b < 0 ↔ LtS a b := by
 unfold dE
 by_cases h : LtS a b
 ·rw [dec_pos h]; simp [h]
 ·rw [dec_neg h]
  by_cases h' : LtS b a
  ·rw [dec_pos h']; simp [h]
  ·rw [dec_neg h']; simp [h]
theorem eQ {a b : Str} : dE a b = 0 ↔ a = b := by
 unfold dE
 by_cases h : LtS a b
 ·rw [dec_pos h]
  have : a ≠ b := fun e => by subst e; exact List.lt_irrefl _ ((ah a a).1 h)
  simp [this]
 ·rw [dec_neg h]
  by_cases h' : LtS b a
  ·rw [dec_pos h']
   have : a ≠ b := fun e => by subst e; exact List.lt_irrefl _ ((ah a a).1 h')
   simp [this]
  ·rw [dec_neg h']
   have h1 : b ≤ a := fun hh => h ((ah a b).2 hh)
   have h2 : a ≤ b := fun hh => h' ((ah b a).2 hh)
   simp [List.le_antisymm h2 h1]
theorem Bz {a b : Str} {H : List Ob} : callW C 275 [.str a, .str b] H = some (.int .i64 (dE a b), H) := by
 have c0 : ∀ x : Str, callW C 316 [.str x] H = some (.bool false, H) := fun x => by
  apply Ret.eq
  rw [FN]
  simp [ry, Tryz.f316]
 apply Ret.eq
 rw [Gt]
 by_cases g1 : LtS a b
 ·have : dE a b = -1 := by unfold dE; rw [dec_pos g1]; rfl
  simp [gU, Tryz.f275, c0, aQ g1, this]
 ·by_cases g2 : LtS b a
  ·have hne : a ≠ b := fun e => by subst e; exact g1 g2
   have : dE a b = 1 := by unfold dE; rw [dec_neg g1, dec_pos g2]; rfl
   simp [gU, Tryz.f275, c0, aY g1, hne, this]
  ·have : dE a b = 0 := by unfold dE; rw [dec_neg g1, dec_neg g2]; rfl
   have he := eQ.1 this
   simp [gU, Tryz.f275, c0, aY g1, he, this]
   subst he
   simp [aY g1, this]
theorem nV {n t : Str} {w : V} {H : List Ob} (ho : cellsOf w = some [w]) : callW C 355 [.agg [.str n, w], .str t] H = some (.int .i64 (dE n t), H) := by
 apply Ret.eq
 rw [Jz]
 simp [uu, Tryz.f355, Bz]
theorem fZ {α : Type} {key : α → Str} : ∀ {l : List α}, (∀ (j : Nat) x, l[j]? = some x → PrevLt key l j x) → l.Pairwise fun a b => key a < key b
 | [], _ => .nil
 | [x], _ => by simp
 | x :: y :: l, h => by
  have h' : ∀ (j : Nat) z, (y :: l)[j]? = some z → PrevLt key (y :: l) j z := fun j z hz v hj hv => by
   refine h (j + 1) z (by simpa using hz) v (by omega) ?_
   rw [show j + 1 - 1 = (j - 1) + 1 by omega]
   simpa using hv
  have ih := fZ h'
  have hxy : key x < key y := (ah _ _).1 (h 1 y rfl x (by omega) rfl)
  rw [List.pairwise_cons]
  refine ⟨fun z hz => ?_, ih⟩
  rcases List.mem_cons.1 hz with rfl | hz
  ·exact hxy
  ·exact List.lt_trans hxy ((List.pairwise_cons.1 ih).1 z hz)
theorem yX {H : List Ob} {v : V} {l : List PAttr} {t : Str} (h : AAttrs H v l) (hl : l.length ≤ 1000) (hp : l.Pairwise fun a b => a.name < b.name) :
  ∃ (i : Nat) (ok : Bool), callW C 354 [v, .str t, .fn 355 [] []] H = some (.tup [.int .i64 i, .bool ok], H) ∧
   (ok = true → ∃ a, l[i]? = some a ∧ a.name = t) ∧ (ok = false → ∀ a ∈ l, a.name ≠ t) := by
 suffices hs : Ret C 354 [v, .str t, .fn 355 [] []] H fun q H' =>
   (∃ (i : Nat) (ok : Bool), q = .tup [.int .i64 i, .bool ok] ∧ (ok = true → ∃ a, l[i]? = some a ∧ a.name = t) ∧ (ok = false → ∀ a ∈ l, a.name ≠ t)) ∧ H' = H by
  obtain ⟨q, H', hc, ⟨i, ok, rfl, h1, h2⟩, rfl⟩ := hs
  exact ⟨i, ok, hc, h1, h2⟩
 rw [IB]
 simp [qF, Tryz.f354, h.len]
 refine WP_loop (fun k σ => ∃ (i j : Nat) (r : Nat → R), j - i = k ∧ i ≤ j ∧ j ≤ l.length ∧ σ = ⟨r, 0, H⟩ ∧ r 0 = .val v ∧ r 1 = .val (.str t) ∧ r 2 = .val (.fn 355 [] []) ∧ r 8 = .val (.int .i64 l.length) ∧ r 9 = .val (.int .i64 i) ∧ r 10 = .val (.int .i64 j) ∧
  (∀ q a, q < i → l[q]? = some a → LtS a.name t) ∧ (∀ q a, j ≤ q → l[q]? = some a → ¬ LtS a.name t)) ?_ l.length _ ⟨0, l.length, _, by omega, by omega, by omega, rfl, by simp, by simp, by simp, by simp, by simp, by simp, fun q a h => by omega, fun q a h1 h2 => by have := (List.getElem?_eq_some_iff.1 h2).1; omega⟩
 rintro k σ ⟨i, j, r, hk, hij, hjl, rfl, r0, r1, r2, r8, r9, r10, hlo, hhi⟩
 cases k with
 | succ k =>
  have hlt : (i : Int) < j := by omega
  have hlt' : i < j := by omega
  have hw1 : IntKind.i64.wrap ((i : Int) + j) = (i : Int) + j := wrap_i64 (by omega) (by omega)
  have hw2 : IntKind.u64.wrap ((i : Int) + j) = (i : Int) + j := by unfold IntKind.wrap; simp [IntKind.bits, IntKind.signed]; omega
  have hq : ((i : Int) + j).fdiv 2 = (((i + j) / 2 : Nat) : Int) := by rw [Int.fdiv_eq_ediv_of_nonneg _ (by omega)]; omega
  obtain ⟨m, hm⟩ : ∃ m, m = (i + j) / 2 := ⟨_, rfl⟩
  rw [← hm] at hq
  have hw3 : IntKind.i64.wrap (m : Int) = m := wrap_i64 (by omega) (by omega)
  have hw4 : IntKind.i64.wrap ((m : Int) + 1) = (m : Int) + 1 := wrap_i64 (by omega) (by omega)
  have hml : m < l.length := by omega
  obtain ⟨a, ha⟩ : ∃ a, l[m]? = some a := ⟨l[m], List.getElem?_eq_getElem hml⟩
  obtain ⟨id, o, w, e1, l0, l1, l2, hvs, _⟩ := attrs_idx h ha
  have c1 := nV (n := a.name) (t := t) (w := w) (H := H) hvs.one.2
  have hord : ∀ q b, l[q]? = some b → (q < m → b.name < a.name) ∧ (m < q → a.name < b.name) := fun q b hb => by
   obtain ⟨hq1, hb⟩ := List.getElem?_eq_some_iff.1 hb
   obtain ⟨_, ha⟩ := List.getElem?_eq_some_iff.1 ha
   have := List.pairwise_iff_getElem.1 hp
   exact ⟨fun hh => by have := this q m hq1 hml hh; rwa [hb, ha] at this, fun hh => by have := this m q hml hq1 hh; rwa [hb, ha] at this⟩
  by_cases g1 : LtS a.name t
  ·have g1' := gY.2 g1
   simp [r0, r1, r2, r8, r9, r10, hlt, hlt', hw1, hw2, hq, hw3, hw4, e1, l2, c1, g1', intShift, IntKind.bits]
   refine ⟨j - (m + 1), by omega, m + 1, j, by omega, by omega, by omega, by omega, rfl, fun q b hq1 hb => ?_, hhi⟩
   by_cases hqm : q = m
   ·subst hqm; rw [ha] at hb; cases hb; exact g1
   ·exact (ah _ _).2 (List.lt_trans ((hord q b hb).1 (by omega)) ((ah _ _).1 g1))
  ·have g1' : ¬ dE a.name t < 0 := mt gY.1 g1
   simp [r0, r1, r2, r8, r9, r10, hlt, hlt', hw1, hw2, hq, hw3, hw4, e1, l2, c1, g1', intShift, IntKind.bits]
   refine ⟨m - i, by omega, i, m, by omega, by omega, by omega, rfl, rfl, hlo, fun q b hq1 hb hlt2 => ?_⟩
   by_cases hqm : q = m
   ·subst hqm; rw [ha] at hb; cases hb; exact g1 hlt2
   ·exact g1 ((ah _ _).2 (List.lt_trans ((hord q b hb).2 (by omega)) ((ah _ _).1 hlt2)))
 | zero =>
  have hij' : i = j := by omega
  subst hij'
  by_cases hil : i < l.length
  ·have hilI : (i : Int) < l.length := by omega
   obtain ⟨a, ha⟩ : ∃ a, l[i]? = some a := ⟨l[i], List.getElem?_eq_getElem hil⟩
   obtain ⟨id, o, w, e1, l0, l1, l2, hvs, _⟩ := attrs_idx h ha
   have c1 := nV (n := a.name) (t := t) (w := w) (H := H) hvs.one.2
   by_cases g1 : a.name = t
   ·have g1' := eQ.2 g1
    simp [r0, r1, r2, r8, r9, r10, hil, e1, l2, c1, g1']
    exact ⟨i, rfl, a, ha, g1⟩
   ·have g1' : ¬ dE a.name t = 0 := mt eQ.1 g1
    simp [r0, r1, r2, r8, r9, r10, hil, e1, l2, c1, g1']
    refine ⟨⟨i, rfl⟩, fun b hb hbt => ?_⟩
    obtain ⟨q, hq1, rfl⟩ := List.getElem_of_mem hb
    have hqe := List.getElem?_eq_getElem hq1
    rcases Nat.lt_trichotomy q i with hh | hh | hh
    ·have := hlo q _ hh hqe
     rw [hbt] at this
     exact List.lt_irrefl _ ((ah _ _).1 this)
    ·subst hh; rw [ha] at hqe; cases hqe; exact g1 hbt
    ·have h1 := hhi i a (by omega) ha
     obtain ⟨_, ha'⟩ := List.getElem?_eq_some_iff.1 ha
     have h2 := List.pairwise_iff_getElem.1 hp i q hil hq1 hh
     rw [ha', hbt] at h2
     exact h1 ((ah _ _).2 h2)
  ·simp [r0, r1, r2, r8, r9, r10, hil]
   refine ⟨⟨i, rfl⟩, fun b hb hbt => ?_⟩
   obtain ⟨q, hq1, rfl⟩ := List.getElem_of_mem hb
   have := hlo q _ (by omega) (List.getElem?_eq_getElem hq1)
   rw [hbt] at this
   exact List.lt_irrefl _ ((ah _ _).1 this)
end Go.Proofs.Try1
end
section
namespace Go.Lite
open Go
def At2 (H : List Ob) (id o : Nat) (x y : V) : Prop := ∃ own es cells, H[id]? = some (.mk own es cells) ∧ cells[o]? = some x ∧ cells[o + 1]? = some y
section
variable {H T : List Ob} {id o : Nat} {x y : V}
theorem At2.of {own : Bool} {es : Nat} (h : H[id]? = some (.mk own es [x, y])) : At2 H id 0 x y := ⟨_, _, _, h, rfl, rfl⟩
theorem At2.lt (h : At2 H id o x y) : id < H.length := by
 obtain ⟨_, _, _, h, _⟩ := h
 exact (List.getElem?_eq_some_iff.1 h).1
theorem At2.ext (h : At2 H id o x y) : At2 (H ++ T) id o x y := by
 obtain ⟨a, b, c, h, h2⟩ := h
 exact ⟨a, b, c, up_append _ _ h, h2⟩
theorem At2.ld0 (h : At2 H id o x y) : ∀ T : LT, T.one → ∀ r c, loadAt T ⟨r, c, H⟩ (.hp id o) = some x := by
 obtain ⟨a, b, c, h, h2, _⟩ := h
 exact load1 h h2
theorem At2.ld1 (h : At2 H id o x y) : ∀ T : LT, T.one → ∀ r c, loadAt T ⟨r, c, H⟩ (.hp id (o + 1)) = some y := by
 obtain ⟨a, b, c, h, _, h2⟩ := h
 exact load1 h h2
theorem At2.there (h : At2 H id o x y) : thereAt H id := by
 obtain ⟨a, b, c, h, _⟩ := h
 exact ⟨a, b, c, h⟩
end
end Go.Lite
end
section
namespace Go.Proofs.Try1
open Go Go.Lite
theorem oC {α : Type} {key : α → Str} {l : List α} {t : Str} {i : Nat} {a : α} (hp : l.Pairwise fun a b => key a < key b) (h : l[i]? = some a) (hk : key a = t) : firstOf key l t = some a := by
 unfold firstOf
 rw [List.find?_eq_some_iff_getElem]
 obtain ⟨hi, h⟩ := List.getElem?_eq_some_iff.1 h
 refine ⟨by simp [hk], i, hi, h, fun j hj => ?_⟩
 have := List.pairwise_iff_getElem.1 hp j i (by omega) hi hj
 rw [h, hk] at this
 have hne : key l[j] ≠ t := fun e => by rw [e] at this; exact List.lt_irrefl _ this
 simp [hne]
theorem pJ {α : Type} {key : α → Str} {l : List α} {t : Str} (h : ∀ a ∈ l, key a ≠ t) : firstOf key l t = none := by
 unfold firstOf
 rw [List.find?_eq_none]
 intro x hx
 simpa using h x hx
theorem zJ {H : List Ob} {ide eo : Nat} {vd va : V} {l : List PAttr} {t : Str} (he : At2 H ide eo vd va) (h : AAttrs H va l) (hl : l.length ≤ 1000) (hp : l.Pairwise fun a b => a.name < b.name) :
  ∃ (i : Nat) (ok : Bool), callW C 335 [.ptr (some (ide, eo)), .str t] H = some (.tup [.int .i64 i, .bool ok], H) ∧
   (ok = true → ∃ a, l[i]? = some a ∧ a.name = t) ∧ (ok = false → ∀ a ∈ l, a.name ≠ t) := by
 obtain ⟨i, ok, c1, h1, h2⟩ := yX (t := t) h hl hp
 refine ⟨i, ok, ?_, h1, h2⟩
 apply Ret.eq
 rw [En]
 have ld := he.ld1
 simp [qx, Tryz.f335, ld, c1]
theorem vH {H : List Ob} {ide eo : Nat} {vd va : V} {l : List PAttr} {t : Str} (he : At2 H ide eo vd va) (h : AAttrs H va l) (hl : l.length ≤ 1000) (hp : l.Pairwise fun a b => a.name < b.name) :
  ∃ w, callW C 311 [.ptr (some (ide, eo)), .str t] H = some (w, H) ∧ AStrs H w (valsOf l t) := by
 obtain ⟨i, ok, c1, h1, h2⟩ := zJ (t := t) he h hl hp
 suffices hs : Ret C 311 [.ptr (some (ide, eo)), .str t] H fun q H' => AStrs H q (valsOf l t) ∧ H' = H by
  obtain ⟨q, H', hc, hr, rfl⟩ := hs
  exact ⟨q, hc, hr⟩
 rw [Hr]
 have ld := he.ld1
 cases ok with
 | false =>
  have hv : valsOf l t = [] := by unfold valsOf; rw [pJ (h2 rfl)]
  simp [kR, Tryz.f311, c1, hv]
  exact At_slice.2 ⟨_, _, rfl, rfl, by simp, .inl ⟨rfl, rfl⟩⟩
 | true =>
  obtain ⟨a, ha, hat⟩ := h1 rfl
  obtain ⟨id, o, w, e1, l0, l1, _, hw, _⟩ := attrs_idx h ha
  have hv : valsOf l t = a.vals := by unfold valsOf; rw [oC hp ha hat]
  simp [kR, Tryz.f311, c1, ld, e1, l1, hv]
  exact hw
theorem iZ {H : List Ob} {ide : Nat} {own : Bool} {es : Nat} {vd va : V} {l : List PAttr} {t : Str} (he : H[ide]? = some (.mk own es [vd, va])) (h : AAttrs H va l) (hl : l.length ≤ 1000) (hp : l.Pairwise fun a b => a.name < b.name) :
  ∃ w, callW C 311 [.ptr (some (ide, 0)), .str t] H = some (w, H) ∧ AStrs H w (valsOf l t) := vH (.of he) h hl hp
theorem zB {H : List Ob} {ide idp : Nat} {own own' : Bool} {es es' : Nat} {vd va : V} {l : List PAttr} {t : Str} (he : H[ide]? = some (.mk own es [vd, va])) (hq : H[idp]? = some (.mk own' es' [.ptr (some (ide, 0))])) (h : AAttrs H va l) (hl : l.length ≤ 1000) (hp : l.Pairwise fun a b => a.name < b.name) :
  callW C 313 [.str t, .ptr (some (idp, 0))] H = some (.bool (decide (0 < (valsOf l t).length)), H) := by
 obtain ⟨w, c1, hw⟩ := iZ (t := t) he h hl hp
 apply Ret.eq
 rw [Ej]
 have ld := load1 (o := 0) (v := .ptr (some (ide, 0))) hq rfl
 simp [rQ, Tryz.f313, ld, c1, hw.len]
theorem Aa {H : List Ob} {idn : Nat} {own : Bool} {es : Nat} {n t : Str} {w1 w2 w3 : V} (hq : H[idn]? = some (.mk own es [.str t])) (h1 : cellsOf w1 = some [w1]) :
  callW C 333 [.agg [.str n, w1, w2, w3], .ptr (some (idn, 0))] H = some (.bool (decide (n = t)), H) := by
 apply Ret.eq
 rw [EH]
 have ld := load1 (o := 0) (v := .str t) hq rfl
 simp [rW, Tryz.f333, ld]
theorem iW {H : List Ob} {idn : Nat} {own : Bool} {es : Nat} {v : V} {l : List PClass} {t : Str} (hq : H[idn]? = some (.mk own es [.str t])) (h : AClasses H v l) :
  ∃ r : Int, callW C 332 [v, .fn 333 [] [.ptr (some (idn, 0))]] H = some (.int .i64 r, H) ∧ FirstAt PClass.name l t r := by
 suffices hs : Ret C 332 [v, .fn 333 [] [.ptr (some (idn, 0))]] H fun q H' => (∃ r : Int, q = .int .i64 r ∧ FirstAt PClass.name l t r) ∧ H' = H by
  obtain ⟨q, H', hc, ⟨r, rfl, hr⟩, rfl⟩ := hs
  exact ⟨r, hc, hr⟩
 rw [Fg]
 have hb : l.length ≤ 9223372036854775807 := h.bound
 simp [rF, Tryz.f332, h.len]
 refine WP_loop (fun k σ => ∃ (i : Nat) (r : Nat → R), i + k = l.length ∧ σ = ⟨r, 0, H⟩ ∧ r 0 = .val v ∧ r 1 = .val (.fn 333 [] [.ptr (some (idn, 0))]) ∧ r 7 = .val (.int .i64 l.length) ∧ r 8 = .val (.int .i64 i) ∧ ∀ j x, j < i → l[j]? = some x → x.name ≠ t) ?_ l.length _ ⟨0, _, by simp, rfl, by simp, by simp, by simp, by simp, by simp⟩
 rintro k σ ⟨i, r, hik, rfl, r0, r1, r7, r8, hall⟩
 cases k with
 | zero =>
  have hi : i = l.length := by omega
  subst hi
  have hx := at_all (P := fun j (x : PClass) => x.name ≠ t) hall
  simp [r0, r1, r7, r8]
  exact .inr ⟨hx, rfl⟩
 | succ k =>
  have hi : i < l.length := by omega
  obtain ⟨x, hx⟩ : ∃ c, l[i]? = some c := ⟨l[i], by simp [hi]⟩
  have hw : IntKind.i64.wrap ((i : Int) + 1) = ((i : Int) + 1) := wrap_i64 (by omega) (by omega)
  obtain ⟨id, o, w1, w2, w3, e1, l0, l4, q1, q2, q3, _⟩ := classes_idx h hx
  have c1 := Aa (n := x.name) (w1 := w1) (w2 := w2) (w3 := w3) hq q1.one.2
  by_cases g1 : x.name = t
  ·rw [decide_eq_true g1] at c1
   simp [r0, r1, r7, r8, hi, e1, l4, c1]
   exact .inl ⟨i, x, hx, g1, hall, rfl⟩
  ·rw [decide_eq_false g1] at c1
   simp [r0, r1, r7, r8, hi, e1, l4, c1, hw]
   exact ⟨k, by omega, i + 1, by omega, by omega, at_step (P := fun j (x : PClass) => x.name ≠ t) hall hx g1⟩
theorem ji {H T : List Ob} {w : V} {l : List Str} (h : AStrs (H ++ T) w l) (hl : lowV H w) : AStrs H w l := by
 obtain ⟨w', us, hw, hu, hb, hs⟩ := At_slice.1 h.at
 cases hw
 cases hu
 refine At_slice.2 ⟨_, _, rfl, rfl, hb, ?_⟩
 rcases hs with h | ⟨id, off, own, cells, rfl, h2, h3, h4⟩
 ·exact .inl h
 ·obtain ⟨_, _, _, h5⟩ := hl
  have hid := (List.getElem?_eq_some_iff.1 h5).1
  rw [List.getElem?_append_left hid] at h2
  refine .inr ⟨id, off, own, cells, rfl, h2, h3, fun i x hx => ?_⟩
  have := h4 i x hx
  rw [At_str] at this ⊢
  exact this
theorem iV {H T : List Ob} {m : Option PClass} {cs : List V} {ok : Bool} (h : aG (H ++ T) m cs ok) : ∃ T', gcH H (H ++ T) (.tup [.agg cs, .bool ok]) = H ++ T' ∧ aG (H ++ T') m cs ok := by
 by_cases hl : lowV H (.tup [.agg cs, .bool ok])
 ·refine ⟨[], by rw [gcH_low hl, List.append_nil], ?_⟩
  rw [List.append_nil]
  rcases h with ⟨rfl, c, w1, w2, w3, h1, rfl, h2, h3, h4⟩ | h
  ·simp only [lowV, lowVs, and_true, true_and] at hl
   exact .inl ⟨rfl, c, w1, w2, w3, h1, rfl, ji h2 hl.1, ji h3 hl.2.1, ji h4 hl.2.2⟩
  ·exact .inr h
 ·refine ⟨T, ?_, h⟩
  unfold gcH
  rw [if_neg fun h => hl h.2]
theorem iU {H : List Ob} {v : V} {l : List Str} (h : AStrs H v l) (hl : l.length ≤ 1048576) : ∃ T w, callW C 248 [v] H = some (w, H ++ T) ∧ Own H (H ++ T) w l ∧ AStrs (H ++ T) w l ∧ isOne w = true ∧ cellsOf w = some [w] := by
 obtain ⟨T, w, h1, h2⟩ := qO h hl
 exact ⟨T, w, h1, h2, h2.strs (by unfold maxLen; omega) (bU h), h2.one⟩
theorem vF {H : List Ob} {v : V} {l : List PClass} {t : Str} (h : AClasses H v l) (hb : ∀ c ∈ l, c.must.length ≤ 1000 ∧ c.may.length ≤ 1000 ∧ c.single.length ≤ 1000) :
  ∃ T cs ok, callW C 306 [v, .str t] H = some (.tup [.agg cs, .bool ok], H ++ T) ∧ aG (H ++ T) (firstOf PClass.name l t) cs ok := by
 suffices hs : Ret C 306 [v, .str t] H fun q H' => ∃ T cs ok, q = .tup [.agg cs, .bool ok] ∧ H' = H ++ T ∧ aG (H ++ T) (firstOf PClass.name l t) cs ok by
  obtain ⟨q, H', hc, T, cs, ok, rfl, rfl, hr⟩ := hs
  exact ⟨T, cs, ok, hc, hr⟩
 rw [Bl]
 obtain ⟨r, c1, hr⟩ := iW (H := H ++ [.mk true 1 [.str t]]) (idn := H.length) (t := t) get_last h.ext
 rcases hr.pos with ⟨k, a, h1, rfl, h2⟩ | ⟨rfl, h2⟩
 ·obtain ⟨id, o, w1, w2, w3, e1, l4, q1, q2, q3⟩ := classes_idxT h h1
  have l4 := l4 [.mk true 1 [.str t]]
  obtain ⟨b1, b2, b3⟩ := hb a (List.mem_of_getElem? h1)
  have hk : ¬ ((k : Int) < 0) := by omega
  obtain ⟨T1, x1, d1, _, s1, o1⟩ := iU (q1.ext (T := [.mk true 1 [.str t]])) (by omega)
  obtain ⟨T2, x2, d2, _, s2, o2⟩ := iU (q2.ext.ext (T := T1) (H := H ++ [.mk true 1 [.str t]])) (by omega)
  obtain ⟨T3, x3, d3, _, s3, o3⟩ := iU (q3.ext.ext.ext (T := T2) (H := H ++ [.mk true 1 [.str t]] ++ T1)) (by omega)
  have hres : aG (H ++ ([.mk true 1 [.str t]] ++ (T1 ++ (T2 ++ T3)))) (firstOf PClass.name l t) [.str a.name, x1, x2, x3] true := by
   refine .inl ⟨rfl, a, x1, x2, x3, h2, rfl, ?_, ?_, ?_⟩
   ·have := s1.ext (T := T2 ++ T3); simpa only [List.append_assoc] using this
   ·have := s2.ext (T := T3); simpa only [List.append_assoc] using this
   ·simpa only [List.append_assoc] using s3
  obtain ⟨T', hg, hres⟩ := iV hres
  simp only [List.append_assoc, List.cons_append, List.nil_append] at d1 d2 d3 hg
  simp [ik, Tryz.f306, c1, hk, e1, l4, d1, d2, d3, o1, o2, o3, q1.one, q2.one, q3.one, strideOf, buildV, fillL, structPlace, List.lookup, hg]
  exact hres
 ·have hres : aG (H ++ [.mk true 1 [.str t]]) (firstOf PClass.name l t) [.str [], .slc none 0, .slc none 0, .slc none 0] false := .inr ⟨rfl, h2, rfl⟩
  obtain ⟨T', hg, hres⟩ := iV hres
  simp [ik, Tryz.f306, c1, strideOf, buildV, fillL, structPlace, hg]
  exact hres
theorem uV {H : List Ob} {ide : Nat} {own : Bool} {es : Nat} {vd va : V} {l : List PAttr} (he : H[ide]? = some (.mk own es [vd, va])) (h : AAttrs H va l) (hl : l.length ≤ 1000) (hp : l.Pairwise fun a b => a.name < b.name) :
  ∃ w, callW C 311 [.ptr (some (ide, 0)), .str [99, 108, 97, 115, 115]] H = some (w, H) ∧ AStrs H w (valsOf l classT) := iZ he h hl hp
theorem vw {H : List Ob} {ide : Nat} {own : Bool} {es : Nat} {vd va vl : V} {l : List PClass} {as' : List PAttr} (he : H[ide]? = some (.mk own es [vd, va])) (h : AAttrs H va as') (hl : as'.length ≤ 1000) (hp : as'.Pairwise fun a b => a.name < b.name)
  (hc : AClasses H vl l) (hb : ∀ c ∈ l, c.must.length ≤ 1000 ∧ c.may.length ≤ 1000 ∧ c.single.length ≤ 1000) :
  ∃ T cs ok, callW C 267 [vl, .ptr (some (ide, 0))] H = some (.tup [.agg cs, .bool ok], H ++ T) ∧ aG (H ++ T) (mineOf l as') cs ok := by
 suffices hs : Ret C 267 [vl, .ptr (some (ide, 0))] H fun q H' => ∃ T cs ok, q = .tup [.agg cs, .bool ok] ∧ H' = H ++ T ∧ aG (H ++ T) (mineOf l as') cs ok by
  obtain ⟨q, H', hc, T, cs, ok, rfl, rfl, hr⟩ := hs
  exact ⟨T, cs, ok, hc, hr⟩
 rw [IX]
 obtain ⟨w, c1, hw⟩ := uV he h hl hp
 by_cases g1 : (valsOf as' classT).length = 1
 rotate_left
 ·have hm : mineOf l as' = none := by
   unfold mineOf
   split
   ·rename_i v hv; rw [hv] at g1; exact absurd rfl g1
   ·rfl
  have g1' : ¬ ((valsOf as' classT).length : Int) = 1 := by omega
  simp [lJ, Tryz.f267, c1, hw.len, g1', buildV, fillL]
  exact .inr ⟨rfl, hm, rfl⟩
 obtain ⟨s, hs⟩ : ∃ s, valsOf as' classT = [s] := by
  match h : valsOf as' classT, g1 with
  | [s], _ => exact ⟨s, rfl⟩
 rw [hs] at hw
 obtain ⟨id, o, e1, l0, _⟩ := strs_idx hw (i := 0) (s := s) rfl
 simp only [Int.ofNat_eq_natCast, Int.natCast_zero] at e1
 have c2 := bi (t := s) (H := H)
 obtain ⟨T, cs, ok, c3, hres⟩ := vF (t := norm s) hc hb
 have hm : mineOf l as' = firstOf PClass.name l (norm s) := by unfold mineOf; rw [hs]
 rw [← hm] at hres
 have hcs : cs.length = 4 ∧ cs.all isOne = true := by
  rcases hres with ⟨_, c, w1, w2, w3, _, rfl, h1, h2, h3⟩ | ⟨_, _, rfl⟩
  ·exact ⟨rfl, by simp [h1.one, h2.one, h3.one]⟩
  ·exact ⟨rfl, rfl⟩
 obtain ⟨T', hg, hres⟩ := iV hres
 obtain ⟨x1, x2, x3, x4, rfl⟩ : ∃ x1 x2 x3 x4, cs = [x1, x2, x3, x4] := by
  match cs, hcs.1 with
  | [x1, x2, x3, x4], _ => exact ⟨_, _, _, _, rfl⟩
 have hone := hcs.2
 simp at hone
 cases ok <;> simp [lJ, Tryz.f267, c1, hw.len, e1, l0, c2, c3, hone, hg] <;> exact hres
theorem um {H : List Ob} {v : V} {l : List PRdn} (h : ARdns H v l) (hd : DnOk l) : callW C 112 [v] H = some (.str (keyD l), H) := by
 rw [callW_prim (show C.prim 112 = some dkPrim from rfl)]
 exact dkPrim_eq h hd.small.1 hd.small.2
theorem zq {H : List Ob} {id : Nat} {own : Bool} {es : Nat} {t n : Str} (hq : H[id]? = some (.mk own es [.str n])) : callW C 314 [.str t, .ptr (some (id, 0))] H = some (.bool (dec (norm t = n)), H) := by
 apply Ret.dec
 rw [FY]
 have ld := load1 (o := 0) (v := .str n) hq rfl
 have c1 := bi (t := t) (H := H)
 have hid : id < H.length := (List.getElem?_eq_some_iff.1 hq).1
 simp [qW, Tryz.f314, ld, c1, hid]
 exact (Classical.em _).symm
theorem EW {H : List Ob} {ide : Nat} {own : Bool} {es : Nat} {vd va : V} {l : List PAttr} {t n : Str} (he : H[ide]? = some (.mk own es [vd, va])) (h : AAttrs H va l) (hl : l.length ≤ 1000) (hp : l.Pairwise fun a b => a.name < b.name) :
  callW C 269 [.ptr (some (ide, 0)), .str t, .str n] H = some (.bool (dec (HasOk l t n)), H) := by
 apply Ret.dec
 rw [EP]
 have ld := load1 (H := H ++ [.mk true 1 [.str n]]) (o := 0) (v := .str n) get_last rfl
 have hgb : ∀ X b, gcH H (H ++ X) (.bool b) = H := fun X b => gcH_bool
 by_cases hn : n = []
 ·subst hn
  simp [kP, Tryz.f269, strideOf, ld, HasOk, hgb]
 ·obtain ⟨w, c1, hw⟩ := iZ (H := H ++ [.mk true 1 [.str n]]) (t := t) (up_append _ _ he) h.ext hl hp
  have c2 := dJ hw (fun x => dec (norm x = n)) (g := 314) (a := []) (b := [.ptr (some (H.length, 0))]) (fun x _ => zq get_last)
  simp [kP, Tryz.f269, strideOf, ld, hn, c1, c2, hgb, HasOk]
  have e : (∃ x, x ∈ valsOf l t ∧ dec (norm x = n) = true) ↔ ∃ v, v ∈ valsOf l t ∧ norm v = n := by simp only [dec_true]
  rw [dec_iff e]
  by_cases hx : ∃ v, v ∈ valsOf l t ∧ norm v = n
  ·exact .inr ⟨dec_pos hx, hx⟩
  ·exact .inl ⟨dec_neg hx, fun x hx1 hx2 => hx ⟨x, hx1, hx2⟩⟩
theorem DT {H : List Ob} {v v' : V} {l : List PAttr} {t s : Str} (h : AAttrs H v l) (ho : cellsOf v' = some [v']) (ho' : isOne v' = true) : callW C 184 [.agg [v', v], .str t, .str s] H = some (.bool (dec (HasOk l t (norm s))), H) := by
 apply Ret.dec
 rw [EM]
 have c1 := bW (t := s) (H := H)
 obtain ⟨w, c2, hw⟩ := JA (t := t) h ho ho'
 obtain ⟨r, c3, hr⟩ := PD (n := norm s) hw
 have hone := h.one
 by_cases hn : norm s = []
 ·simp [iO, Tryz.f184, c1, hn, ho, ho', hone, HasOk]
 ·rcases hr with ⟨k, a, h1, h2, h3, rfl⟩ | ⟨h1, rfl⟩
  ·have hk : (0 : Int) ≤ (k : Int) := by omega
   have hm : a ∈ valsOf l t := List.mem_of_getElem? h1
   have h2' : norm a = norm s := by simpa using h2
   simp [iO, Tryz.f184, c1, c2, c3, hn, ho, ho', hone, HasOk, hk]
   exact ⟨a, hm, h2'⟩
  ·simp [iO, Tryz.f184, c1, c2, c3, hn, ho, ho', hone, HasOk]
   intro x hx
   obtain ⟨j, hj, rfl⟩ := List.getElem_of_mem hx
   have := h1 j _ (List.getElem?_eq_getElem hj)
   simpa using this
theorem yu {H : List Ob} {vl vd va : V} {l : List PClass} {e : PEntry} (hl : AClasses H vl l) (hd : ARdns H vd e.dn) (ha : AAttrs H va e.attrs) (hdn : 0 < e.dn.length) :
  ∃ r : Int, callW C 102 [vl, .agg [vd, va]] H = some (.int .i64 r, H) ∧ (r = 0 ↔ FitsOk l e) ∧ (r = 0 ∨ r = 12) := by
 suffices hs : Ret C 102 [vl, .agg [vd, va]] H fun q H' => (∃ r : Int, q = .int .i64 r ∧ (r = 0 ↔ FitsOk l e) ∧ (r = 0 ∨ r = 12)) ∧ H' = H by
  obtain ⟨q, H', hc, ⟨r, rfl, hr⟩, rfl⟩ := hs
  exact ⟨r, hc, hr⟩
 rw [Jk]
 have hod := hd.one
 have hoa := ha.one
 obtain ⟨cs, ok, c1, hm⟩ := Du (T := []) hl ha hod.2 hod.1
 rw [List.append_nil] at c1
 obtain ⟨x, hx⟩ : ∃ c, e.dn[0]? = some c := ⟨e.dn[0], by simp [hdn]⟩
 obtain ⟨id, o, e1, l0, l1, _, _⟩ := rdns_idx hd hx
 simp only [Int.ofNat_eq_natCast, Int.natCast_zero] at e1
 have hid := kM l0
 have c2 := DT (t := x.attr) (s := x.value) ha hod.2 hod.1
 rcases hm with ⟨rfl, c, w1, w2, w3, hc, rfl, a1, a2, a3⟩ | ⟨rfl, hc, rfl⟩
 rotate_left
 ·simp [iH, Tryz.f102, regionL_some, regionL_none, List.lookup, c1, hod, hoa, hid]
  rintro ⟨c, h1, _⟩
  rw [hc] at h1
  cases h1
 by_cases hH : HasOk e.attrs x.attr (norm x.value)
 rotate_left
 ·rw [dec_neg hH] at c2
  simp [iH, Tryz.f102, regionL_some, regionL_none, List.lookup, c1, hod, hoa, a1.one, a2.one, a3.one, e1, l0, l1, hid, c2]
  rintro ⟨c, _, _, _, y, h1, h2⟩
  rw [hx] at h1
  cases h1
  exact hH h2
 rw [dec_pos hH] at c2
 simp [iH, Tryz.f102, regionL_some, regionL_none, List.lookup, c1, hod, hoa, a1.one, a2.one, a3.one, e1, l0, l1, hid, c2]
 have hb1 : c.must.length ≤ 9223372036854775807 := a1.bound
 have hb2 : e.attrs.length ≤ 9223372036854775807 := ha.bound
 have hfit : ∀ c', mineOf l e.attrs = some c' → c' = c := fun c' h => by rw [hc] at h; cases h; rfl
 refine WP_loop (fun k σ => ∃ (i : Nat) (r : Nat → R), i + k = c.must.length ∧ (∀ t ∈ c.must.take i, firstOf PAttr.name e.attrs t ≠ none) ∧ σ = ⟨r, 2, H⟩ ∧ r 3 = .box 0 [vd, va] ∧ r 5 = .box 1 [.str c.name, w1, w2, w3] ∧ r 7 = .val (.int .i64 i)) ?_ c.must.length _ ⟨0, _, by omega, by simp, rfl, by simp, by simp, by simp⟩
 rintro k σ ⟨i, r, hik, hpre, rfl, r3, r5, r7⟩
 cases k with
 | succ k =>
  have hi : i < c.must.length := by omega
  obtain ⟨s, hs⟩ : ∃ s, c.must[i]? = some s := ⟨c.must[i], by simp [hi]⟩
  obtain ⟨id2, o2, f1, l5, _⟩ := strs_idx a1 hs
  have hid2 := kM l5
  obtain ⟨q, c3, hq⟩ := Ip (t := s) ha hod.2
  have hw : IntKind.i64.wrap ((i : Int) + 1) = ((i : Int) + 1) := wrap_i64 (by omega) (by omega)
  rcases hq.pos with ⟨k', a, h1, rfl, h2⟩ | ⟨rfl, h2⟩
  ·have hk : ¬ ((k' : Int) < 0) := by omega
   simp [r3, r5, r7, regionL_some, regionL_none, List.lookup, a1.len, hi, f1, l5, hid2, c3, hk, hod, hoa, hw, a1.one]
   exact ⟨k, by omega, i + 1, by omega, fun t ht => by
    rw [take_get hs] at ht
    rcases List.mem_append.1 ht with h | h
    ·exact hpre t h
    ·obtain rfl := List.mem_singleton.1 h
     rw [h2]; simp, by simp⟩
  ·simp [r3, r5, r7, regionL_some, regionL_none, List.lookup, a1.len, hi, f1, l5, hid2, c3, hod, hoa, a1.one]
   rintro ⟨c', hc', hl', _⟩
   obtain rfl := hfit c' hc'
   have := List.filter_eq_nil_iff.1 hl' s (List.mem_of_getElem? hs)
   simp [h2] at this
 | zero =>
  have hi : i = c.must.length := by omega
  subst hi
  rw [List.take_length] at hpre
  simp [r3, r5, r7, regionL_some, regionL_none, a1.len, a1.one]
  refine WP_loop (fun k σ => ∃ (i : Nat) (r : Nat → R), i + k = e.attrs.length ∧ (∀ a ∈ e.attrs.take i, AttrFits c a) ∧ σ = ⟨r, 2 + i, H⟩ ∧ r 3 = .box 0 [vd, va] ∧ r 5 = .box 1 [.str c.name, w1, w2, w3] ∧ r 8 = .val (.int .i64 i)) ?_ e.attrs.length _ ⟨0, _, by omega, by simp, rfl, by simp [r3], by simp [r5], by simp⟩
  clear r3 r5 r7 r
  rintro k σ ⟨i, r, hik, hpre2, rfl, r3, r5, r8⟩
  cases k with
  | zero =>
   have hi : i = e.attrs.length := by omega
   subst hi
   rw [List.take_length] at hpre2
   simp [r3, r5, r8, ha.len, regionL_some, regionL_none, hoa]
   exact ⟨c, hc, List.filter_eq_nil_iff.2 fun t ht => by
    have := hpre t ht
    cases h : firstOf PAttr.name e.attrs t with
    | none => exact absurd h this
    | some _ => simp, hpre2, x, hx, hH⟩
  | succ k =>
   have hi : i < e.attrs.length := by omega
   obtain ⟨a, hs⟩ : ∃ a, e.attrs[i]? = some a := ⟨e.attrs[i], by simp [hi]⟩
   obtain ⟨id2, o2, w, f1, m1, m2, m3, aw, _⟩ := attrs_idx ha hs
   have hw : IntKind.i64.wrap ((i : Int) + 1) = ((i : Int) + 1) := wrap_i64 (by omega) (by omega)
   have d1 := jc (t := a.name) a1
   have d2 := jc (t := a.name) a2
   have d3 := jc (t := a.name) a3
   have hstep : AttrFits c a → ∀ t ∈ e.attrs.take (i + 1), AttrFits c t := fun h t ht => by
    rw [take_get hs] at ht
    rcases List.mem_append.1 ht with h' | h'
    ·exact hpre2 t h'
    ·obtain rfl := List.mem_singleton.1 h'
     exact h
   have hbad : ¬ AttrFits c a → ¬ FitsOk l e := by
    rintro h ⟨c', hc', _, hl', _⟩
    obtain rfl := hfit c' hc'
    exact h (hl' a (List.mem_of_getElem? hs))
   have hvl : (1 : Int) < (a.vals.length : Int) ↔ 1 < a.vals.length := by omega
   by_cases n1 : a.name = [99, 108, 97, 115, 115]
   ·by_cases n4 : 1 < a.vals.length
    ·by_cases n5 : a.name ∈ c.single
     ·rw [dec_pos n5] at d3
      rw [n1] at d1 d2 d3
      simp [r3, r5, r8, ha.len, hi, f1, m1, m2, m3, d1, d2, d3, aw.len, aw.one, hod, hoa, a1.one, a2.one, a3.one, hw, regionL_some, regionL_none, List.lookup, n1, n4, hvl]
      exact hbad fun h => h.2 ⟨n4, n5⟩
     ·rw [dec_neg n5] at d3
      rw [n1] at d1 d2 d3
      simp [r3, r5, r8, ha.len, hi, f1, m1, m2, m3, d1, d2, d3, aw.len, aw.one, hod, hoa, a1.one, a2.one, a3.one, hw, regionL_some, regionL_none, List.lookup, n1, n4, hvl]
      exact ⟨k, by omega, i + 1, by omega, hstep ⟨.inl n1, fun h => n5 h.2⟩, _, ⟨rfl, by omega⟩, by simp [r3], by simp [r5], by simp⟩
    ·rw [n1] at d1 d2 d3
     simp [r3, r5, r8, ha.len, hi, f1, m1, m2, m3, d1, d2, d3, aw.len, aw.one, hod, hoa, a1.one, a2.one, a3.one, hw, regionL_some, regionL_none, List.lookup, n1, n4, hvl]
     exact ⟨k, by omega, i + 1, by omega, hstep ⟨.inl n1, fun h => n4 h.1⟩, _, ⟨rfl, by omega⟩, by simp [r3], by simp [r5], by simp⟩
   by_cases n2 : a.name ∈ c.must
   ·rw [dec_pos n2] at d1
    by_cases n4 : 1 < a.vals.length
    ·by_cases n5 : a.name ∈ c.single
     ·rw [dec_pos n5] at d3
      simp [r3, r5, r8, ha.len, hi, f1, m1, m2, m3, d1, d2, d3, aw.len, aw.one, hod, hoa, a1.one, a2.one, a3.one, hw, regionL_some, regionL_none, List.lookup, n1, n4, hvl]
      exact hbad fun h => h.2 ⟨n4, n5⟩
     ·rw [dec_neg n5] at d3
      simp [r3, r5, r8, ha.len, hi, f1, m1, m2, m3, d1, d2, d3, aw.len, aw.one, hod, hoa, a1.one, a2.one, a3.one, hw, regionL_some, regionL_none, List.lookup, n1, n4, hvl]
      exact ⟨k, by omega, i + 1, by omega, hstep ⟨.inr (.inl n2), fun h => n5 h.2⟩, _, ⟨rfl, by omega⟩, by simp [r3], by simp [r5], by simp⟩
    ·simp [r3, r5, r8, ha.len, hi, f1, m1, m2, m3, d1, d2, d3, aw.len, aw.one, hod, hoa, a1.one, a2.one, a3.one, hw, regionL_some, regionL_none, List.lookup, n1, n4, hvl]
     exact ⟨k, by omega, i + 1, by omega, hstep ⟨.inr (.inl n2), fun h => n4 h.1⟩, _, ⟨rfl, by omega⟩, by simp [r3], by simp [r5], by simp⟩
   rw [dec_neg n2] at d1
   by_cases n3 : a.name ∈ c.may
   ·rw [dec_pos n3] at d2
    by_cases n4 : 1 < a.vals.length
    ·by_cases n5 : a.name ∈ c.single
     ·rw [dec_pos n5] at d3
      simp [r3, r5, r8, ha.len, hi, f1, m1, m2, m3, d1, d2, d3, aw.len, aw.one, hod, hoa, a1.one, a2.one, a3.one, hw, regionL_some, regionL_none, List.lookup, n1, n4, hvl]
      exact hbad fun h => h.2 ⟨n4, n5⟩
     ·rw [dec_neg n5] at d3
      simp [r3, r5, r8, ha.len, hi, f1, m1, m2, m3, d1, d2, d3, aw.len, aw.one, hod, hoa, a1.one, a2.one, a3.one, hw, regionL_some, regionL_none, List.lookup, n1, n4, hvl]
      exact ⟨k, by omega, i + 1, by omega, hstep ⟨.inr (.inr n3), fun h => n5 h.2⟩, _, ⟨rfl, by omega⟩, by simp [r3], by simp [r5], by simp⟩
    ·simp [r3, r5, r8, ha.len, hi, f1, m1, m2, m3, d1, d2, d3, aw.len, aw.one, hod, hoa, a1.one, a2.one, a3.one, hw, regionL_some, regionL_none, List.lookup, n1, n4, hvl]
     exact ⟨k, by omega, i + 1, by omega, hstep ⟨.inr (.inr n3), fun h => n4 h.1⟩, _, ⟨rfl, by omega⟩, by simp [r3], by simp [r5], by simp⟩
   ·rw [dec_neg n3] at d2
    simp [r3, r5, r8, ha.len, hi, f1, m1, m2, m3, d1, d2, d3, aw.len, aw.one, hod, hoa, a1.one, a2.one, a3.one, hw, regionL_some, regionL_none, List.lookup, n1, hvl]
    exact hbad fun h => by
     rcases h.1 with h | h | h
     ·exact n1 h
     ·exact n2 h
     ·exact n3 h
theorem Ar {H : List Ob} {vl vd va : V} {l : List PClass} {e : PEntry} (hl : AClasses H vl l) (hd : ARdns H vd e.dn) (ha : AAttrs H va e.attrs) (hdn : 0 < e.dn.length) :
  ∃ r : Int, callW C 102 [vl, .agg [vd, va]] H = some (.int .i64 r, H) ∧ (r = 0 ↔ FitsOk l e) := by
 obtain ⟨r, h1, h2, _⟩ := yu hl hd ha hdn
 exact ⟨r, h1, h2⟩
noncomputable abbrev keyE (e : PEntry) : Str := keyD e.dn
theorem GR {H : List Ob} {vs ve : V} {es : List PEntry} {t : Str} (h : AEntries H ve es) (hok : ∀ x ∈ es, DnOk x.dn) (ho : isOne vs = true ∧ cellsOf vs = some [vs]) :
  ∃ r : Int, callW C 104 [.agg [vs, ve], .str t] H = some (.int .i64 r, H) ∧ FirstAt keyE es t r := by
 suffices hs : Ret C 104 [.agg [vs, ve], .str t] H fun q H' => (∃ r : Int, q = .int .i64 r ∧ FirstAt keyE es t r) ∧ H' = H by
  obtain ⟨q, H', hc, ⟨r, rfl, hr⟩, rfl⟩ := hs
  exact ⟨r, hc, hr⟩
 rw [I7]
 have hb : es.length ≤ 9223372036854775807 := h.bound
 have hone := h.one
 simp [tJ, Tryz.f104, ho, hone]
 refine WP_loop (fun k σ => ∃ (i : Nat) (r : Nat → R), i + k = es.length ∧ σ = ⟨r, 1, H⟩ ∧ r 1 = .val (.str t) ∧ r 2 = .box 0 [vs, ve] ∧ r 5 = .val (.int .i64 i) ∧ ∀ j x, j < i → es[j]? = some x → keyE x ≠ t) ?_ es.length _ ⟨0, _, by simp, rfl, by simp, by simp, by simp, by simp⟩
 rintro k σ ⟨i, r, hik, rfl, r1, r2, r5, hall⟩
 cases k with
 | zero =>
  have hi : i = es.length := by omega
  subst hi
  have hx := at_all (P := fun j (x : PEntry) => keyE x ≠ t) hall
  simp [r1, r2, r5, h.len, hone]
  exact .inr ⟨hx, rfl⟩
 | succ k =>
  have hi : i < es.length := by omega
  obtain ⟨x, hx⟩ : ∃ c, es[i]? = some c := ⟨es[i], by simp [hi]⟩
  have hw : IntKind.i64.wrap ((i : Int) + 1) = ((i : Int) + 1) := wrap_i64 (by omega) (by omega)
  obtain ⟨id, o, w1, w2, e1, l0, _, _, a1, _⟩ := entries_idx h hx
  have c1 := qV a1 (hok x (List.mem_of_getElem? hx))
  by_cases g1 : keyD x.dn = t
  ·simp [r1, r2, r5, hi, h.len, e1, l0, c1, g1, hone]
   exact .inl ⟨i, x, hx, g1, hall, rfl⟩
  ·simp [r1, r2, r5, hi, h.len, e1, l0, c1, g1, hone, hw]
   exact ⟨k, by omega, i + 1, by omega, by omega, at_step (P := fun j (x : PEntry) => keyE x ≠ t) hall hx g1⟩
theorem mM {H : List Ob} {vs ve : V} {t : PTree} (hs : AClasses H vs t.schema) (h : AEntries H ve t.entries) : callW C 41 [.agg [vs, ve]] H = some (.bool (dec (TreeOk t)), H) := by
 apply Ret.dec
 rw [QK]
 have hos := hs.one
 have hoe := h.one
 have c1 := xw hs
 by_cases g1 : SchemaOk t.schema
 rotate_left
 ·rw [dec_neg g1] at c1
  simp [kF, Tryz.f41, hos, hoe, c1]
  exact fun h => g1 h.1
 rw [dec_pos g1] at c1
 by_cases g2 : 20 < t.entries.length
 ·have g2' : (20 : Int) < t.entries.length := by omega
  simp [kF, Tryz.f41, hos, hoe, c1, h.len, g2']
  exact fun h => by have := h.2.1.1; omega
 have g2' : ¬ (20 : Int) < t.entries.length := by omega
 simp [kF, Tryz.f41, hos, hoe, c1, h.len, g2']
 have hb : t.entries.length ≤ 20 := by omega
 refine WP_loop (fun k σ => ∃ (i : Nat) (r : Nat → R), i + k = t.entries.length ∧ σ = ⟨r, 1 + i, H⟩ ∧ r 1 = .box 0 [vs, ve] ∧ r 3 = .val (.int .i64 i) ∧ ∀ j x, j < i → t.entries[j]? = some x → EntryOk x ∧ FitsOk t.schema x ∧ PrevLt (fun e => keyD e.dn) t.entries j x) ?_ t.entries.length _ ⟨0, _, by omega, rfl, by simp, by simp, by simp⟩
 rintro k σ ⟨i, r, hik, rfl, r1, r3, hall⟩
 cases k with
 | zero =>
  have hi : i = t.entries.length := by omega
  subst hi
  have hE := at_all (P := fun j (x : PEntry) => EntryOk x ∧ FitsOk t.schema x ∧ PrevLt (fun e => keyD e.dn) t.entries j x) hall
  simp [r1, r3, h.len, hos, hoe]
  have hdn : ∀ x ∈ t.entries, DnOk x.dn := fun x hx => by
   obtain ⟨j, hj, rfl⟩ := List.getElem_of_mem hx
   exact (hE j _ (List.getElem?_eq_getElem hj)).1.2.1
  refine WP_loop (fun k σ => ∃ (i : Nat) (r : Nat → R), i + k = t.entries.length ∧ σ = ⟨r, 1 + t.entries.length, H⟩ ∧ r 1 = .box 0 [vs, ve] ∧ r 5 = .val (.int .i64 i) ∧ ∀ j x, j < i → t.entries[j]? = some x → ParentOk t.entries x.dn) ?_ t.entries.length _ ⟨0, _, by omega, rfl, by simp [r1], by simp, by simp⟩
  clear r1 r3 r
  rintro k σ ⟨i, r, hik, rfl, r1, r5, hall2⟩
  cases k with
  | zero =>
   have hi : i = t.entries.length := by omega
   subst hi
   have hP := at_all (P := fun j (x : PEntry) => ParentOk t.entries x.dn) hall2
   have hT : TreeOk t := ⟨g1, ⟨hb, hE⟩, fun x hx => by
    obtain ⟨j, hj, rfl⟩ := List.getElem_of_mem hx
    exact hP j _ (List.getElem?_eq_getElem hj)⟩
   simp [r1, r5, h.len, hos, hoe, hT]
  | succ k =>
   have hi : i < t.entries.length := by omega
   obtain ⟨x, hx⟩ : ∃ c, t.entries[i]? = some c := ⟨t.entries[i], by simp [hi]⟩
   have hw : IntKind.i64.wrap ((i : Int) + 1) = ((i : Int) + 1) := wrap_i64 (by omega) (by omega)
   obtain ⟨id, o, w1, w2, e1, l0, l1, lm, a1, a2, _⟩ := entries_idx h hx
   have ho1 := a1.one
   have hstep := fun h => at_step (P := fun j (x : PEntry) => ParentOk t.entries x.dn) hall2 hx h
   have hxd := hdn x (List.mem_of_getElem? hx)
   by_cases q1 : 1 < x.dn.length
   rotate_left
   ·have q1' : ¬ (1 : Int) < x.dn.length := by omega
    have := hstep (.inl (by omega))
    simp [r1, r5, hi, h.len, e1, l0, a1.len, q1', hos, hoe, ho1, hw, regionL_none, regionL_some, List.lookup]
    exact ⟨k, by omega, i + 1, by omega, by omega, this⟩
   have q1' : (1 : Int) < x.dn.length := by omega
   obtain ⟨idt, off, own, cells, hv, hcell, at_⟩ := rdns_tail a1 (by omega)
   have hst : strideIs H idt 2 = true := by simp [strideIs, hcell]
   have q1'' : 1 ≤ x.dn.length := by omega
   have c2 := qV at_ hxd.tail
   obtain ⟨q, c3, hq⟩ := GR (vs := vs) (t := keyD x.dn.tail) h hdn hos
   rcases hq.pos with ⟨k', y, h1, rfl, h2⟩ | ⟨rfl, h2⟩
   ·have hk : ¬ ((k' : Int) < 0) := by omega
    have hy : keyD y.dn = keyD x.dn.tail := by
     have := List.find?_some h2
     simpa using this
    have := hstep (.inr ⟨y, List.mem_of_getElem? h1, hy⟩)
    rw [hv] at l0 a1 ho1
    simp [r1, r5, hi, h.len, e1, l0, a1.len, q1', hos, hoe, hw, hst, q1'', c2, c3, hk, regionL_none, regionL_some, List.lookup]
    exact ⟨k, by omega, i + 1, by omega, by omega, this⟩
   ·have hn : ¬ TreeOk t := fun hd => by
     rcases hd.2.2 x (List.mem_of_getElem? hx) with h | ⟨y, hy, he⟩
     ·omega
     ·have := List.find?_eq_none.1 h2 y hy
      exact this (by simpa using he)
    rw [hv] at l0 a1 ho1
    simp [r1, r5, hi, h.len, e1, l0, a1.len, q1', hos, hoe, hw, hst, q1'', c2, c3, hn, regionL_none, regionL_some, List.lookup]
 | succ k =>
  have hi : i < t.entries.length := by omega
  obtain ⟨x, hx⟩ : ∃ c, t.entries[i]? = some c := ⟨t.entries[i], by simp [hi]⟩
  have hw : IntKind.i64.wrap ((i : Int) + 1) = ((i : Int) + 1) := wrap_i64 (by omega) (by omega)
  obtain ⟨id, o, w1, w2, e1, l0, l1, lm, a1, a2, _⟩ := entries_idx h hx
  have hid := fJ l0
  have c2 := qE a1 a2
  have hstep := fun h => at_step (P := fun j (x : PEntry) => EntryOk x ∧ FitsOk t.schema x ∧ PrevLt (fun e => keyD e.dn) t.entries j x) hall hx h
  have ho1 := a1.one
  have ho2 := a2.one
  by_cases q1 : EntryOk x
  rotate_left
  ·rw [dec_neg q1] at c2
   have hn : ¬ TreeOk t := fun hd => q1 (hd.2.1.2 i x hx).1
   simp [r1, r3, hi, h.len, e1, l0, l1, lm, hid, c2, hn, hos, hoe, ho1, ho2, regionL_none, regionL_some, List.lookup]
  rw [dec_pos q1] at c2
  obtain ⟨f, c3, hf⟩ := Ar hs a1 a2 q1.1
  by_cases q2 : FitsOk t.schema x
  rotate_left
  ·have hf0 : ¬ f = 0 := fun e => q2 (hf.1 e)
   have hn : ¬ TreeOk t := fun hd => q2 (hd.2.1.2 i x hx).2.1
   simp [r1, r3, hi, h.len, e1, l0, l1, lm, hid, c2, c3, hf0, hn, hos, hoe, ho1, ho2, regionL_none, regionL_some, List.lookup]
  have hf0 : f = 0 := hf.2 q2
  subst hf0
  by_cases hi0 : i = 0
  ·have := hstep ⟨q1, q2, fun y hy => by omega⟩
   subst hi0
   simp at e1
   simp [r1, r3, hi, h.len, e1, l0, l1, lm, hid, c2, c3, hos, hoe, ho1, ho2, regionL_none, regionL_some, List.lookup]
   exact ⟨k, by omega, 1, by omega, _, ⟨rfl, by omega⟩, by simp [r1], by simp, this⟩
  ·have hip : 0 < i := by omega
   obtain ⟨y, hy⟩ : ∃ c, t.entries[i - 1]? = some c := ⟨t.entries[i - 1]'(by omega), by simp⟩
   obtain ⟨id', o', w1', w2', e1', l0', _, _, a1', _⟩ := entries_idx h hy
   have hid' := fJ l0'
   have hyok := (hall (i - 1) y (by omega) hy).1
   have c4 := qV a1 q1.2.1
   have c5 := qV a1' hyok.2.1
   have hw1 : IntKind.i64.wrap ((i : Int) - 1) = ((i - 1 : Nat) : Int) := by rw [wrap_i64 (by omega) (by omega)]; omega
   by_cases q3 : LtS (keyD y.dn) (keyD x.dn)
   ·have := hstep ⟨q1, q2, fun z _ hz => by rw [hy] at hz; cases hz; exact q3⟩
    simp [r1, r3, hi, h.len, e1, l0, l1, lm, hid, hid', c2, c3, c4, c5, e1', l0', hw, hw1, hip, aQ q3, hos, hoe, ho1, ho2, regionL_none, regionL_some, List.lookup]
    exact ⟨k, by omega, i + 1, by omega, _, ⟨rfl, by omega⟩, by simp [r1], by simp, this⟩
   ·have hn : ¬ TreeOk t := fun hd => q3 ((hd.2.1.2 i x hx).2.2 y hip hy)
    simp [r1, r3, hi, h.len, e1, l0, l1, lm, hid, hid', c2, c3, c4, c5, e1', l0', hw, hw1, hip, aY q3, hos, hoe, ho1, ho2, regionL_none, regionL_some, List.lookup, hn]
theorem jF {cells xs : List V} {i : Nat} (h : i ≤ cells.length) : (setRange cells i xs).take i = cells.take i := by
 unfold setRange
 rw [List.append_assoc, List.take_append_of_le_length (by simp; omega), List.take_take, Nat.min_self]
theorem xW {G : List Ob} {id : Nat} {l : List Str} (h : G[id]? = some (.mk true 1 (l.map V.str))) (hl : l.length ≤ 1000000) (hs : ∀ s ∈ l, s.length ≤ maxLen) : AStrs G (.slc (some (id, 0)) l.length) l := by
 have := (Gs.strs (H := []) (G := G) (v := .slc (some (id, 0)) (l.map V.str).length) (l := l) ⟨G, id, rfl, by simp, h, rfl⟩ (by unfold maxLen; omega) hs).1
 simpa using this
theorem yj {G0 : List Ob} {id : Nat} {l : List Str} {g : Nat} {a b : List V} (p : Str → Bool) (h : G0[id]? = some (.mk true 1 (l.map V.str))) (hl : l.length ≤ 1000) (hs : ∀ s ∈ l, s.length ≤ maxLen)
  (hg : ∀ G' : List Ob, G'.length = G0.length → (∀ q, q ≠ id → G'[q]? = G0[q]?) → ∀ x, callW C g (a ++ ([.str x] ++ b)) G' = some (.bool (p x), G')) :
  ∃ G' k cs, callW C 312 [.slc (some (id, 0)) l.length, .fn g a b] G0 = some (.slc (some (id, 0)) k, G') ∧ G'.length = G0.length ∧ (∀ q, q ≠ id → G'[q]? = G0[q]?) ∧
   G'[id]? = some (.mk true 1 cs) ∧ cs.length = l.length ∧ k = (l.filter fun x => !p x).length ∧ cs.take k = (l.filter fun x => !p x).map V.str := by
 suffices hs : Ret C 312 [.slc (some (id, 0)) l.length, .fn g a b] G0 fun w G' => ∃ k cs, w = .slc (some (id, 0)) k ∧ G'.length = G0.length ∧ (∀ q, q ≠ id → G'[q]? = G0[q]?) ∧
   G'[id]? = some (.mk true 1 cs) ∧ cs.length = l.length ∧ k = (l.filter fun x => !p x).length ∧ cs.take k = (l.filter fun x => !p x).map V.str by
  obtain ⟨w, G', hc, k, cs, rfl, h1⟩ := hs
  exact ⟨G', k, cs, hc, h1⟩
 rw [BA]
 obtain ⟨r, c1, hr⟩ := dI (xW h (by omega) hs) p (fun x _ => hg G0 rfl (fun _ _ => rfl) x)
 rcases hr with ⟨k0, x0, hx0, hp0, hlt0, rfl⟩ | ⟨hn, rfl⟩
 rotate_left
 ·have hf : (l.filter fun x => !p x) = l := by
   rw [List.filter_eq_self]
   intro x hx
   obtain ⟨j, hj, rfl⟩ := List.getElem_of_mem hx
   rw [hn j _ (List.getElem?_eq_getElem hj)]
   rfl
  rw [hf]
  simp [gV, Tryz.f312, c1]
  exact ⟨l.map V.str, h, by simp, by rw [List.take_of_length_le (by simp)]⟩
 have hk0 : k0 < l.length := (List.getElem?_eq_some_iff.1 hx0).1
 have hm1 : ¬ ((k0 : Int) = -1) := by omega
 have hw0 : IntKind.i64.wrap ((k0 : Int) + 1) = (k0 : Int) + 1 := wrap_i64 (by omega) (by omega)
 have hpre : (l.take (k0 + 1)).filter (fun x => !p x) = l.take k0 := by
  rw [take_get hx0, List.filter_append]
  have : (l.take k0).filter (fun x => !p x) = l.take k0 := by
   rw [List.filter_eq_self]
   intro x hx
   obtain ⟨j, hj, rfl⟩ := List.getElem_of_mem hx
   simp at hj
   rw [List.getElem_take, hlt0 j _ (by omega) (List.getElem?_eq_getElem (by omega))]
   rfl
  rw [this]
  simp [hp0]
 simp [gV, Tryz.f312, c1, hm1, hw0]
 refine WP_loop (fun m σ => ∃ (i j : Nat) (r : Nat → R) (G : List Ob) (cs : List Str), j + m = l.length ∧ σ = ⟨r, 0, G⟩ ∧ r 0 = .val (.slc (some (id, 0)) l.length) ∧ r 1 = .val (.fn g a b) ∧ r 5 = .val (.int .i64 i) ∧ r 6 = .val (.int .i64 j) ∧ i < j ∧ G.length = G0.length ∧ (∀ q, q ≠ id → G[q]? = G0[q]?) ∧
  G[id]? = some (.mk true 1 (cs.map V.str)) ∧ cs.length = l.length ∧ i = ((l.take j).filter fun x => !p x).length ∧ cs.take i = (l.take j).filter (fun x => !p x) ∧ cs.drop j = l.drop j) ?_ (l.length - (k0 + 1)) _
  ⟨k0, k0 + 1, _, G0, l, by omega, rfl, by simp, by simp, by simp, by simp, by omega, rfl, fun _ _ => rfl, h, rfl, by rw [hpre]; simp; omega, by rw [hpre], rfl⟩
 clear hm1 hw0
 rintro m σ ⟨i, j, r, G, cs, hjm, rfl, r0, r1, r5, r6, hij, hG1, hG2, hG3, hcs, hi, htk, hdr⟩
 have hid : id < G.length := (List.getElem?_eq_some_iff.1 hG3).1
 have hst : strideIs G id 1 = true := by simp [strideIs, hG3]
 cases m with
 | zero =>
  have hj : j = l.length := by omega
  subst hj
  rw [List.take_length] at hi htk
  have hil : i ≤ l.length := by omega
  have hnz : ¬ (l.length - i = 0) := by omega
  have hwa : ∀ r c, writeAt ⟨r, c, G⟩ (.hp id i) (zerosL aZ (l.length - i)) = some ⟨r, c, G.set id (.mk true 1 (setRange (cs.map V.str) i (zerosL aZ (l.length - i))))⟩ := by
   intro r c
   simp only [writeAt, hG3]
   rw [if_pos (by rw [df, List.length_map]; omega)]
  have hst2 : ∀ o, strideIs (G.set id (.mk true 1 o)) id 1 = true := fun o => by simp [strideIs, hid]
  have hgl : ∀ o w, gcH G0 (G.set id o) w = G.set id o := fun o w => lK (by rw [List.length_set]; exact hG1)
  simp [r0, r1, r5, r6, hil, hst, elemT, hnz, hwa, hst2, hgl, -setRange]
  refine ⟨hG1, fun q hq => by rw [List.getElem?_set_ne (Ne.symm hq)]; exact hG2 q hq, setRange (cs.map V.str) i (zerosL aZ (l.length - i)), by simp [hid, -setRange], by rw [setRange_len (by rw [df, List.length_map]; omega), List.length_map, hcs], hi, ?_⟩
  rw [jF (by rw [List.length_map]; omega), ← List.map_take, htk]
 | succ m =>
  have hj : j < l.length := by omega
  obtain ⟨x, hx⟩ : ∃ x, l[j]? = some x := ⟨l[j], List.getElem?_eq_getElem hj⟩
  have hxc : cs[j]? = some x := by
   have := congrArg (fun l => l[0]?) hdr
   simpa [hx] using this
  have ld := load1 (o := j) (v := .str x) hG3 (by simp [hxc])
  have c2 := hg G hG1 hG2 x
  simp only [List.singleton_append] at c2
  have hw : IntKind.i64.wrap ((j : Int) + 1) = (j : Int) + 1 := wrap_i64 (by omega) (by omega)
  have hw2 : IntKind.i64.wrap ((i : Int) + 1) = (i : Int) + 1 := wrap_i64 (by omega) (by omega)
  have hil : i < l.length := by omega
  have hdr' : cs.drop (j + 1) = l.drop (j + 1) := by
   have := congrArg (List.drop 1) hdr
   simpa [List.drop_drop, Nat.add_comm] using this
  have hft := nP hx fun x => !p x
  cases hp : p x with
  | true =>
   rw [hp] at c2 hft
   simp at hft
   simp [r0, r1, r5, r6, hj, ld, c2, hw]
   exact ⟨m, by omega, i, j + 1, by omega, _, G, ⟨rfl, rfl⟩, by simp [r0], by simp [r1], by simp [r5], by simp, by omega, hG1, hG2, cs, hG3, hcs, by rw [hft]; exact hi, by rw [hft]; exact htk, hdr'⟩
  | false =>
   rw [hp] at c2 hft
   simp at hft
   have st := store1 (v := .str x) (o := i) hG3 (by simp; omega) rfl rfl
   simp [r0, r1, r5, r6, hj, hil, ld, c2, hw, hw2, st]
   refine ⟨m, by omega, i + 1, j + 1, by omega, _, _, ⟨rfl, rfl⟩, by simp [r0], by simp [r1], by simp, by simp, by omega, by simpa using hG1, fun q hq => by rw [List.getElem?_set_ne (Ne.symm hq)]; exact hG2 q hq, cs.set i x, by rw [List.getElem?_set_self hid, List.map_set], by simpa using hcs, ?_, ?_, ?_⟩
   ·rw [hft, List.length_append, ← hi]; rfl
   ·rw [hft, ← htk, List.take_add_one, List.getElem?_set_self (by omega), List.take_set, List.set_eq_of_length_le (by simp; omega)]
    rfl
   ·rw [List.drop_set_of_lt (by omega)]; exact hdr'
theorem xN {G : List Ob} {id k : Nat} {cs : List V} {l : List Str} (h : G[id]? = some (.mk true 1 cs)) (hk : k = l.length) (hc : cs.take k = l.map V.str) (hl : l.length ≤ maxLen) (hs : ∀ s ∈ l, s.length ≤ maxLen) : AtF G (.slice .str) [.slc (some (id, 0)) k] (.lst (l.map strU)) [id] := by
 have hlen : k ≤ cs.length := by
  have := congrArg List.length hc
  simp at this
  omega
 refine AtF_slice.2 ⟨_, _, rfl, rfl, by simpa using hl, .inr ⟨id, 0, cs, List.replicate l.length [], by simp [hk], h, by simp; omega, by simp, by simp, fun i x F hx hF => ?_⟩⟩
 rw [List.getElem?_map] at hx
 obtain ⟨s, hs', rfl⟩ := Option.map_eq_some_iff.1 hx
 have hi : i < l.length := (List.getElem?_eq_some_iff.1 hs').1
 rw [List.getElem?_replicate, if_pos hi] at hF
 cases hF
 refine AtF_str.2 ⟨⟨s, ?_, rfl, hs s (List.mem_of_getElem? hs')⟩, rfl⟩
 have h1 : cs[i]? = some (.str s) := by
  have := congrArg (fun l => l[i]?) hc
  simp only [List.getElem?_take_of_lt (show i < k by omega), List.getElem?_map, hs'] at this
  exact this
 obtain ⟨hi2, h1⟩ := List.getElem?_eq_some_iff.1 h1
 rw [Sh.size_str, Nat.zero_add, Nat.mul_one, List.drop_eq_getElem_cons hi2, h1]
 rfl
def Back (H G : List Ob) (w : V) (l : List Str) : Prop := ∃ F, AtF G (.slice .str) [w] (.lst (l.map strU)) F ∧ F.Nodup ∧ ∀ q ∈ F, H.length ≤ q
theorem Back.nil {H G : List Ob} : Back H G (.slc none 0) [] := ⟨[], AtF_slice.2 ⟨_, _, rfl, rfl, by simp, .inl ⟨rfl, rfl, rfl⟩⟩, by simp, by simp⟩
theorem vO {H : List Ob} {ide : Nat} {own : Bool} {es : Nat} {vd va w1 w2 w3 : V} {c : PClass} {as' : List PAttr} (he : H[ide]? = some (.mk own es [vd, va])) (h : AAttrs H va as') (hl : as'.length ≤ 1000) (hp : as'.Pairwise fun a b => a.name < b.name)
  (h1 : AStrs H w1 c.must) (o2 : isOne w2 = true ∧ cellsOf w2 = some [w2]) (o3 : isOne w3 = true ∧ cellsOf w3 = some [w3]) (hm : c.must.length ≤ 1000) :
  ∃ T w, callW C 268 [.agg [.str c.name, w1, w2, w3], .ptr (some (ide, 0))] H = some (w, H ++ T) ∧ Back H (H ++ T) w (c.must.filter fun t => !decide (0 < (valsOf as' t).length)) := by
 suffices hs : Ret C 268 [.agg [.str c.name, w1, w2, w3], .ptr (some (ide, 0))] H fun q H' => ∃ T, H' = H ++ T ∧ Back H (H ++ T) q (c.must.filter fun t => !decide (0 < (valsOf as' t).length)) by
  obtain ⟨q, H', hc, T, rfl, hr⟩ := hs
  exact ⟨T, q, hc, hr⟩
 rw [Eg]
 have hide : ide < H.length := (List.getElem?_eq_some_iff.1 he).1
 obtain ⟨T, w, c1, hown⟩ := qO (h1.ext (T := [.mk true 1 [.ptr (some (ide, 0))]])) (by omega)
 rcases hown with ⟨rfl, hm0⟩ | ⟨T', id', hT, g1, g2, rfl⟩
 ·have c2 : callW C 312 [.slc none 0, .fn 313 [] [.ptr (some (H.length, 0))]] (H ++ [.mk true 1 [.ptr (some (ide, 0))]] ++ T) = some (.slc none 0, H ++ [.mk true 1 [.ptr (some (ide, 0))]] ++ T) := by
   obtain ⟨r, c3, hr⟩ := dI (H := H ++ [.mk true 1 [.ptr (some (ide, 0))]] ++ T) (v := .slc none 0) (l := []) (g := 313) (a := []) (b := [.ptr (some (H.length, 0))]) (At_slice.2 ⟨_, _, rfl, rfl, by simp, .inl ⟨rfl, rfl⟩⟩) (fun _ => false) (fun x hx => by cases hx)
   have hr1 : r = -1 := by
    rcases hr with ⟨k, x, hx, _⟩ | ⟨_, rfl⟩
    ·simp at hx
    ·rfl
   subst hr1
   simp only [List.append_assoc, List.cons_append, List.nil_append] at c3 ⊢
   apply Ret.eq
   rw [BA]
   simp [gV, Tryz.f312, c3]
  simp only [List.append_assoc, List.cons_append, List.nil_append] at c1 c2
  have hgn : gcH H (H ++ .mk true 1 [.ptr (some (ide, 0))] :: T) (.slc none 0) = H := gcH_low trivial
  simp [kX, Tryz.f268, strideOf, c1, c2, h1.one, o2, o3, hm0, hgn]
  exact Back.nil
 ·have hT' := List.append_cancel_left hT
  subst hT'
  rw [List.length_map] at c1
  have hob : (H ++ [.mk true 1 [.ptr (some (ide, 0))]] ++ T)[H.length]? = some (.mk true 1 [.ptr (some (ide, 0))]) := by rw [List.append_assoc]; simp
  have hg1 : H.length + 1 ≤ id' := by simpa using g1
  obtain ⟨G', k, cs, c2, k1, k2, k3, k4, k5, k6⟩ := yj (g := 313) (a := []) (b := [.ptr (some (H.length, 0))]) (fun t => decide (0 < (valsOf as' t).length)) g2 hm (bU h1) (fun G' e1 e2 x => by
   have hup : ∀ (q : Nat) o, H[q]? = some o → G'[q]? = some o := fun q o hq => by
    have := (List.getElem?_eq_some_iff.1 hq).1
    rw [e2 q (by omega), List.append_assoc]
    exact up_append _ _ hq
   exact zB (hup _ _ he) (by rw [e2 _ (by omega)]; exact hob) (h.up hup) hl hp)
  obtain ⟨T2, rfl⟩ : ∃ T2, G' = H ++ T2 := gB (fun q hq => by
   rw [k2 q (by omega), List.append_assoc, List.getElem?_append_left hq]) (by rw [k1, List.append_assoc]; simp)
  have hgc : ∀ n, gcH H (H ++ T2) (.slc (some (id', 0)) n) = H ++ T2 := fun n => by
   unfold gcH
   rw [if_neg]
   rintro ⟨_, own, es, cells, h⟩
   have := (List.getElem?_eq_some_iff.1 h).1
   omega
  have hF := xN k3 k5 k6 (by have := List.length_filter_le (fun t => !decide (0 < (valsOf as' t).length)) c.must; unfold maxLen; omega) (fun s hs => bU h1 s (List.mem_filter.1 hs).1)
  simp only [List.append_assoc, List.cons_append, List.nil_append] at c1 c2
  simp [kX, Tryz.f268, strideOf, c1, c2, h1.one, o2, o3, hgc]
  exact ⟨_, by simpa using hF, by simp, by simp; omega⟩
end Go.Proofs.Try1
end
