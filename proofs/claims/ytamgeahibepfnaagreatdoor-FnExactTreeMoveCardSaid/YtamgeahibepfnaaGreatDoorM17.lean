/- Part 17 of the proof of a law: the interpreter, its soundness, and what functions of the program compute over it. Conditions: none but those that each theorem names. -/
import Derived.Test.YtamgeahibepfnaaGreatDoorM06
import Derived.Test.YtamgeahibepfnaaGreatDoorM16
import Derived.Shelf.Spec.SlicesInsertGrow
import Derived.Test.YtamgeahibepfnaaGreatDoorProg
import Derived.Shelf.SlSortCmp.NoneTotal
import Derived.Shelf.SlGeneric
import Derived.Shelf.SlLaysF
import Derived.Shelf.Slices.In.SortAlone
import Derived.Ground.SlsfProg
import Derived.Ground.NamesProg
import Derived.Test.YtamgeahibepfnaaGreatDoorM14
import Derived.Shelf.SlSortCmp.Whole1
import Derived.Shelf.Slices.In.SortNone
import Derived.Test.YtamgeahibepfnaaGreatDoorM07

set_option linter.all false
set_option maxRecDepth 20000
set_option maxHeartbeats 40000000
section
namespace Go.Lite
open Go Go.Lib Go.Shelf
variable [Draws]
theorem CellsAt.vals {μ : Mu} {w : World} {b : Nat} : ∀ {xs : List V} {o : Nat}, CellsAt μ w b o xs → ∃ us : List Value, VL μ xs us ∧ ∀ (j : Nat) (u : Value), us[j]? = some u → w.cell? ⟨b, o + j, none⟩ = some u
 | [], o, _ => ⟨[], .nil, fun j u h => by simp at h⟩
 | x :: xs, o, h => by
  obtain ⟨u, h1, h2⟩ := h 0 x rfl
  obtain ⟨us, h3, h4⟩ := CellsAt.vals (xs := xs) (o := o + 1) (fun j v hv => by
   obtain ⟨u, k1, k2⟩ := h (j + 1) v (by simpa using hv)
   exact ⟨u, by rw [← k1]; congr 2; omega, k2⟩)
  refine ⟨u :: us, .cons h2 h3, fun j u' hj => ?_⟩
  cases j with
  | zero => cases hj; exact h1
  | succ j =>
   have := h4 j u' (by simpa using hj)
   rw [← this]; congr 2; omega
theorem CellsAt.part {μ : Mu} {w : World} {b o off n : Nat} {xs : List V} (h : CellsAt μ w b o xs) : CellsAt μ w b (o + off) ((xs.drop off).take n) := by
 intro j v hv
 rw [List.getElem?_take] at hv
 split at hv
 ·rw [List.getElem?_drop] at hv
  obtain ⟨u, h1, h2⟩ := h _ v hv
  exact ⟨u, by rw [← h1, Nat.add_assoc], h2⟩
 ·cases hv
theorem iO {w : World} {b o : Nat} {us : List Value} (h : FreeAt w b o (o + us.length)) (h1 : ∀ u ∈ us, u.oneCell' = true) : Wrote w (w.setCells b o us) b o us := by
 obtain ⟨w', hr, hw⟩ := dQ (P := default) b us o 0 w h1 h
 have h2 := run_storeCells_cells (P := default) b o us 0 w (fun j hj => by
  obtain ⟨⟨u, h3⟩, _⟩ := h (o + j) (by omega) (by omega)
  simp [h3]) (fun j hj => by simpa using (h (o + j) (by omega) (by omega)).2) h1
 rw [hr] at h2
 simp only [Nat.add_zero] at h2 hw
 cases h2
 exact hw
theorem Wrote.both {w w1 w2 : World} {b o : Nat} {us1 us2 : List Value} (h1 : Wrote w w1 b (o + us1.length) us2) (h2 : Wrote w1 w2 b o us1) : Wrote w w2 b o (us1 ++ us2) where
 size := h2.size.trans h1.size
 os := h2.os.trans h1.os
 tape := h2.tape.trans h1.tape
 drawn := h2.drawn.trans h1.drawn
 output := h2.output.trans h1.output
 other b' hb := (h2.other b' hb).trans (h1.other b' hb)
 frozen j := (h2.frozen j).trans (h1.frozen j)
 cell j := by
  rw [h2.cell, h1.cell, List.length_append]
  by_cases c1 : o ≤ j ∧ j < o + us1.length
  ·rw [if_pos c1, if_pos (by omega), List.getElem?_append_left (by omega)]
  ·rw [if_neg c1]
   by_cases c2 : o + us1.length ≤ j ∧ j < o + us1.length + us2.length
   ·rw [if_pos c2, if_pos (by omega), List.getElem?_append_right (by omega)]
    congr 1; omega
   ·rw [if_neg c2, if_neg (by omega)]
theorem VL.zeros {μ : Mu} {z : List V} {zV : Value} (h : VL μ z zV.cells.toList) (h0 : 0 < z.length) (n : Nat) :
  ∃ zs, VL μ zs (Builtin.zeroCells zV.cells n).toList ∧ zs.length = n * z.length := by
 have hl := h.length
 simp only [Array.length_toList] at hl
 refine ⟨(List.range (n * zV.cells.size)).map fun i => z.getD (i % zV.cells.size) .nilfn, VL.of_get (by simp [Builtin.zeroCells]) fun i v u h1 h2 => ?_, by simp [hl]⟩
 have hi : i < n * zV.cells.size := by have := (List.getElem?_eq_some_iff.1 h1).1; simpa using this
 have hm : i % zV.cells.size < zV.cells.size := Nat.mod_lt _ (by omega)
 simp only [Builtin.zeroCells] at h2
 simp [hi] at h1 h2
 subst h1; subst h2
 refine h.get (i % zV.cells.size) _ _ ?_ ?_
 ·rw [List.getElem?_eq_getElem (by omega)]; simp
 ·simp [hm]
theorem AC {w : World} {b lo hi : Nat} (h : FreeAt w b lo hi) (h1 : lo < hi) (he : EndB w b) : ∃ t k, w.shape? b = some (t, k) ∧ k ≠ 0 ∧ w.frozen? ⟨b, k, none⟩ = false := by
 obtain ⟨⟨u, hu⟩, _⟩ := h lo (Nat.le_refl _) h1
 cases ho : w.heap[b]? with
 | none => simp [World.cell?, ho] at hu
 | some o =>
  cases o <;> simp [World.cell?, ho] at hu
  rename_i cs t fz
  have hlo : lo < cs.size := by
   by_cases c : lo < cs.size
   ·exact c
   ·rw [Array.getElem?_eq_none (by omega)] at hu; cases hu
  refine ⟨t, cs.size, by simp [World.shape?, ho], by omega, he _ ?_⟩
  simp [World.cell?, ho]
theorem xy (zV : Value) (n : Nat) : (Builtin.zeroCells zV.cells n).size = n * zV.cells.size := by
 simp [Builtin.zeroCells]
theorem EndB.free {w : World} {b lo hi : Nat} (h : FreeAt w b lo hi) : ∀ j, lo ≤ j → j < hi → (w.cell? ⟨b, j, none⟩).isSome = true ∧ w.frozen? ⟨b, j, none⟩ = false := fun j h1 h2 => by
 obtain ⟨⟨u, hu⟩, hf⟩ := h j h1 h2
 exact ⟨by rw [hu]; rfl, hf⟩
theorem sW {P : Program} {g : FuncId} {T : TypeId} {zV : Value} {z : List V} {bytes : Nat} (hz : ∀ μ, VL μ z zV.cells.toList) (hz2 : z.length = 2) (hby : bytes ≤ 1000) (hcall : ∀ us w, (callFunc g us).run P w = .ok (.enter g us) w)
  (hshift : ∀ (b off n c i vb vo vc : Nat) (cs vs : List Value) (w : World) (_ : i < n) (_ : n + 1 ≤ c) (_ : n ≤ 1000000) (_ : vb ≠ b) (_ : cs.length = n * 2) (_ : vs.length = 2)
   (_ : ∀ (j : Nat) v, cs[j]? = some v → w.cell? ⟨b, off + j, none⟩ = some v) (_ : ∀ j, j < (n + 1) * 2 → (w.cell? ⟨b, off + j, none⟩).isSome = true) (_ : ∀ j, j < (n + 1) * 2 → w.frozen? ⟨b, off + j, none⟩ = false)
   (_ : ∀ (j : Nat) v, vs[j]? = some v → w.cell? ⟨vb, vo + j, none⟩ = some v) (_ : ∀ v ∈ cs, v.oneCell' = true) (_ : ∀ v ∈ vs, v.oneCell' = true)
   (tA tB : TypeId) (kA kB : Nat) (_ : w.shape? vb = some (tA, kA)) (_ : w.shape? b = some (tB, kB)) (_ : kB ≠ 0) (_ : w.frozen? ⟨vb, vo, none⟩ = false) (_ : w.frozen? ⟨vb, kA, none⟩ = false),
   Calls P g #[.slice (some ⟨b, off, none⟩) n c, .int .i64 i, .slice (some ⟨vb, vo, none⟩) 1 vc] w fun e w' =>
    e = .returned (.slice (some ⟨b, off, none⟩) (n + 1) c) ∧ w' = (w.drew.setCells b (off + (i + 1) * 2) (cs.drop (i * 2))).setCells b (off + i * 2) vs)
  (hendR : ∀ (b off n c vb vo vc : Nat) (vs : List Value) (w : World) (_ : n + 1 ≤ c) (_ : n ≤ 1000000) (_ : vs.length = 2) (_ : ∀ j, j < 2 → (w.cell? ⟨b, off + n * 2 + j, none⟩).isSome = true) (_ : ∀ j, j < 2 → w.frozen? ⟨b, off + n * 2 + j, none⟩ = false)
   (_ : ∀ (j : Nat) v, vs[j]? = some v → w.cell? ⟨vb, vo + j, none⟩ = some v) (_ : ∀ v ∈ vs, v.oneCell' = true),
   Calls P g #[.slice (some ⟨b, off, none⟩) n c, .int .i64 n, .slice (some ⟨vb, vo, none⟩) 1 vc] w fun e w' =>
    e = .returned (.slice (some ⟨b, off, none⟩) (n + 1) c) ∧ w' = w.setCells b (off + n * 2) vs)
  (hendG : ∀ (base : Option Addr) (n c vb vo vc : Nat) (cs vs : List Value) (w : World) (_ : n ≤ c) (_ : c < n + 1) (_ : (n + 1) * bytes ≤ 140737488355328) (_ : cs.length = n * 2) (_ : vs.length = 2) (_ : base = none → n = 0)
   (_ : ∀ a, base = some a → ∀ (j : Nat) v, cs[j]? = some v → w.cell? (a.add j) = some v) (_ : ∀ (j : Nat) v, vs[j]? = some v → w.cell? ⟨vb, vo + j, none⟩ = some v) (_ : ∀ v ∈ vs, v.oneCell' = true),
   Calls P g #[.slice base n c, .int .i64 n, .slice (some ⟨vb, vo, none⟩) 1 vc] w fun e w' =>
    e = .returned (.slice (some ⟨w.heap.size, 0, none⟩) (n + 1) (grownCap w (n + 1) c T)) ∧
    w' = w.drew.alloc (.cells ((cs ++ vs).toArray ++ Builtin.zeroCells zV.cells (grownCap w (n + 1) c T - (n + 1))) T))
  (hgrow : ∀ (b off n c i vb vo vc : Nat) (cs vs : List Value) (w : World) (_ : i < n) (_ : n ≤ c) (_ : c < n + 1) (_ : (n + 1) * bytes ≤ 140737488355328) (_ : cs.length = n * 2) (_ : vs.length = 2)
   (_ : ∀ (j : Nat) v, cs[j]? = some v → w.cell? ⟨b, off + j, none⟩ = some v) (_ : ∀ (j : Nat) v, vs[j]? = some v → w.cell? ⟨vb, vo + j, none⟩ = some v) (_ : ∀ v ∈ cs, v.oneCell' = true) (_ : ∀ v ∈ vs, v.oneCell' = true),
   Calls P g #[.slice (some ⟨b, off, none⟩) n c, .int .i64 i, .slice (some ⟨vb, vo, none⟩) 1 vc] w fun e w' =>
    e = .returned (.slice (some ⟨w.heap.size, 0, none⟩) (n + 1) (grownCap w (n + 1) c T)) ∧
    w' = (((w.alloc (.cells ((cs.take (i * 2)).toArray ++ Builtin.zeroCells zV.cells (n + 1 - i) ++ Builtin.zeroCells zV.cells (grownCap w (n + 1) c T - (n + 1))) T)).drew.setCells w.heap.size (i * 2) vs).drew).setCells w.heap.size ((i + 1) * 2) (cs.drop (i * 2))) :
  jT P g (fG 2) := by
 intro args H r H' h μ w us hs hv
 refine .inr ⟨hcall _ _, ?_⟩
 unfold fG at h
 split at h
 case h_2 => cases h
 rename_i p n i idv
 split at h
 case h_2 => cases h
 rename_i es' xs hov
 split at h
 case isFalse => cases h
 rename_i hc
 obtain ⟨rfl, hxl, hi0, hin, hn, hone⟩ := hc
 obtain ⟨u, u2, u3, rfl, hu, hu2, hu3⟩ : ∃ u u2 u3, us = #[u, u2, u3] ∧ VR μ (.slc p n) u ∧ VR μ (.int .i64 i) u2 ∧ VR μ (.slc (some (idv, 0)) 1) u3 := by
  have hl := hv.length
  match us, hl, hv with
  | ⟨[a, b, c]⟩, _, hv => exact ⟨a, b, c, rfl, hv.get 0 _ _ rfl rfl, hv.get 1 _ _ rfl rfl, hv.get 2 _ _ rfl rfl⟩
 obtain ⟨i, rfl⟩ : ∃ k : Nat, i = k := ⟨i.toNat, by omega⟩
 have hin : i ≤ n := by omega
 obtain rfl : u2 = .int .i64 i := by cases hu2; rfl
 obtain ⟨mv, hmv, ⟨vc, hvc1, hvc2, hvc3, rfl⟩ | ⟨h0, _⟩⟩ := hu3.slc_inv
 rotate_left
 ·cases h0
 obtain ⟨v1, v2, v3, v4, v5, v6⟩ := hs.obj idv _ mv hov hmv
 obtain ⟨v6, v7⟩ := v6 rfl
 simp only [Nat.add_zero] at hvc2 ⊢
 obtain ⟨vs, hvl, hvs⟩ := CellsAt.vals v4
 have hvsl : vs.length = 2 := by rw [← hvl.length, hxl]
 have h1v := hvl.oneCell hone
 have hzs : zV.cells.size = 2 := by
  have := (hz μ).length
  simp at this
  omega
 have hbig : (n + 1) * bytes ≤ 140737488355328 := Nat.le_trans (Nat.mul_le_mul (show n + 1 ≤ 1000001 by omega) hby) (by decide)
 have atEnd : ∀ (base : Option Addr) (c : Nat) (ys : List V) (cs : List Value) (Hd : List Ob) (hk : HGoes H μ w Hd μ w) (hHd : Hd.length = H.length), i = n → n ≤ c → c < n + 1 → VL μ ys cs → cs.length = n * 2 → (base = none → n = 0) → (∀ a, base = some a → ∀ (j : Nat) v, cs[j]? = some v → w.cell? (a.add j) = some v) →
   Calls P g #[.slice base n c, .int .i64 i, .slice (some ⟨mv.blk, mv.base, none⟩) 1 vc] w fun e w' => ∃ u, e = .returned u ∧ ∃ μ', HGoes H μ w (Hd ++ [.mk true 2 (ys ++ xs)]) μ' w' ∧ VR μ' (.slc (some (H.length, 0)) (n + 1)) u := by
  intro base c ys cs Hd hk hHd e1 hnc hcn hyl hcl hb0 hbc
  subst e1
  refine (hendG base i c mv.blk mv.base vc cs vs w hnc hcn hbig hcl hvsl hb0 hbc hvs h1v).mono ?_
  rintro e w' ⟨rfl, rfl⟩
  have hG := grownCap_ge w (i + 1) c T
  generalize grownCap w (i + 1) c T = G at hG
  obtain ⟨US, hUS⟩ : ∃ US, US = (cs ++ vs).toArray ++ Builtin.zeroCells zV.cells (G - (i + 1)) := ⟨_, rfl⟩
  have hUSl : US.size = G * 2 := by rw [hUS, Array.size_append, xy, hzs]; simp [hcl, hvsl]; omega
  have hyl2 := hyl.length
  have hgo := HGoes.new (es := 2) (w' := w.drew.alloc (.cells US T)) (fz := (0, 0)) hk.sim (cells := ys ++ xs) (us := US) (ty := T) (by
    have : US.toList.take (ys ++ xs).length = cs ++ vs := by
     rw [hUS, Array.toList_append, List.take_append_of_le_length (by simp; omega), List.take_of_length_le (by simp; omega)]
    rw [this]; exact hyl.append hvl) (by rw [hUSl]; simp; omega) rfl (.inr (Nat.le_refl _)) rfl rfl rfl
  rw [← hUS]
  refine ⟨_, rfl, _, hk.trans hgo, ?_⟩
  rw [hHd]
  have := VR.slc (μ := μ.add H.length ⟨w.heap.size, 0, (ys ++ xs).length, 2, US.size, true⟩) H.length 0 (i + 1) G ⟨w.heap.size, 0, (ys ++ xs).length, 2, US.size, true⟩
   (Mu.add_self _ _ _) hG (fun _ => by simp only [hUSl]; omega) (by simp only [Nat.zero_add, List.length_append]; omega)
  simpa using this
 cases p with
 | none =>
  simp only [] at h
  split at h
  case isFalse => cases h
  rename_i hn0
  subst hn0
  cases h
  obtain ⟨rfl, _⟩ := hu.slcN_inv
  exact atEnd none 0 [] [] H (.refl hs) rfl (by omega) (Nat.le_refl _) (by omega) .nil rfl (fun _ => rfl) (fun a h => by cases h)
 | some p =>
  obtain ⟨id, off⟩ := p
  simp only [] at h
  split at h
  case h_2 => cases h
  rename_i es'' cells ho
  split at h
  case isFalse => cases h
  rename_i hc
  obtain ⟨rfl, hne, hlen, honec⟩ := hc
  cases h
  obtain ⟨m, hm, hcase⟩ := hu.slc_inv
  obtain ⟨g1, g2, g3, g4, g5, g6⟩ := hs.obj id _ m ho hm
  obtain ⟨g6, g7⟩ := g6 rfl
  have hblk : m.blk ≠ mv.blk := hs.sep id idv _ _ m mv hne ho hov hm hmv rfl rfl
  obtain ⟨cs, hcl, hcs⟩ := CellsAt.vals (g4.part (off := off) (n := n * 2))
  have hDl : ((cells.drop off).take (n * 2)).length = n * 2 := by simp; omega
  have hcsl : cs.length = n * 2 := by rw [← hcl.length, hDl]
  have h1c := hcl.oneCell honec
  have hHl : (H.set id .dead).length = H.length := by simp
  have hk := HGoes.kill hs id
  obtain ⟨D, hD⟩ : ∃ D, D = (cells.drop off).take (n * 2) := ⟨_, rfl⟩
  rw [← hD] at hcl hDl
  have hDi : (cells.drop off).take (i * 2) = D.take (i * 2) := by rw [hD, List.take_take, Nat.min_eq_left (by omega)]
  rw [Int.toNat_natCast, hDi, ← hD]
  have hxs2 : D.drop (n * 2) = [] := List.drop_of_length_le (by omega)
  have hxs3 : D.take (n * 2) = D := List.take_of_length_le (by omega)
  rcases hcase with ⟨c, hnc, hr, hre, rfl⟩ | ⟨rfl, hre, ad, rfl⟩
  ·have hr := hr g1.symm
   have hr2 : m.base + off + c * 2 ≤ m.size := by rw [← g2] at hr; exact hr
   by_cases hroom : n + 1 ≤ c
   ·-- in place
    have hfree : FreeAt w m.blk (m.base + off) (m.base + off + (n + 1) * 2) := g7.mono (by omega) (by omega)
    obtain ⟨vt, vk, s1, s2, s3⟩ := AC v7 (by omega) (hs.plain _ _ _ _ hov hmv (by decide))
    obtain ⟨bt, bk, t1, t2, t3⟩ := AC hfree (by omega) (hs.plain _ _ _ _ ho hm (by decide))
    have hfr := EndB.free hfree
    have goes : ∀ (W W' : World), HGoes H μ w H μ W → (∀ x, W.cell? x = w.cell? x) → (∀ x, W.frozen? x = w.frozen? x) → W.heap.size = w.heap.size → Wrote W W' m.blk (m.base + off + i * 2) (vs ++ cs.drop (i * 2)) →
      ∃ μ', HGoes H μ w (H.set id .dead ++ [.mk true 2 (D.take (i * 2) ++ xs ++ D.drop (i * 2))]) μ' W' ∧ VR μ' (.slc (some (H.length, 0)) (n + 1)) (.slice (some ⟨m.blk, m.base + off, none⟩) (n + 1) c) := by
     intro W W' hg hWc hWf hWs hw
     have hwl : (vs ++ cs.drop (i * 2)).length = 2 + (n - i) * 2 := by simp [hvsl, hcsl]; omega
     refine ⟨μ.add H.length ⟨m.blk, m.base + off, (n + 1) * 2, 2, m.size, true⟩, hg.trans (HGoes.regrow hg.sim ho hm hw rfl ⟨rfl, rfl, ?_, ?_, by rw [hw.size, hWs]; exact g5, fun _ => ⟨?_, ?_⟩⟩), ?_⟩
     ·simp [hDl, hxl]; omega
     ·intro j v hj
      simp only
      rw [hw.cell, hwl]
      by_cases hj1 : j < i * 2
      ·rw [if_neg (by omega), hWc]
       rw [List.append_assoc, List.getElem?_append_left (by simp; omega), List.getElem?_take_of_lt hj1] at hj
       have hj2 : j < cs.length := by omega
       refine ⟨cs[j], hcs j _ (List.getElem?_eq_getElem hj2), VR.le (Mu.le_add _ hs.fresh) (hcl.get j v _ hj (List.getElem?_eq_getElem hj2))⟩
      ·have hjl : j < (D.take (i * 2) ++ xs ++ D.drop (i * 2)).length := (List.getElem?_eq_some_iff.1 hj).1
       rw [List.append_assoc, List.getElem?_append_right (by simp; omega)] at hj
       have e1 : (D.take (i * 2)).length = i * 2 := by simp; omega
       rw [e1] at hj
       have hjl2 : j < (n + 1) * 2 := by simp [hDl, hxl] at hjl; omega
       rw [if_pos (by omega)]
       have e2 : m.base + off + j - (m.base + off + i * 2) = j - i * 2 := by omega
       rw [e2]
       have hvv : VL μ (xs ++ D.drop (i * 2)) (vs ++ cs.drop (i * 2)) := hvl.append (hcl.drop _)
       have hj3 : j - i * 2 < (vs ++ cs.drop (i * 2)).length := by omega
       exact ⟨_, List.getElem?_eq_getElem hj3, VR.le (Mu.le_add _ hs.fresh) (hvv.get _ v _ hj (List.getElem?_eq_getElem hj3))⟩
     ·simp only; omega
     ·refine hw.free ?_
      intro o h1 h2
      rw [hWc, hWf]
      exact g7 o (by simp only at h1; omega) h2
     ·have := VR.slc (μ := μ.add H.length ⟨m.blk, m.base + off, (n + 1) * 2, 2, m.size, true⟩) H.length 0 (n + 1) c ⟨m.blk, m.base + off, (n + 1) * 2, 2, m.size, true⟩
       (Mu.add_self _ _ _) hroom (fun _ => by simp only [← g2] at hr ⊢; omega) (by simp only; omega)
      simpa using this
    by_cases hie : i = n
    ·subst hie
     refine (hendR m.blk (m.base + off) i c mv.blk mv.base vc vs w hroom hn hvsl (fun j hj => (hfr _ (by omega) (by omega)).1) (fun j hj => (hfr _ (by omega) (by omega)).2) hvs h1v).mono ?_
     rintro e w' ⟨rfl, rfl⟩
     have hw := iO (w := w) (b := m.blk) (o := m.base + off + i * 2) (us := vs) (hfree.mono (by omega) (by omega)) h1v
     have hcd : cs.drop (i * 2) = [] := List.drop_of_length_le (by omega)
     obtain ⟨μ', k1, k2⟩ := goes w _ (.refl hs) (fun _ => rfl) (fun _ => rfl) rfl (by rw [hcd, List.append_nil]; exact hw)
     exact ⟨_, rfl, μ', k1, k2⟩
    ·refine (hshift m.blk (m.base + off) n c i mv.blk mv.base vc cs vs w (by omega) hroom hn (fun e => hblk e.symm) hcsl hvsl hcs (fun j hj => (hfr _ (by omega) (by omega)).1) (fun j hj => (hfr _ (by omega) (by omega)).2) hvs h1c h1v vt bt vk bk s1 t1 t2 (v7 _ (by omega) (by omega)).2 s3).mono ?_
     rintro e w' ⟨rfl, rfl⟩
     have hcdl : (cs.drop (i * 2)).length = (n - i) * 2 := by simp [hcsl]; omega
     have hw1 := iO (w := w.drew) (b := m.blk) (o := m.base + off + (i + 1) * 2) (us := cs.drop (i * 2)) (fun o h1 h2 => hfree o (by omega) (by omega)) (fun v hv => h1c v (List.mem_of_mem_drop hv))
     have hw2 := iO (w := w.drew.setCells m.blk (m.base + off + (i + 1) * 2) (cs.drop (i * 2))) (b := m.blk) (o := m.base + off + i * 2) (us := vs) (hw1.free (fun o h1 h2 => hfree o (by omega) (by omega))) h1v
     have e1 : m.base + off + (i + 1) * 2 = m.base + off + i * 2 + vs.length := by omega
     rw [e1] at hw1 hw2 ⊢
     obtain ⟨μ', k1, k2⟩ := goes w.drew _ (HGoes.world hs rfl rfl rfl rfl) (fun _ => rfl) (fun _ => rfl) rfl (hw1.both hw2)
     exact ⟨_, rfl, μ', k1, k2⟩
   ·-- a new row
    by_cases hie : i = n
    ·subst hie
     rw [hxs2, hxs3, List.append_nil]
     exact atEnd (some ⟨m.blk, m.base + off, none⟩) c D cs _ hk hHl rfl hnc (by omega) hcl hcsl (fun e => by cases e) (fun a ha j v hj => by cases ha; rw [Addr.add_lit]; exact hcs j v hj)
    ·refine (hgrow m.blk (m.base + off) n c i mv.blk mv.base vc cs vs w (by omega) hnc (by omega) hbig hcsl hvsl hcs hvs h1c h1v).mono ?_
     rintro e w' ⟨rfl, rfl⟩
     have hG := grownCap_ge w (n + 1) c T
     generalize grownCap w (n + 1) c T = G at hG
     obtain ⟨zs, hzl, hzn⟩ := (hz μ).zeros (by omega) (n + 1 - i)
     have hzl2 := hzl.length
     obtain ⟨US, hUS⟩ : ∃ US, US = (cs.take (i * 2)).toArray ++ Builtin.zeroCells zV.cells (n + 1 - i) ++ Builtin.zeroCells zV.cells (G - (n + 1)) := ⟨_, rfl⟩
     have hUSl : US.size = G * 2 := by
      rw [hUS, Array.size_append, Array.size_append, xy, xy, hzs]
      simp [hcsl]; omega
     rw [← hUS]
     have hDt : (D.take (i * 2)).length = i * 2 := by simp; omega
     have hrl : (D.take (i * 2) ++ zs).length = (n + 1) * 2 := by rw [List.length_append, hDt, hzn, hz2]; omega
     have hn := HGoes.new (es := 2) (w' := (w.alloc (.cells US T)).drew) (fz := (0, 0)) hk.sim (cells := D.take (i * 2) ++ zs) (us := US) (ty := T) (by
       have : US.toList.take (D.take (i * 2) ++ zs).length = cs.take (i * 2) ++ (Builtin.zeroCells zV.cells (n + 1 - i)).toList := by
        rw [hUS, Array.toList_append, Array.toList_append, List.take_append_of_le_length (by rw [hrl, List.length_append, ← hzl2, hzn, hz2]; simp; omega), List.take_of_length_le (by rw [hrl, List.length_append, ← hzl2, hzn, hz2]; simp; omega)]
       rw [this]; exact (hcl.take _).append hzl) (by rw [hrl, hUSl]; omega) rfl (.inr (Nat.le_refl _)) rfl rfl rfl
     rw [hHl] at hn
     obtain ⟨M, hM⟩ : ∃ M : Mp, M = ⟨w.heap.size, 0, (D.take (i * 2) ++ zs).length, 2, US.size, true⟩ := ⟨_, rfl⟩
     rw [← hM] at hn
     have hMm : (μ.add H.length M) H.length = some M := Mu.add_self _ _ _
     have hle : μ.le (μ.add H.length M) := Mu.le_add _ hs.fresh
     have hl0 : ∀ o, (H.set id .dead ++ [o])[H.length]? = some o := fun o => by rw [← hHl]; simp
     have hfN : FreeAt (w.alloc (.cells US T)).drew w.heap.size 0 (G * 2) := by
      obtain ⟨_, q⟩ := (hn.sim.obj H.length _ M (hl0 _) hMm).2.2.2.2.2 rfl
      rw [hM] at q
      simp only [hUSl] at q
      exact q
     have hw1 := iO (w := (w.alloc (.cells US T)).drew) (b := w.heap.size) (o := i * 2) (us := vs) (hfN.mono (by omega) (by omega)) h1v
     have hp1 := HGoes.write (off := i * 2) (us := vs) hn.sim (hl0 _) hMm (by rw [hM]; simp only [Nat.zero_add]; exact hw1) (VL.le hle hvl) (by rw [hrl]; omega)
     have hd := HGoes.world (w' := ((w.alloc (.cells US T)).drew.setCells w.heap.size (i * 2) vs).drew) hp1.sim rfl rfl rfl rfl
     have hw2 := iO (w := ((w.alloc (.cells US T)).drew.setCells w.heap.size (i * 2) vs).drew) (b := w.heap.size) (o := (i + 1) * 2) (us := cs.drop (i * 2)) (fun o h1 h2 => hw1.free hfN o (by omega) (by simp [hcsl] at h2; omega)) (fun v hv => h1c v (List.mem_of_mem_drop hv))
     have hl1 : ∀ o o', ((H.set id .dead ++ [o]).set H.length o')[H.length]? = some o' := fun o o' => by rw [List.getElem?_set_self (by simp)]
     have hsl : (setRange (D.take (i * 2) ++ zs) (i * 2) xs).length = (n + 1) * 2 := by rw [kX (by rw [hrl]; omega), hrl]
     have hp2 := HGoes.write (off := (i + 1) * 2) (us := cs.drop (i * 2)) hd.sim (hl1 _ _) hMm (by rw [hM]; simp only [Nat.zero_add]; exact hw2) (VL.le hle (hcl.drop (i * 2))) (by rw [hsl]; simp [hDl]; omega)
     have hfin : setRange (setRange (D.take (i * 2) ++ zs) (i * 2) xs) ((i + 1) * 2) (D.drop (i * 2)) = D.take (i * 2) ++ xs ++ D.drop (i * 2) := by
      have e1 : setRange (D.take (i * 2) ++ zs) (i * 2) xs = D.take (i * 2) ++ xs ++ (D.take (i * 2) ++ zs).drop (i * 2 + xs.length) := by
       unfold setRange
       rw [List.take_append_of_le_length (by omega), List.take_of_length_le (by omega)]
      rw [e1]
      have e2 : (D.take (i * 2) ++ xs).length = (i + 1) * 2 := by rw [List.length_append, hDt, hxl]; omega
      unfold setRange
      rw [List.take_append_of_le_length (by omega), List.take_of_length_le (by omega), List.drop_of_length_le (l := D.take (i * 2) ++ xs ++ _) (by rw [← e1, hsl]; simp [hDl]; omega), List.append_nil]
     have hset : ((H.set id .dead ++ [Ob.mk true 2 (D.take (i * 2) ++ zs)]).set H.length (.mk true 2 (setRange (D.take (i * 2) ++ zs) (i * 2) xs))).set H.length (.mk true 2 (setRange (setRange (D.take (i * 2) ++ zs) (i * 2) xs) ((i + 1) * 2) (D.drop (i * 2)))) = H.set id .dead ++ [.mk true 2 (D.take (i * 2) ++ xs ++ D.drop (i * 2))] := by
      rw [List.set_set, hfin, ← hHl, List.set_append_right _ _ (Nat.le_refl _), Nat.sub_self]
      rfl
     rw [hset] at hp2
     refine ⟨_, rfl, _, hk.trans (hn.trans (hp1.trans (hd.trans hp2))), ?_⟩
     have := VR.slc (μ := μ.add H.length M) H.length 0 (n + 1) G M hMm hG (fun _ => by rw [hM]; simp only [hUSl]; omega) (by rw [hM]; simp only [hrl]; omega)
     rw [hM] at this
     simpa [hM] using this
  ·have hi0 : i = 0 := by omega
   subst hi0
   have hD0 : D = [] := List.length_eq_zero_iff.1 (by omega)
   rw [hD0]
   have := atEnd (some ad) 0 [] [] _ hk hHl rfl (Nat.le_refl _) (by omega) .nil rfl (fun e => by cases e) (fun a ha j v hj => by simp at hj)
   simpa using this
end Go.Lite
end
section
namespace Go.Proofs.InsEntry
open Go Go.Lib Go.RowKit Go.Shelf
abbrev zV : Value := .agg #[.slice none 0 0, .slice none 0 0]
theorem info : (Tryz.prog.info? 43).map (fun i => (i.zero, i.size, i.bytes)) = some (some zV, 2, 48) := by kernel_rfl
theorem Qp : ∀ w, (Go.sizeOf 43).run Tryz.prog w = .ok 2 w := Tryz.sizeOf43
theorem wF {P : Program} (w : World) (dT sT ty elem : TypeId) (b o dLen dCap : Nat) (a : Addr) (sLen sCap k : Nat) (cs : List Value)
  (hu : P.underlying dT = some (.slice elem)) (hs : (P.info? elem).map (·.size) = some 2) (hk : k = Nat.min sLen dLen) (hn : cs.length = k * 2)
  (hsrc : ∀ j v, cs[j]? = some v → w.cell? (a.add j) = some v) (hc : ∀ j, j < cs.length → (w.cell? ⟨b, o + j, none⟩).isSome = true) (hf : ∀ j, j < cs.length → w.frozen? ⟨b, o + j, none⟩ = false) (h1 : ∀ v ∈ cs, v.oneCell' = true) :
  (Builtin.copy_ #[dT, sT] ty #[.slice (some ⟨b, o, none⟩) dLen dCap, .slice (some a) sLen sCap]).run P w = .ok (goInt k) (w.setCells b o cs) := by
 have hl := run_loadCells_list (P := P) w a cs hsrc
 have hst := run_storeCells_cells (P := P) b o cs 0 w (by simpa using hc) (by simpa using hf) h1
 rw [hn] at hl
 cases hq : P.info? elem with
 | none => simp [hq] at hs
 | some i =>
  have hi : i.size = 2 := by simpa [hq] using hs
  simp [Builtin.copy_, run_underlying hu, Builtin.lenOf, Builtin.firstCells, sizeOf, typeInfo, hq, hi, ← hk, hl, hst]
theorem TB : (Tryz.prog.info? 43).map (·.size) = some 2 := by
 obtain ⟨i0, hi0, h0, h1, h2⟩ := info_parts info
 rw [hi0]; simp [h1]
theorem shift (b off n c i vb vo vc : Nat) (cs vs : List Value) (w : World) (hi : i < n) (hroom : n + 1 ≤ c) (hn63 : n ≤ 1000000) (hvb : vb ≠ b)
  (hcl : cs.length = n * 2) (hvl : vs.length = 2)
  (hcs : ∀ j v, cs[j]? = some v → w.cell? ⟨b, off + j, none⟩ = some v) (hsp : ∀ j, j < (n + 1) * 2 → (w.cell? ⟨b, off + j, none⟩).isSome = true) (hfz : ∀ j, j < (n + 1) * 2 → w.frozen? ⟨b, off + j, none⟩ = false)
  (hvs : ∀ j v, vs[j]? = some v → w.cell? ⟨vb, vo + j, none⟩ = some v) (h1c : ∀ v ∈ cs, v.oneCell' = true) (h1v : ∀ v ∈ vs, v.oneCell' = true)
  (tA tB : TypeId) (kA kB : Nat) (hsa : w.shape? vb = some (tA, kA)) (hsb : w.shape? b = some (tB, kB)) (hkB : kB ≠ 0) (hfa : w.frozen? ⟨vb, vo, none⟩ = false) (hfe : w.frozen? ⟨vb, kA, none⟩ = false) :
  Calls Tryz.prog 215 #[.slice (some ⟨b, off, none⟩) n c, .int .i64 i, .slice (some ⟨vb, vo, none⟩) 1 vc] w fun e w' =>
   e = .returned (.slice (some ⟨b, off, none⟩) (n + 1) c) ∧ w' = (w.drew.setCells b (off + (i + 1) * 2) (cs.drop (i * 2))).setCells b (off + i * 2) vs := by
 have hz2 : ¬ ((i : Int) = (n : Int)) := by omega
 have hov : ∀ lb cb, (callFunc 295 #[.slice (some ⟨vb, vo, none⟩) 1 vc, .slice (some ⟨b, off + (i + 1) * 2, none⟩) lb cb]).run Tryz.prog w = .ok (.value (.bool false)) w := fun lb cb => by
  rw [run_callFunc_extern Tryz.func295 (by kernel_rfl) (by kernel_rfl) (by kernel_rfl) (e := Extern.SlicesOverlaps.overlaps #[68, 68] #[4]) (by kernel_rfl),
   Lib.run_overlaps_apart w 68 4 43 Tryz.underlying68 2 Qp ⟨vb, vo, none⟩ ⟨b, off + (i + 1) * 2, none⟩ 1 vc lb cb hvb tA tB kA kB hsa hsb hkB hfa hfe]
  rfl
 have hdl : (cs.drop (i * 2)).length = (n - i) * 2 := by rw [List.length_drop, hcl]; omega
 have hw1 : IntKind.i64.wrap ((i : Int) + 1) = (i : Int) + 1 := by rw [IntKind.wrap_i64]; omega
 have hw2 : IntKind.i64.wrap ((n : Int) + 1) = (n : Int) + 1 := by rw [IntKind.wrap_i64]; omega
 have hb1 : (0 : Int) ≤ (i : Int) + 1 := by omega
 have hb0 : (0 : Int) ≤ (n : Int) + 1 := by omega
 have hin : i ≤ n := by omega
 have htn : ((i : Int) + 1).toNat = i + 1 := by omega
 have htn2 : ((n : Int) + 1).toNat = n + 1 := by omega
 have hb2 : ¬ (c = i + 1) := by omega
 have hb3 : (i : Int) ≤ (n : Int) + 1 := by omega
 have hb5 : (i : Int) + 1 ≤ (n : Int) + 1 := by omega
 have hb6 : ¬ ((c : Int) < (n : Int) + 1) := by omega
 have hb7 : (n : Int) + 1 ≤ c := by omega
 have hb4 : ¬ (c = i) := by omega
 have hcp1 : ∀ ty dc sc, (Builtin.copy_ #[68, 68] ty #[.slice (some ⟨b, off + (i + 1) * 2, none⟩) (n - i) dc, .slice (some ⟨b, off + i * 2, none⟩) (n + 1 - i) sc]).run Tryz.prog w.drew = .ok (goInt ((n - i : Nat) : Int)) (w.drew.setCells b (off + (i + 1) * 2) (cs.drop (i * 2))) := fun ty dc sc =>
  wF w.drew _ _ ty 43 b (off + (i + 1) * 2) (n - i) dc ⟨b, off + i * 2, none⟩ (n + 1 - i) sc (n - i) (cs.drop (i * 2)) Tryz.underlying68 TB (by simp only [Nat.min_def]; split <;> omega) hdl
   (fun j v hj => by rw [Addr.add_lit, Nat.add_assoc]; exact hcs (i * 2 + j) v (by rwa [List.getElem?_drop] at hj))
   (fun j hj => by rw [Nat.add_assoc]; exact hsp _ (by omega)) (fun j hj => by rw [Nat.add_assoc]; exact hfz _ (by omega)) (fun v hv => h1c v (List.mem_of_mem_drop hv))
 obtain ⟨W1, hW1⟩ : ∃ W1, W1 = w.drew.setCells b (off + (i + 1) * 2) (cs.drop (i * 2)) := ⟨_, rfl⟩
 have hsp1 : ∀ k, k < (n + 1) * 2 → (W1.cell? ⟨b, off + k, none⟩).isSome = true := fun k hk => by
  rw [hW1]
  exact isSome_setCells b _ _ _ (fun j hj => by rw [Nat.add_assoc]; exact hsp _ (by omega)) _ (hsp k hk)
 have hcp2 : ∀ (W : World), (∀ x, W.cell? x = W1.cell? x) → (∀ x, W.frozen? x = W1.frozen? x) → ∀ ty dc, (Builtin.copy_ #[68, 68] ty #[.slice (some ⟨b, off + i * 2, none⟩) (n + 1 - i) dc, .slice (some ⟨vb, vo, none⟩) 1 vc]).run Tryz.prog W = .ok (goInt 1) (W.setCells b (off + i * 2) vs) := fun W hWc hWf ty dc =>
  wF W _ _ ty 43 b (off + i * 2) (n + 1 - i) dc ⟨vb, vo, none⟩ 1 vc 1 vs Tryz.underlying68 TB (by simp only [Nat.min_def]; split <;> omega) (by omega)
   (fun j v hj => by
    rw [Addr.add_lit, hWc, hW1, World.cell?_setCells_out b _ _ _ _ (fun h _ => absurd h hvb)]
    exact hvs j v hj)
   (fun j hj => by rw [hWc, Nat.add_assoc]; exact hsp1 _ (by omega)) (fun j hj => by rw [hWf, hW1, World.frozen?_setCells, Nat.add_assoc]; exact hfz _ (by omega)) h1v
 rw [← hW1] at hcp1
 have mixed : Tryz.prog.follows .mixedOrders = true := rfl
 go_enter Tryz.func215, Tryz.ntmps215
 go_wp2_with (simp only [hov])
 go_region_law_o (refine step_copy_runI rfl _ _ 68 68 rfl _ _ (by simp [Act.eval, Act.put]) (by simp [Act.eval, Act.put]) (hcp1 _ _ _) ?_)
 go_wp2_with (at_builtin; refine wpList_copy_runI _ rfl _ _ 68 68 rfl _ _ rfl rfl (hcp2 _ (fun _ => rfl) (fun _ => rfl) _ _) ?_)
 go_ret
 first | exact ⟨rfl, rfl⟩ | exact ⟨rfl, by rw [hW1]⟩
theorem endRoom (b off n c vb vo vc : Nat) (vs : List Value) (w : World) (hroom : n + 1 ≤ c) (hn63 : n ≤ 1000000)
  (hvl : vs.length = 2) (hsp : ∀ j, j < 2 → (w.cell? ⟨b, off + n * 2 + j, none⟩).isSome = true) (hfz : ∀ j, j < 2 → w.frozen? ⟨b, off + n * 2 + j, none⟩ = false)
  (hvs : ∀ j v, vs[j]? = some v → w.cell? ⟨vb, vo + j, none⟩ = some v) (h1v : ∀ v ∈ vs, v.oneCell' = true) :
  Calls Tryz.prog 215 #[.slice (some ⟨b, off, none⟩) n c, .int .i64 n, .slice (some ⟨vb, vo, none⟩) 1 vc] w fun e w' =>
   e = .returned (.slice (some ⟨b, off, none⟩) (n + 1) c) ∧ w' = w.setCells b (off + n * 2) vs := by
 have mixed : Tryz.prog.follows .mixedOrders = true := rfl
 obtain ⟨i0, hi0, hz0, hzs, hzb⟩ := info_parts info
 have hsrc : Src Tryz.prog i0.size 68 (.slice (some ⟨vb, vo, none⟩) 1 vc) 1 vs w := by
  rw [hzs]
  exact Src.ofSlice w Tryz.underlying68 ⟨vb, vo, none⟩ 1 vc vs (by omega) (fun j u hj => by rw [Addr.add_lit]; exact hvs j u hj) h1v
 go_enter Tryz.func215, Tryz.ntmps215
 go_wp2_with (at_builtin; refine wpList_append_room_src _ rfl _ _ 68 68 rfl 43 i0 Tryz.underlying68 hi0 b off n c rfl _ rfl 1 vs hsrc hroom (by rw [hvl, hzs]; exact hsp) (by rw [hvl, hzs]; exact hfz) ?_)
 go_ret
 exact ⟨rfl, rfl⟩
theorem endGrow (base : Option Addr) (n c vb vo vc : Nat) (cs vs : List Value) (w : World) (hnc : n ≤ c) (hroom : c < n + 1) (hbig : (n + 1) * 48 ≤ 140737488355328)
  (hcl : cs.length = n * 2) (hvl : vs.length = 2) (hnil : base = none → n = 0)
  (hcs : ∀ a, base = some a → ∀ j v, cs[j]? = some v → w.cell? (a.add j) = some v)
  (hvs : ∀ j v, vs[j]? = some v → w.cell? ⟨vb, vo + j, none⟩ = some v) (h1v : ∀ v ∈ vs, v.oneCell' = true) :
  Calls Tryz.prog 215 #[.slice base n c, .int .i64 n, .slice (some ⟨vb, vo, none⟩) 1 vc] w fun e w' =>
   e = .returned (.slice (some ⟨w.heap.size, 0, none⟩) (n + 1) (grownCap w (n + 1) c 43)) ∧
   w' = w.drew.alloc (.cells ((cs ++ vs).toArray ++ Builtin.zeroCells zV.cells (grownCap w (n + 1) c 43 - (n + 1))) 43) := by
 have mixed : Tryz.prog.follows .mixedOrders = true := rfl
 obtain ⟨i0, hi0, hz0, hzs, hzb⟩ := info_parts info
 have hsrc : Src Tryz.prog i0.size 68 (.slice (some ⟨vb, vo, none⟩) 1 vc) 1 vs w := by
  rw [hzs]
  exact Src.ofSlice w Tryz.underlying68 ⟨vb, vo, none⟩ 1 vc vs (by omega) (fun j u hj => by rw [Addr.add_lit]; exact hvs j u hj) h1v
 have hold : (Builtin.firstCells i0.size n (.slice base n c)).run Tryz.prog w.drew = .ok cs.toArray w.drew := by
  rw [hzs]
  cases base with
  | none =>
   have h0 := hnil rfl
   subst h0
   rw [List.length_eq_zero_iff.1 (by omega : cs.length = 0)]
   exact run_firstCells_none w.drew 2 0 0 c
  | some a => exact run_firstCells_some w.drew 2 n a n c cs (by omega) (fun j v hj => hcs a rfl j v hj)
 have hrun : ∀ ty, (Builtin.append_ #[68, 68] ty #[.slice base n c, .slice (some ⟨vb, vo, none⟩) 1 vc]).run Tryz.prog w = _ := fun ty =>
  run_append_grow_src w 68 68 ty 43 i0 _ Tryz.underlying68 hi0 hz0 base n c cs hold _ 1 vs hsrc hroom (by omega) (by rw [hzb]; exact growslice_fits hroom hbig)
 go_enter Tryz.func215, Tryz.ntmps215
 cases base with
 | none =>
  have h0 := hnil rfl
  subst h0
  go_wp2_with (at_builtin; refine Lib.wpList_append_run _ rfl _ _ _ _ rfl _ _ rfl rfl _ _ (hrun _) ?_)
  go_ret
  exact ⟨rfl, rfl⟩
 | some a =>
  obtain ⟨ab, ao, asp⟩ := a
  go_wp2_with (at_builtin; refine Lib.wpList_append_run _ rfl _ _ _ _ rfl _ _ rfl rfl _ _ (hrun _) ?_)
  all_goals (go_ret; exact ⟨rfl, rfl⟩)
theorem grow (b off n c i vb vo vc : Nat) (cs vs : List Value) (w : World) (hi : i < n) (hnc : n ≤ c) (hroom : c < n + 1) (hbig : (n + 1) * 48 ≤ 140737488355328)
  (hcl : cs.length = n * 2) (hvl : vs.length = 2)
  (hcs : ∀ j v, cs[j]? = some v → w.cell? ⟨b, off + j, none⟩ = some v)
  (hvs : ∀ j v, vs[j]? = some v → w.cell? ⟨vb, vo + j, none⟩ = some v) (h1c : ∀ v ∈ cs, v.oneCell' = true) (h1v : ∀ v ∈ vs, v.oneCell' = true) :
  Calls Tryz.prog 215 #[.slice (some ⟨b, off, none⟩) n c, .int .i64 i, .slice (some ⟨vb, vo, none⟩) 1 vc] w fun e w' =>
   e = .returned (.slice (some ⟨w.heap.size, 0, none⟩) (n + 1) (grownCap w (n + 1) c 43)) ∧
   w' = (((w.alloc (.cells ((cs.take (i * 2)).toArray ++ Builtin.zeroCells zV.cells (n + 1 - i) ++ Builtin.zeroCells zV.cells (grownCap w (n + 1) c 43 - (n + 1))) 43)).drew.setCells w.heap.size (i * 2) vs).drew).setCells w.heap.size ((i + 1) * 2) (cs.drop (i * 2)) := by
 have mixed : Tryz.prog.follows .mixedOrders = true := rfl
 obtain ⟨i0, hi0, hz0, hzs, hzb⟩ := info_parts info
 have hz2 : ¬ ((i : Int) = (n : Int)) := by omega
 have hz3 : (c : Int) < (n : Int) + 1 := by omega
 have hbw : b < w.heap.size := block_lt_of_cell (hcs 0 _ (List.getElem?_eq_getElem (by omega)))
 have hvw : vb < w.heap.size := block_lt_of_cell (hvs 0 _ (List.getElem?_eq_getElem (by omega)))
 have hkk : (n : Int) + 1 - (i : Int) = ((n + 1 - i : Nat) : Int) := by omega
 have hik : i + (n + 1 - i) = n + 1 := by omega
 have hold : (Builtin.firstCells i0.size i (.slice (some ⟨b, off, none⟩) i c)).run Tryz.prog w.drew = .ok (cs.take (i * 2)).toArray w.drew := by
  rw [hzs]
  exact run_firstCells_some w.drew 2 i ⟨b, off, none⟩ i c (cs.take (i * 2)) (by rw [List.length_take]; omega) (fun j v hj => by
   rw [Addr.add_lit]
   rw [List.getElem?_take] at hj
   split at hj
   ·exact hcs j v hj
   ·cases hj)
 have hrz : ∀ ty, (Builtin.append_ #[68, 3] ty #[.slice (some ⟨b, off, none⟩) i c, .int .i64 ((n : Int) + 1 - (i : Int))]).run Tryz.prog w =
   .ok (.slice (some ⟨w.heap.size, 0, none⟩) (n + 1) (grownCap w (n + 1) c 43)) (w.drew.alloc (.cells ((cs.take (i * 2)).toArray ++ Builtin.zeroCells zV.cells (n + 1 - i) ++ Builtin.zeroCells zV.cells (grownCap w (n + 1) c 43 - (n + 1))) 43)) := fun ty => by
  have h := Lib.run_append_grow_zeros w 68 3 ty 43 i0 _ .i64 .i64 Tryz.underlying68 Tryz.underlying3 hi0 hz0 (some ⟨b, off, none⟩) i c (cs.take (i * 2)) hold (n + 1 - i) (by omega) (by omega) (by omega) (by omega) (by rw [hzb]; omega) (by rw [hzb, hik]; exact growslice_fits hroom hbig)
  rw [hik] at h
  rw [hkk]
  exact h
 obtain ⟨G, hG⟩ : ∃ G, G = grownCap w (n + 1) c 43 := ⟨_, rfl⟩
 obtain ⟨ROW, hROW⟩ : ∃ ROW : Array Value, ROW = (cs.take (i * 2)).toArray ++ Builtin.zeroCells zV.cells (n + 1 - i) ++ Builtin.zeroCells zV.cells (G - (n + 1)) := ⟨_, rfl⟩
 rw [← hG] at hrz ⊢
 rw [← hROW] at hrz ⊢
 have hRl : (n + 1) * 2 ≤ ROW.size := by
  rw [hROW]
  simp [Builtin.zeroCells, Value.cells]
  omega
 obtain ⟨W1, hW1⟩ : ∃ W1, W1 = w.drew.alloc (.cells ROW 43) := ⟨_, rfl⟩
 rw [← hW1] at hrz
 have hN : ∀ j, j < (n + 1) * 2 → (W1.cell? ⟨w.heap.size, j, none⟩).isSome = true := fun j hj => by
  rw [hW1, World.cell?_alloc_at (w := w.drew) ROW _ w.heap.size j rfl, Array.getElem?_eq_getElem (by omega)]; rfl
 have hNf : ∀ j, W1.frozen? ⟨w.heap.size, j, none⟩ = false := fun j => by rw [hW1]; exact World.frozen?_alloc_at (w := w.drew) ROW _ w.heap.size j rfl
 have hOb : ∀ j v, w.cell? ⟨b, j, none⟩ = some v → W1.cell? ⟨b, j, none⟩ = some v := fun j v h => by rw [hW1, World.cell?_alloc_past (w := w.drew) _ b j hbw]; exact h
 have hOv : ∀ j v, w.cell? ⟨vb, j, none⟩ = some v → W1.cell? ⟨vb, j, none⟩ = some v := fun j v h => by rw [hW1, World.cell?_alloc_past (w := w.drew) _ vb j hvw]; exact h
 have hcpA : ∀ (W : World), (∀ x, W.cell? x = W1.cell? x) → (∀ x, W.frozen? x = W1.frozen? x) → ∀ ty dc, (Builtin.copy_ #[68, 68] ty #[.slice (some ⟨w.heap.size, i * 2, none⟩) (n + 1 - i) dc, .slice (some ⟨vb, vo, none⟩) 1 vc]).run Tryz.prog W = .ok (goInt 1) (W.setCells w.heap.size (i * 2) vs) := fun W hWc hWf ty dc =>
  wF W _ _ ty 43 w.heap.size (i * 2) (n + 1 - i) dc ⟨vb, vo, none⟩ 1 vc 1 vs Tryz.underlying68 TB (by simp only [Nat.min_def]; split <;> omega) (by omega)
   (fun j v hj => by rw [Addr.add_lit, hWc]; exact hOv _ v (hvs j v hj))
   (fun j hj => by rw [hWc]; exact hN _ (by omega)) (fun j hj => by rw [hWf]; exact hNf _) h1v
 have hGn : n + 1 ≤ G := by rw [hG]; exact grownCap_ge w _ _ _
 have hG63 : G ≤ 9223372036854775807 := by
  have := grownCap_le_maxLen w (n + 1) c 43 (by unfold maxLen; omega)
  rw [← hG] at this
  unfold maxLen at this
  omega
 have hGi : ¬ (G = i) := by omega
 have hGim : ¬ (G = i + 1) := by omega
 have hci : ¬ (c = i) := by omega
 have hbN : b ≠ w.heap.size := by omega
 have hdl : (cs.drop (i * 2)).length = (n - i) * 2 := by rw [List.length_drop, hcl]; omega
 have hcpB : ∀ (W : World), (∀ x, W.cell? x = (W1.setCells w.heap.size (i * 2) vs).cell? x) → (∀ x, W.frozen? x = (W1.setCells w.heap.size (i * 2) vs).frozen? x) → ∀ ty dc sc, (Builtin.copy_ #[68, 68] ty #[.slice (some ⟨w.heap.size, (i + 1) * 2, none⟩) (n - i) dc, .slice (some ⟨b, off + i * 2, none⟩) (n - i) sc]).run Tryz.prog W = .ok (goInt ((n - i : Nat) : Int)) (W.setCells w.heap.size ((i + 1) * 2) (cs.drop (i * 2))) := fun W hWc hWf ty dc sc =>
  wF W _ _ ty 43 w.heap.size ((i + 1) * 2) (n - i) dc ⟨b, off + i * 2, none⟩ (n - i) sc (n - i) (cs.drop (i * 2)) Tryz.underlying68 TB (by simp only [Nat.min_def]; split <;> omega) hdl
   (fun j v hj => by
    rw [Addr.add_lit, hWc, World.cell?_setCells_out _ _ _ _ _ (fun h _ => absurd h hbN), Nat.add_assoc]
    exact hOb _ v (hcs (i * 2 + j) v (by rwa [List.getElem?_drop] at hj)))
   (fun j hj => by rw [hWc]; exact isSome_setCells _ _ _ _ (fun t ht => hN _ (by omega)) _ (hN _ (by omega)))
   (fun j hj => by rw [hWf, World.frozen?_setCells]; exact hNf _) (fun v hv => h1c v (List.mem_of_mem_drop hv))
 subst hW1
 have hE1 : ∀ x, ((w.alloc (.cells ROW 43)).drew).cell? x = (w.drew.alloc (.cells ROW 43)).cell? x := fun x => rfl
 have hE2 : ∀ x, ((w.alloc (.cells ROW 43)).drew).frozen? x = (w.drew.alloc (.cells ROW 43)).frozen? x := fun x => rfl
 have hF1 : ∀ x, (((w.alloc (.cells ROW 43)).drew.setCells w.heap.size (i * 2) vs).drew).cell? x = ((w.drew.alloc (.cells ROW 43)).setCells w.heap.size (i * 2) vs).cell? x := fun x => rfl
 have hF2 : ∀ x, (((w.alloc (.cells ROW 43)).drew.setCells w.heap.size (i * 2) vs).drew).frozen? x = ((w.drew.alloc (.cells ROW 43)).setCells w.heap.size (i * 2) vs).frozen? x := fun x => rfl
 have hw1 : IntKind.i64.wrap ((i : Int) + 1) = (i : Int) + 1 := by rw [IntKind.wrap_i64]; omega
 have hw2 : IntKind.i64.wrap ((n : Int) + 1) = (n : Int) + 1 := by rw [IntKind.wrap_i64]; omega
 have hw3 : IntKind.i64.wrap ((n : Int) + 1 - i) = (n : Int) + 1 - i := by rw [IntKind.wrap_i64]; omega
 have hb1 : (0 : Int) ≤ (i : Int) + 1 := by omega
 have hin : i ≤ n := by omega
 have htn : ((i : Int) + 1).toNat = i + 1 := by omega
 have hb3 : (i : Int) ≤ (n : Int) := by omega
 clear hkk hik hold hROW hG hRl
 go_enter Tryz.func215, Tryz.ntmps215
 go_wp2_with (first
  | (at_builtin; refine Lib.wpList_append_run _ rfl _ _ _ _ rfl _ _ rfl rfl _ _ (hrz _) ?_)
  | (at_builtin; refine wpList_copy_runI _ rfl _ _ 68 68 rfl _ _ rfl rfl (hcpA _ hE1 hE2 _ _) ?_)
  | (at_builtin; refine wpList_copy_runI _ rfl _ _ 68 68 rfl _ _ rfl rfl (hcpB _ (fun _ => rfl) (fun _ => rfl) _ _ _) ?_))
 go_region_law_o (refine step_copy_runI rfl _ _ 68 68 rfl (.slice (some ⟨w.heap.size, (i + 1) * 2, none⟩) (n - i) (G - (i + 1))) (.slice (some ⟨b, off + i * 2, none⟩) (n - i) (c - i)) (by simp [Act.eval, Act.put]) (by simp [Act.eval, Act.put]) (hcpB _ hF1 hF2 3 (G - (i + 1)) (c - i)) ?_)
 go_wp2
 go_ret
 exact ⟨rfl, rfl⟩
end Go.Proofs.InsEntry
end
section
namespace Go.Proofs.Try1
open Go Go.Lite
theorem IU : jT Tryz.prog 215 (fG 2) :=
 sW (T := 43) (zV := InsEntry.zV) (z := [.slc none 0, .slc none 0]) (bytes := 48) (fun _ => .cons .slcN (.cons .slcN .nil)) rfl (by decide)
  (enters Tryz.func215 (by kernel_rfl) (by kernel_rfl))
  InsEntry.shift InsEntry.endRoom InsEntry.endGrow InsEntry.grow
end Go.Proofs.Try1
end
section
namespace Go.Lite
open Go
section
variable [Draws]
theorem MM (hO : Sort.SWO nD) (l : List Str) : (jP l).length = l.length := by
 have h := (Sort.pdq_sorts nD hO l.toArray 0 l.length (Lib.bitLen l.length) true true (Nat.zero_le _) (by simp) (Or.inl rfl)).1.1
 simpa [jP] using h
theorem AP {P : Program} {g gb : Nat} (hO : Sort.SWO nD) (hcall : ∀ us w, (callFunc g us).run P w = .ok (.enter g us) w)
  (hsort : ∀ (blk off cap : Nat) (zs : List (List UInt8)) (w : World), Sort.Holds Go.Proofs.encStr w blk off zs.toArray → blk < w.heap.size → zs.length < 4611686018427387904 → Calls P g #[.slice (some ⟨blk, off, none⟩) zs.length cap, .func (.func gb) #[] #[]] w fun e w' =>
   e = .returned (.tuple #[]) ∧ ∃ n os, w' = Sort.grow (Sort.putRow Go.Proofs.encStr (Sort.ahead w n) blk off (jP zs).toArray) os)
  (hnone : ∀ (p : Option Addr) (cap : Nat) (w : World), Calls P g #[.slice p 0 cap, .func (.func gb) #[] #[]] w fun e w' => e = .returned (.tuple #[]) ∧ w' = w) : jT P g (jA gb) := by
 intro args H r H' h μ w us hs hv
 have htup : ∀ μ : Mu, VR μ (.tup []) (.tuple #[]) := fun μ => VR.tup [] #[] rfl (fun i v u h _ => by simp at h)
 unfold jA at h
 split at h
 case h_2 => cases h
 rename_i p n g'
 obtain ⟨u, u', rfl, hu, hfn⟩ := hv.two
 split at h
 case isFalse => cases h
 rename_i hg
 subst hg
 obtain ⟨xs, ys, rfl, hx, _, hy, _⟩ := hfn.fn_inv
 obtain rfl : xs = #[] := Array.size_eq_zero_iff.1 (by simpa using hx.symm)
 obtain rfl : ys = #[] := Array.size_eq_zero_iff.1 (by simpa using hy.symm)
 refine .inr ⟨hcall _ _, ?_⟩
 split at h
 ·rename_i hn
  subst hn
  cases h
  have : ∃ q c, u = .slice q 0 c := by
   cases p with
   | none => obtain ⟨rfl, _⟩ := hu.slcN_inv; exact ⟨_, _, rfl⟩
   | some p =>
    obtain ⟨id, off⟩ := p
    obtain ⟨m, _, ⟨c, _, _, _, rfl⟩ | ⟨_, _, a, rfl⟩⟩ := hu.slc_inv <;> exact ⟨_, _, rfl⟩
  obtain ⟨q, c, rfl⟩ := this
  refine (hnone q c w).mono ?_
  rintro e w' ⟨rfl, rfl⟩
  exact ⟨_, rfl, μ, .refl hs, htup μ⟩
 ·rename_i hn
  split at h
  case h_2 => cases h
  rename_i id off
  split at h
  case h_2 => cases h
  rename_i es cells ho
  split at h
  case isFalse => cases h
  rename_i hc
  obtain ⟨rfl, hlen, hmax⟩ := hc
  split at h
  case h_2 => cases h
  rename_i ss hss
  cases h
  have hcs := ut hss
  have hssl : ss.length = n := by
   have := congrArg List.length hcs
   simp at this
   omega
  obtain ⟨m, hm, ⟨c, hc1, hc2, hc3, rfl⟩ | ⟨h0, _⟩⟩ := hu.slc_inv
  rotate_left
  ·exact absurd h0 hn
  obtain ⟨g1, g2, g3, g4, g5, g6⟩ := hs.obj id _ m ho hm
  obtain ⟨g6, g7⟩ := g6 rfl
  have hget : ∀ j, j < ss.length → cells[off + j]? = some (.str ss[j]!) := fun j hj => by
   rw [zT hcs (show j < n by omega), List.getElem?_map, List.getElem?_eq_getElem hj]
   simp [hj]
  have hH : Sort.Holds Go.Proofs.encStr w m.blk (m.base + off) ss.toArray := fun j hj => by
   simp only [List.size_toArray] at hj
   obtain ⟨u, hu1, hu2⟩ := g4 (off + j) _ (hget j hj)
   obtain ⟨b, rfl, hb⟩ := hu2.str_inv
   have hbe : Value.string b = Go.Proofs.encStr ss[j]! := by
    show _ = Value.string ⟨ss[j]!.toArray⟩
    rw [hb]
   refine ⟨?_, ?_⟩
   ·rw [Nat.add_assoc, hu1, hbe]
    congr 2
    simp [hj]
   ·exact (g7 (m.base + off + j) (by omega) (by omega)).2
  have hsort' := hsort m.blk (m.base + off) c ss w hH g5 (by omega)
  rw [hssl] at hsort'
  refine hsort'.mono ?_
  rintro e w' ⟨rfl, k, os, rfl⟩
  refine ⟨_, rfl, μ, ?_, htup μ⟩
  have hlen2 : (jP ss).length = ss.length := MM hO ss
  have hwr := uw (d' := (jP ss).toArray) hH (by simp [hlen2])
  have hvl : VL μ ((jP ss).map V.str) (((jP ss).toArray).toList.map Go.Proofs.encStr) := by
   refine VL.of_get (by simp) fun i v u h1 h2 => ?_
   simp only [List.getElem?_map] at h1 h2
   cases hx : (jP ss)[i]? with
   | none => rw [hx] at h1; cases h1
   | some s =>
    rw [hx] at h1 h2
    cases h1
    cases h2
    exact VR.str ⟨s.toArray⟩
  have hgo := HGoes.write hs ho hm hwr hvl (by rw [List.length_map, hlen2]; omega)
  rw [Sort.putRow_ahead]
  exact hgo.trans (HGoes.garbage hgo.sim k os)
end
section
attribute [local instance] EH
theorem Sv {P : Program} {gb : Nat} (heb : ∀ us w, (callFunc gb us).run P w = .ok (.enter gb us) w) {callf : eP} (hC : jg P callf) (cf : Str → Str → Int) (hcf : ∀ x y, ∃ H', callf gb [.str x, .str y] [] = some (.int .i64 (cf x y), H'))
  (x y : Str) (w : World) : Calls P gb #[Go.Proofs.encStr x, Go.Proofs.encStr y] w fun e w' => e = .returned (.int .i64 (cf x y)) ∧ ∃ q os', w' = Sort.grow (w.drewN q) os' := by
 have hs : HSim [] (fun _ => none) w := H8
 have hv : VL (fun _ => none) [.str x, .str y] (#[Go.Proofs.encStr x, Go.Proofs.encStr y] : Array Value).toList :=
  .cons (VR.str ⟨x.toArray⟩) (.cons (VR.str ⟨y.toArray⟩) .nil)
 obtain ⟨H', hcf⟩ := hcf x y
 rcases hC gb _ [] _ _ hcf (fun _ => none) w _ hs hv with ⟨v, w', h1, _⟩ | ⟨_, h⟩
 ·rw [heb] at h1; cases h1
 ·refine h.mono ?_
  rintro e w' ⟨v, rfl, μ', hg, hr⟩
  obtain ⟨n, rfl⟩ := hr.int_inv
  refine ⟨rfl, w'.drawn - w.drawn, w'.heap.extract w.heap.size w'.heap.size, ?_⟩
  have hd := hg.grow.drawn trivial
  have hh : w'.heap = w.heap ++ w'.heap.extract w.heap.size w'.heap.size := by
   apply Array.ext_getElem?
   intro i
   by_cases hi : i < w.heap.size
   ·rw [Array.getElem?_append_left hi]
    exact hg.grow.same i hi (by rintro (⟨id, o, m, h, _⟩ | h) <;> simp at h)
   ·rw [Array.getElem?_append_right (by omega), Array.getElem?_extract]
    by_cases hj : i < w'.heap.size
    ·rw [if_pos (by omega)]
     congr 1
     omega
    ·rw [if_neg (by omega), Array.getElem?_eq_none (by omega)]
  obtain ⟨h', t', d', o', u'⟩ := w'
  obtain ⟨h0, t0, d0, o0, u0⟩ := w
  have e1 := hg.grow.os
  have e2 := hg.grow.tape
  have e3 := hg.grow.output
  simp only at e1 e2 e3 hd hh ⊢
  subst e1 e2 e3
  show _ = World.mk _ _ _ _ _
  congr 1
  show _ = d0 + (d' - d0)
  omega
end
end Go.Lite
end
section
namespace Go.Proofs
open Go.Shelf
def Tryz.laysSort_ren : Go.Shelf.Ren := ⟨fun | 190 => 311 | 125 => 340 | 258 => 348 | 128 => 368 | 129 => 369 | 302 => 373 | 303 => 374 | 304 => 375 | 305 => 376 | 306 => 377 | 307 => 378 | 308 => 379 | 309 => 380 | 310 => 381 | 333 => 393 | 329 => 388 | 330 => 389 | 334 => 394 | 335 => 395 | 336 => 333 | 344 => 398 | n => n, fun | 31 => 30 | 9 => 9 | 3 => 3 | 46 => 348 | 0 => 0 | 51 => 371 | 53 => 373 | 4 => 4 | 183 => 365 | 182 => 364 | 131 => 237 | 5 => 5 | 218 => 387 | 222 => 391 | 228 => 395 | 229 => 235 | n => n, fun | n => n⟩
theorem Tryz.laysSort : Go.Proofs.Lays.n190 Tryz.prog Tryz.laysSort_ren := {
 mixed := by kernel_rfl
 f125 := Tryz.func340.trans (congrArg some (by kernel_rfl))
 f128 := Tryz.func368.trans (congrArg some (by kernel_rfl))
 f129 := Tryz.func369.trans (congrArg some (by kernel_rfl))
 f190 := Tryz.func311.trans (congrArg some (by kernel_rfl))
 f258 := Tryz.func348.trans (congrArg some (by kernel_rfl))
 f302 := Tryz.func373.trans (congrArg some (by kernel_rfl))
 f303 := Tryz.func374.trans (congrArg some (by kernel_rfl))
 f304 := Tryz.func375.trans (congrArg some (by kernel_rfl))
 f305 := Tryz.func376.trans (congrArg some (by kernel_rfl))
 f306 := Tryz.func377.trans (congrArg some (by kernel_rfl))
 f307 := Tryz.func378.trans (congrArg some (by kernel_rfl))
 f308 := Tryz.func379.trans (congrArg some (by kernel_rfl))
 f309 := Tryz.func380.trans (congrArg some (by kernel_rfl))
 f310 := Tryz.func381.trans (congrArg some (by kernel_rfl))
 f329 := Tryz.func388.trans (congrArg some (by kernel_rfl))
 f330 := Tryz.func389.trans (congrArg some (by kernel_rfl))
 f333 := Tryz.func393.trans (congrArg some (by kernel_rfl))
 f334 := Tryz.func394.trans (congrArg some (by kernel_rfl))
 f335 := Tryz.func395.trans (congrArg some (by kernel_rfl))
 f336 := Tryz.func333.trans (congrArg some (by kernel_rfl))
 f344 := Tryz.func398.trans (congrArg some (by kernel_rfl))
 t0 := Tryz.underlying0
 a0 := Tryz.isAgg0
 z0 := Tryz.sizeOf0
 v0 := Tryz.zeroValue0
 t3 := Tryz.underlying3
 a3 := Tryz.isAgg3
 z3 := Tryz.sizeOf3
 v3 := Tryz.zeroValue3
 t4 := Tryz.underlying4
 a4 := Tryz.isAgg4
 z4 := Tryz.sizeOf4
 v4 := Tryz.zeroValue4
 t5 := Tryz.underlying5
 a5 := Tryz.isAgg5
 z5 := Tryz.sizeOf5
 v5 := Tryz.zeroValue5
 t9 := Tryz.underlying9
 a9 := Tryz.isAgg9
 z9 := Tryz.sizeOf9
 v9 := Tryz.zeroValue9
 t31 := Tryz.underlying30
 a31 := Tryz.isAgg30
 z31 := Tryz.sizeOf30
 v31 := Tryz.zeroValue30
 t46 := Tryz.underlying348
 a46 := Tryz.isAgg348
 z46 := Tryz.sizeOf348
 v46 := Tryz.zeroValue348
 t51 := Tryz.underlying371
 a51 := Tryz.isAgg371
 z51 := Tryz.sizeOf371
 v51 := Tryz.zeroValue371
 t53 := Tryz.underlying373
 a53 := Tryz.isAgg373
 z53 := Tryz.sizeOf373
 v53 := Tryz.zeroValue373
 t131 := Tryz.underlying237
 a131 := Tryz.isAgg237
 z131 := Tryz.sizeOf237
 v131 := Tryz.zeroValue237
 t182 := Tryz.underlying364
 a182 := Tryz.isAgg364
 z182 := Tryz.sizeOf364
 v182 := Tryz.zeroValue364
 t183 := Tryz.underlying365
 a183 := Tryz.isAgg365
 z183 := Tryz.sizeOf365
 v183 := Tryz.zeroValue365
 t218 := Tryz.underlying387
 a218 := Tryz.isAgg387
 z218 := Tryz.sizeOf387
 v218 := Tryz.zeroValue387
 t222 := Tryz.underlying391
 a222 := Tryz.isAgg391
 z222 := Tryz.sizeOf391
 v222 := Tryz.zeroValue391
 t228 := Tryz.underlying395
 a228 := Tryz.isAgg395
 z228 := Tryz.sizeOf395
 v228 := Tryz.zeroValue395
 t229 := Tryz.underlying235
 a229 := Tryz.isAgg235
 z229 := Tryz.sizeOf235
 v229 := Tryz.zeroValue235 }
def Tryz.laySortF_ren : Go.Shelf.Ren := ⟨fun | 6 => 291 | 15 => 340 | 14 => 339 | 28 => 368 | 29 => 369 | 20 => 360 | 21 => 361 | 22 => 362 | 23 => 363 | 24 => 364 | 25 => 365 | 26 => 366 | 27 => 367 | 46 => 387 | 47 => 388 | 48 => 389 | 49 => 390 | 50 => 391 | 57 => 396 | n => n, fun | 22 => 30 | 24 => 9 | 25 => 280 | 3 => 3 | 39 => 348 | 0 => 0 | 53 => 371 | 55 => 373 | 4 => 4 | 46 => 365 | 45 => 364 | 50 => 237 | 5 => 5 | 9 => 9 | 66 => 387 | 70 => 391 | 76 => 395 | 77 => 235 | n => n, fun | n => n⟩
theorem Tryz.laySortF : Go.Proofs.SlLaysF.n6 Tryz.prog Tryz.laySortF_ren := {
 mixed := by kernel_rfl
 f6 := ⟨Tryz.f291.name, by decide, Tryz.func291.trans (congrArg some (by kernel_rfl))⟩
 f14 := ⟨Tryz.f339.name, by decide, Tryz.func339.trans (congrArg some (by kernel_rfl))⟩
 f15 := Tryz.func340.trans (congrArg some (by kernel_rfl))
 f20 := ⟨Tryz.f360.name, by decide, Tryz.func360.trans (congrArg some (by kernel_rfl))⟩
 f21 := ⟨Tryz.f361.name, by decide, Tryz.func361.trans (congrArg some (by kernel_rfl))⟩
 f22 := ⟨Tryz.f362.name, by decide, Tryz.func362.trans (congrArg some (by kernel_rfl))⟩
 f23 := ⟨Tryz.f363.name, by decide, Tryz.func363.trans (congrArg some (by kernel_rfl))⟩
 f24 := ⟨Tryz.f364.name, by decide, Tryz.func364.trans (congrArg some (by kernel_rfl))⟩
 f25 := ⟨Tryz.f365.name, by decide, Tryz.func365.trans (congrArg some (by kernel_rfl))⟩
 f26 := ⟨Tryz.f366.name, by decide, Tryz.func366.trans (congrArg some (by kernel_rfl))⟩
 f27 := ⟨Tryz.f367.name, by decide, Tryz.func367.trans (congrArg some (by kernel_rfl))⟩
 f28 := Tryz.func368.trans (congrArg some (by kernel_rfl))
 f29 := Tryz.func369.trans (congrArg some (by kernel_rfl))
 f46 := ⟨Tryz.f387.name, by decide, Tryz.func387.trans (congrArg some (by kernel_rfl))⟩
 f47 := Tryz.func388.trans (congrArg some (by kernel_rfl))
 f48 := Tryz.func389.trans (congrArg some (by kernel_rfl))
 f49 := ⟨Tryz.f390.name, by decide, Tryz.func390.trans (congrArg some (by kernel_rfl))⟩
 f50 := ⟨Tryz.f391.name, by decide, Tryz.func391.trans (congrArg some (by kernel_rfl))⟩
 f57 := ⟨Tryz.f396.name, by decide, Tryz.func396.trans (congrArg some (by kernel_rfl))⟩
 t0 := Tryz.underlying0
 a0 := Tryz.isAgg0
 z0 := Tryz.sizeOf0
 v0 := Tryz.zeroValue0
 t3 := Tryz.underlying3
 a3 := Tryz.isAgg3
 z3 := Tryz.sizeOf3
 v3 := Tryz.zeroValue3
 t4 := Tryz.underlying4
 a4 := Tryz.isAgg4
 z4 := Tryz.sizeOf4
 v4 := Tryz.zeroValue4
 t5 := Tryz.underlying5
 a5 := Tryz.isAgg5
 z5 := Tryz.sizeOf5
 v5 := Tryz.zeroValue5
 t9 := Tryz.underlying9
 a9 := Tryz.isAgg9
 z9 := Tryz.sizeOf9
 v9 := Tryz.zeroValue9
 t22 := Tryz.underlying30
 a22 := Tryz.isAgg30
 z22 := Tryz.sizeOf30
 v22 := Tryz.zeroValue30
 a24 := Tryz.isAgg9
 z24 := Tryz.sizeOf9
 t25 := Tryz.underlying280
 a25 := Tryz.isAgg280
 z25 := Tryz.sizeOf280
 v25 := Tryz.zeroValue280
 t39 := Tryz.underlying348
 a39 := Tryz.isAgg348
 z39 := Tryz.sizeOf348
 v39 := Tryz.zeroValue348
 t45 := Tryz.underlying364
 a45 := Tryz.isAgg364
 z45 := Tryz.sizeOf364
 v45 := Tryz.zeroValue364
 t46 := Tryz.underlying365
 a46 := Tryz.isAgg365
 z46 := Tryz.sizeOf365
 v46 := Tryz.zeroValue365
 t50 := Tryz.underlying237
 a50 := Tryz.isAgg237
 z50 := Tryz.sizeOf237
 v50 := Tryz.zeroValue237
 t53 := Tryz.underlying371
 a53 := Tryz.isAgg371
 z53 := Tryz.sizeOf371
 v53 := Tryz.zeroValue371
 t55 := Tryz.underlying373
 a55 := Tryz.isAgg373
 z55 := Tryz.sizeOf373
 v55 := Tryz.zeroValue373
 t66 := Tryz.underlying387
 a66 := Tryz.isAgg387
 z66 := Tryz.sizeOf387
 v66 := Tryz.zeroValue387
 t70 := Tryz.underlying391
 a70 := Tryz.isAgg391
 z70 := Tryz.sizeOf391
 v70 := Tryz.zeroValue391
 t76 := Tryz.underlying395
 a76 := Tryz.isAgg395
 z76 := Tryz.sizeOf395
 v76 := Tryz.zeroValue395
 t77 := Tryz.underlying235
 a77 := Tryz.isAgg235
 z77 := Tryz.sizeOf235
 v77 := Tryz.zeroValue235 }
end Go.Proofs
end
section
namespace Go.Proofs.Try1
open Go Go.Lite
theorem MS : jT Tryz.prog 291 (jA 238) := by
 have eb := enters Tryz.func238 (by kernel_rfl) (by kernel_rfl)
 refine AP Vd (enters Tryz.func291 (by kernel_rfl) (by kernel_rfl)) (fun blk off cap zs w hH hb hl => ?_)
  (fun p cap w => AnyF.slices_SortFunc_none (P := Tryz.prog) (ρ := Tryz.laySortF_ren) { Tryz.laySortF with } p cap _ w)
 exact Any.slices_SortFunc_eq Tryz.laySortF Go.Proofs.encStr (fun _ => rfl) yu Vd 238 #[] blk off cap zs.toArray w eb
  (fun m os dk hs x y => Sv eb (@Gp EH _ _ (@Lr EH)) yu (fun x y => ⟨[], Try0.i_byNorm⟩) x y _) hH hb (by simpa using hl)
theorem Tq : jT Tryz.prog 311 kS :=
 Gz (enters Tryz.func311 (by kernel_rfl) (by kernel_rfl))
  (fun blk off cap zs w hH hb hl => xU fun D => AnyS.slices_Sort_string_alone Tryz.laysSort D blk off cap zs w hH hb hl)
  (fun p cap w => xU fun D => AnyS.slices_Sort_string_none_alone Tryz.laysSort D p cap w)
end Go.Proofs.Try1
end
section
namespace Go.Proofs.InsAttr
open Go Go.Lib Go.RowKit Go.Shelf
abbrev zV : Value := .agg #[.string ⟨#[]⟩, .slice none 0 0]
theorem info : (Tryz.prog.info? 188).map (fun i => (i.zero, i.size, i.bytes)) = some (some zV, 2, 40) := by kernel_rfl
theorem Qp : ∀ w, (Go.sizeOf 188).run Tryz.prog w = .ok 2 w := Tryz.sizeOf188
theorem wF {P : Program} (w : World) (dT sT ty elem : TypeId) (b o dLen dCap : Nat) (a : Addr) (sLen sCap k : Nat) (cs : List Value)
  (hu : P.underlying dT = some (.slice elem)) (hs : (P.info? elem).map (·.size) = some 2) (hk : k = Nat.min sLen dLen) (hn : cs.length = k * 2)
  (hsrc : ∀ j v, cs[j]? = some v → w.cell? (a.add j) = some v) (hc : ∀ j, j < cs.length → (w.cell? ⟨b, o + j, none⟩).isSome = true) (hf : ∀ j, j < cs.length → w.frozen? ⟨b, o + j, none⟩ = false) (h1 : ∀ v ∈ cs, v.oneCell' = true) :
  (Builtin.copy_ #[dT, sT] ty #[.slice (some ⟨b, o, none⟩) dLen dCap, .slice (some a) sLen sCap]).run P w = .ok (goInt k) (w.setCells b o cs) := by
 have hl := run_loadCells_list (P := P) w a cs hsrc
 have hst := run_storeCells_cells (P := P) b o cs 0 w (by simpa using hc) (by simpa using hf) h1
 rw [hn] at hl
 cases hq : P.info? elem with
 | none => simp [hq] at hs
 | some i =>
  have hi : i.size = 2 := by simpa [hq] using hs
  simp [Builtin.copy_, run_underlying hu, Builtin.lenOf, Builtin.firstCells, sizeOf, typeInfo, hq, hi, ← hk, hl, hst]
theorem TB : (Tryz.prog.info? 188).map (·.size) = some 2 := by
 obtain ⟨i0, hi0, h0, h1, h2⟩ := info_parts info
 rw [hi0]; simp [h1]
theorem shift (b off n c i vb vo vc : Nat) (cs vs : List Value) (w : World) (hi : i < n) (hroom : n + 1 ≤ c) (hn63 : n ≤ 1000000) (hvb : vb ≠ b)
  (hcl : cs.length = n * 2) (hvl : vs.length = 2)
  (hcs : ∀ j v, cs[j]? = some v → w.cell? ⟨b, off + j, none⟩ = some v) (hsp : ∀ j, j < (n + 1) * 2 → (w.cell? ⟨b, off + j, none⟩).isSome = true) (hfz : ∀ j, j < (n + 1) * 2 → w.frozen? ⟨b, off + j, none⟩ = false)
  (hvs : ∀ j v, vs[j]? = some v → w.cell? ⟨vb, vo + j, none⟩ = some v) (h1c : ∀ v ∈ cs, v.oneCell' = true) (h1v : ∀ v ∈ vs, v.oneCell' = true)
  (tA tB : TypeId) (kA kB : Nat) (hsa : w.shape? vb = some (tA, kA)) (hsb : w.shape? b = some (tB, kB)) (hkB : kB ≠ 0) (hfa : w.frozen? ⟨vb, vo, none⟩ = false) (hfe : w.frozen? ⟨vb, kA, none⟩ = false) :
  Calls Tryz.prog 341 #[.slice (some ⟨b, off, none⟩) n c, .int .i64 i, .slice (some ⟨vb, vo, none⟩) 1 vc] w fun e w' =>
   e = .returned (.slice (some ⟨b, off, none⟩) (n + 1) c) ∧ w' = (w.drew.setCells b (off + (i + 1) * 2) (cs.drop (i * 2))).setCells b (off + i * 2) vs := by
 have hz2 : ¬ ((i : Int) = (n : Int)) := by omega
 have hov : ∀ lb cb, (callFunc 370 #[.slice (some ⟨vb, vo, none⟩) 1 vc, .slice (some ⟨b, off + (i + 1) * 2, none⟩) lb cb]).run Tryz.prog w = .ok (.value (.bool false)) w := fun lb cb => by
  rw [run_callFunc_extern Tryz.func370 (by kernel_rfl) (by kernel_rfl) (by kernel_rfl) (e := Extern.SlicesOverlaps.overlaps #[41, 41] #[4]) (by kernel_rfl),
   Lib.run_overlaps_apart w 41 4 188 Tryz.underlying41 2 Qp ⟨vb, vo, none⟩ ⟨b, off + (i + 1) * 2, none⟩ 1 vc lb cb hvb tA tB kA kB hsa hsb hkB hfa hfe]
  rfl
 have hdl : (cs.drop (i * 2)).length = (n - i) * 2 := by rw [List.length_drop, hcl]; omega
 have hw1 : IntKind.i64.wrap ((i : Int) + 1) = (i : Int) + 1 := by rw [IntKind.wrap_i64]; omega
 have hw2 : IntKind.i64.wrap ((n : Int) + 1) = (n : Int) + 1 := by rw [IntKind.wrap_i64]; omega
 have hb1 : (0 : Int) ≤ (i : Int) + 1 := by omega
 have hb0 : (0 : Int) ≤ (n : Int) + 1 := by omega
 have hin : i ≤ n := by omega
 have htn : ((i : Int) + 1).toNat = i + 1 := by omega
 have htn2 : ((n : Int) + 1).toNat = n + 1 := by omega
 have hb2 : ¬ (c = i + 1) := by omega
 have hb3 : (i : Int) ≤ (n : Int) + 1 := by omega
 have hb5 : (i : Int) + 1 ≤ (n : Int) + 1 := by omega
 have hb6 : ¬ ((c : Int) < (n : Int) + 1) := by omega
 have hb7 : (n : Int) + 1 ≤ c := by omega
 have hb4 : ¬ (c = i) := by omega
 have hcp1 : ∀ ty dc sc, (Builtin.copy_ #[41, 41] ty #[.slice (some ⟨b, off + (i + 1) * 2, none⟩) (n - i) dc, .slice (some ⟨b, off + i * 2, none⟩) (n + 1 - i) sc]).run Tryz.prog w.drew = .ok (goInt ((n - i : Nat) : Int)) (w.drew.setCells b (off + (i + 1) * 2) (cs.drop (i * 2))) := fun ty dc sc =>
  wF w.drew _ _ ty 188 b (off + (i + 1) * 2) (n - i) dc ⟨b, off + i * 2, none⟩ (n + 1 - i) sc (n - i) (cs.drop (i * 2)) Tryz.underlying41 TB (by simp only [Nat.min_def]; split <;> omega) hdl
   (fun j v hj => by rw [Addr.add_lit, Nat.add_assoc]; exact hcs (i * 2 + j) v (by rwa [List.getElem?_drop] at hj))
   (fun j hj => by rw [Nat.add_assoc]; exact hsp _ (by omega)) (fun j hj => by rw [Nat.add_assoc]; exact hfz _ (by omega)) (fun v hv => h1c v (List.mem_of_mem_drop hv))
 obtain ⟨W1, hW1⟩ : ∃ W1, W1 = w.drew.setCells b (off + (i + 1) * 2) (cs.drop (i * 2)) := ⟨_, rfl⟩
 have hsp1 : ∀ k, k < (n + 1) * 2 → (W1.cell? ⟨b, off + k, none⟩).isSome = true := fun k hk => by
  rw [hW1]
  exact isSome_setCells b _ _ _ (fun j hj => by rw [Nat.add_assoc]; exact hsp _ (by omega)) _ (hsp k hk)
 have hcp2 : ∀ (W : World), (∀ x, W.cell? x = W1.cell? x) → (∀ x, W.frozen? x = W1.frozen? x) → ∀ ty dc, (Builtin.copy_ #[41, 41] ty #[.slice (some ⟨b, off + i * 2, none⟩) (n + 1 - i) dc, .slice (some ⟨vb, vo, none⟩) 1 vc]).run Tryz.prog W = .ok (goInt 1) (W.setCells b (off + i * 2) vs) := fun W hWc hWf ty dc =>
  wF W _ _ ty 188 b (off + i * 2) (n + 1 - i) dc ⟨vb, vo, none⟩ 1 vc 1 vs Tryz.underlying41 TB (by simp only [Nat.min_def]; split <;> omega) (by omega)
   (fun j v hj => by
    rw [Addr.add_lit, hWc, hW1, World.cell?_setCells_out b _ _ _ _ (fun h _ => absurd h hvb)]
    exact hvs j v hj)
   (fun j hj => by rw [hWc, Nat.add_assoc]; exact hsp1 _ (by omega)) (fun j hj => by rw [hWf, hW1, World.frozen?_setCells, Nat.add_assoc]; exact hfz _ (by omega)) h1v
 rw [← hW1] at hcp1
 have mixed : Tryz.prog.follows .mixedOrders = true := rfl
 go_enter Tryz.func341, Tryz.ntmps341
 go_wp2_with (simp only [hov])
 go_region_law_o (refine step_copy_runI rfl _ _ 41 41 rfl _ _ (by simp [Act.eval, Act.put]) (by simp [Act.eval, Act.put]) (hcp1 _ _ _) ?_)
 go_wp2_with (at_builtin; refine wpList_copy_runI _ rfl _ _ 41 41 rfl _ _ rfl rfl (hcp2 _ (fun _ => rfl) (fun _ => rfl) _ _) ?_)
 go_ret
 first | exact ⟨rfl, rfl⟩ | exact ⟨rfl, by rw [hW1]⟩
theorem endRoom (b off n c vb vo vc : Nat) (vs : List Value) (w : World) (hroom : n + 1 ≤ c) (hn63 : n ≤ 1000000)
  (hvl : vs.length = 2) (hsp : ∀ j, j < 2 → (w.cell? ⟨b, off + n * 2 + j, none⟩).isSome = true) (hfz : ∀ j, j < 2 → w.frozen? ⟨b, off + n * 2 + j, none⟩ = false)
  (hvs : ∀ j v, vs[j]? = some v → w.cell? ⟨vb, vo + j, none⟩ = some v) (h1v : ∀ v ∈ vs, v.oneCell' = true) :
  Calls Tryz.prog 341 #[.slice (some ⟨b, off, none⟩) n c, .int .i64 n, .slice (some ⟨vb, vo, none⟩) 1 vc] w fun e w' =>
   e = .returned (.slice (some ⟨b, off, none⟩) (n + 1) c) ∧ w' = w.setCells b (off + n * 2) vs := by
 have mixed : Tryz.prog.follows .mixedOrders = true := rfl
 obtain ⟨i0, hi0, hz0, hzs, hzb⟩ := info_parts info
 have hsrc : Src Tryz.prog i0.size 41 (.slice (some ⟨vb, vo, none⟩) 1 vc) 1 vs w := by
  rw [hzs]
  exact Src.ofSlice w Tryz.underlying41 ⟨vb, vo, none⟩ 1 vc vs (by omega) (fun j u hj => by rw [Addr.add_lit]; exact hvs j u hj) h1v
 go_enter Tryz.func341, Tryz.ntmps341
 go_wp2_with (at_builtin; refine wpList_append_room_src _ rfl _ _ 41 41 rfl 188 i0 Tryz.underlying41 hi0 b off n c rfl _ rfl 1 vs hsrc hroom (by rw [hvl, hzs]; exact hsp) (by rw [hvl, hzs]; exact hfz) ?_)
 go_ret
 exact ⟨rfl, rfl⟩
theorem endGrow (base : Option Addr) (n c vb vo vc : Nat) (cs vs : List Value) (w : World) (hnc : n ≤ c) (hroom : c < n + 1) (hbig : (n + 1) * 40 ≤ 140737488355328)
  (hcl : cs.length = n * 2) (hvl : vs.length = 2) (hnil : base = none → n = 0)
  (hcs : ∀ a, base = some a → ∀ j v, cs[j]? = some v → w.cell? (a.add j) = some v)
  (hvs : ∀ j v, vs[j]? = some v → w.cell? ⟨vb, vo + j, none⟩ = some v) (h1v : ∀ v ∈ vs, v.oneCell' = true) :
  Calls Tryz.prog 341 #[.slice base n c, .int .i64 n, .slice (some ⟨vb, vo, none⟩) 1 vc] w fun e w' =>
   e = .returned (.slice (some ⟨w.heap.size, 0, none⟩) (n + 1) (grownCap w (n + 1) c 188)) ∧
   w' = w.drew.alloc (.cells ((cs ++ vs).toArray ++ Builtin.zeroCells zV.cells (grownCap w (n + 1) c 188 - (n + 1))) 188) := by
 have mixed : Tryz.prog.follows .mixedOrders = true := rfl
 obtain ⟨i0, hi0, hz0, hzs, hzb⟩ := info_parts info
 have hsrc : Src Tryz.prog i0.size 41 (.slice (some ⟨vb, vo, none⟩) 1 vc) 1 vs w := by
  rw [hzs]
  exact Src.ofSlice w Tryz.underlying41 ⟨vb, vo, none⟩ 1 vc vs (by omega) (fun j u hj => by rw [Addr.add_lit]; exact hvs j u hj) h1v
 have hold : (Builtin.firstCells i0.size n (.slice base n c)).run Tryz.prog w.drew = .ok cs.toArray w.drew := by
  rw [hzs]
  cases base with
  | none =>
   have h0 := hnil rfl
   subst h0
   rw [List.length_eq_zero_iff.1 (by omega : cs.length = 0)]
   exact run_firstCells_none w.drew 2 0 0 c
  | some a => exact run_firstCells_some w.drew 2 n a n c cs (by omega) (fun j v hj => hcs a rfl j v hj)
 have hrun : ∀ ty, (Builtin.append_ #[41, 41] ty #[.slice base n c, .slice (some ⟨vb, vo, none⟩) 1 vc]).run Tryz.prog w = _ := fun ty =>
  run_append_grow_src w 41 41 ty 188 i0 _ Tryz.underlying41 hi0 hz0 base n c cs hold _ 1 vs hsrc hroom (by omega) (by rw [hzb]; exact growslice_fits hroom hbig)
 go_enter Tryz.func341, Tryz.ntmps341
 cases base with
 | none =>
  have h0 := hnil rfl
  subst h0
  go_wp2_with (at_builtin; refine Lib.wpList_append_run _ rfl _ _ _ _ rfl _ _ rfl rfl _ _ (hrun _) ?_)
  go_ret
  exact ⟨rfl, rfl⟩
 | some a =>
  obtain ⟨ab, ao, asp⟩ := a
  go_wp2_with (at_builtin; refine Lib.wpList_append_run _ rfl _ _ _ _ rfl _ _ rfl rfl _ _ (hrun _) ?_)
  all_goals (go_ret; exact ⟨rfl, rfl⟩)
theorem grow (b off n c i vb vo vc : Nat) (cs vs : List Value) (w : World) (hi : i < n) (hnc : n ≤ c) (hroom : c < n + 1) (hbig : (n + 1) * 40 ≤ 140737488355328)
  (hcl : cs.length = n * 2) (hvl : vs.length = 2)
  (hcs : ∀ j v, cs[j]? = some v → w.cell? ⟨b, off + j, none⟩ = some v)
  (hvs : ∀ j v, vs[j]? = some v → w.cell? ⟨vb, vo + j, none⟩ = some v) (h1c : ∀ v ∈ cs, v.oneCell' = true) (h1v : ∀ v ∈ vs, v.oneCell' = true) :
  Calls Tryz.prog 341 #[.slice (some ⟨b, off, none⟩) n c, .int .i64 i, .slice (some ⟨vb, vo, none⟩) 1 vc] w fun e w' =>
   e = .returned (.slice (some ⟨w.heap.size, 0, none⟩) (n + 1) (grownCap w (n + 1) c 188)) ∧
   w' = (((w.alloc (.cells ((cs.take (i * 2)).toArray ++ Builtin.zeroCells zV.cells (n + 1 - i) ++ Builtin.zeroCells zV.cells (grownCap w (n + 1) c 188 - (n + 1))) 188)).drew.setCells w.heap.size (i * 2) vs).drew).setCells w.heap.size ((i + 1) * 2) (cs.drop (i * 2)) := by
 have mixed : Tryz.prog.follows .mixedOrders = true := rfl
 obtain ⟨i0, hi0, hz0, hzs, hzb⟩ := info_parts info
 have hz2 : ¬ ((i : Int) = (n : Int)) := by omega
 have hz3 : (c : Int) < (n : Int) + 1 := by omega
 have hbw : b < w.heap.size := block_lt_of_cell (hcs 0 _ (List.getElem?_eq_getElem (by omega)))
 have hvw : vb < w.heap.size := block_lt_of_cell (hvs 0 _ (List.getElem?_eq_getElem (by omega)))
 have hkk : (n : Int) + 1 - (i : Int) = ((n + 1 - i : Nat) : Int) := by omega
 have hik : i + (n + 1 - i) = n + 1 := by omega
 have hold : (Builtin.firstCells i0.size i (.slice (some ⟨b, off, none⟩) i c)).run Tryz.prog w.drew = .ok (cs.take (i * 2)).toArray w.drew := by
  rw [hzs]
  exact run_firstCells_some w.drew 2 i ⟨b, off, none⟩ i c (cs.take (i * 2)) (by rw [List.length_take]; omega) (fun j v hj => by
   rw [Addr.add_lit]
   rw [List.getElem?_take] at hj
   split at hj
   ·exact hcs j v hj
   ·cases hj)
 have hrz : ∀ ty, (Builtin.append_ #[41, 3] ty #[.slice (some ⟨b, off, none⟩) i c, .int .i64 ((n : Int) + 1 - (i : Int))]).run Tryz.prog w =
   .ok (.slice (some ⟨w.heap.size, 0, none⟩) (n + 1) (grownCap w (n + 1) c 188)) (w.drew.alloc (.cells ((cs.take (i * 2)).toArray ++ Builtin.zeroCells zV.cells (n + 1 - i) ++ Builtin.zeroCells zV.cells (grownCap w (n + 1) c 188 - (n + 1))) 188)) := fun ty => by
  have h := Lib.run_append_grow_zeros w 41 3 ty 188 i0 _ .i64 .i64 Tryz.underlying41 Tryz.underlying3 hi0 hz0 (some ⟨b, off, none⟩) i c (cs.take (i * 2)) hold (n + 1 - i) (by omega) (by omega) (by omega) (by omega) (by rw [hzb]; omega) (by rw [hzb, hik]; exact growslice_fits hroom hbig)
  rw [hik] at h
  rw [hkk]
  exact h
 obtain ⟨G, hG⟩ : ∃ G, G = grownCap w (n + 1) c 188 := ⟨_, rfl⟩
 obtain ⟨ROW, hROW⟩ : ∃ ROW : Array Value, ROW = (cs.take (i * 2)).toArray ++ Builtin.zeroCells zV.cells (n + 1 - i) ++ Builtin.zeroCells zV.cells (G - (n + 1)) := ⟨_, rfl⟩
 rw [← hG] at hrz ⊢
 rw [← hROW] at hrz ⊢
 have hRl : (n + 1) * 2 ≤ ROW.size := by
  rw [hROW]
  simp [Builtin.zeroCells, Value.cells]
  omega
 obtain ⟨W1, hW1⟩ : ∃ W1, W1 = w.drew.alloc (.cells ROW 188) := ⟨_, rfl⟩
 rw [← hW1] at hrz
 have hN : ∀ j, j < (n + 1) * 2 → (W1.cell? ⟨w.heap.size, j, none⟩).isSome = true := fun j hj => by
  rw [hW1, World.cell?_alloc_at (w := w.drew) ROW _ w.heap.size j rfl, Array.getElem?_eq_getElem (by omega)]; rfl
 have hNf : ∀ j, W1.frozen? ⟨w.heap.size, j, none⟩ = false := fun j => by rw [hW1]; exact World.frozen?_alloc_at (w := w.drew) ROW _ w.heap.size j rfl
 have hOb : ∀ j v, w.cell? ⟨b, j, none⟩ = some v → W1.cell? ⟨b, j, none⟩ = some v := fun j v h => by rw [hW1, World.cell?_alloc_past (w := w.drew) _ b j hbw]; exact h
 have hOv : ∀ j v, w.cell? ⟨vb, j, none⟩ = some v → W1.cell? ⟨vb, j, none⟩ = some v := fun j v h => by rw [hW1, World.cell?_alloc_past (w := w.drew) _ vb j hvw]; exact h
 have hcpA : ∀ (W : World), (∀ x, W.cell? x = W1.cell? x) → (∀ x, W.frozen? x = W1.frozen? x) → ∀ ty dc, (Builtin.copy_ #[41, 41] ty #[.slice (some ⟨w.heap.size, i * 2, none⟩) (n + 1 - i) dc, .slice (some ⟨vb, vo, none⟩) 1 vc]).run Tryz.prog W = .ok (goInt 1) (W.setCells w.heap.size (i * 2) vs) := fun W hWc hWf ty dc =>
  wF W _ _ ty 188 w.heap.size (i * 2) (n + 1 - i) dc ⟨vb, vo, none⟩ 1 vc 1 vs Tryz.underlying41 TB (by simp only [Nat.min_def]; split <;> omega) (by omega)
   (fun j v hj => by rw [Addr.add_lit, hWc]; exact hOv _ v (hvs j v hj))
   (fun j hj => by rw [hWc]; exact hN _ (by omega)) (fun j hj => by rw [hWf]; exact hNf _) h1v
 have hGn : n + 1 ≤ G := by rw [hG]; exact grownCap_ge w _ _ _
 have hG63 : G ≤ 9223372036854775807 := by
  have := grownCap_le_maxLen w (n + 1) c 188 (by unfold maxLen; omega)
  rw [← hG] at this
  unfold maxLen at this
  omega
 have hGi : ¬ (G = i) := by omega
 have hGim : ¬ (G = i + 1) := by omega
 have hci : ¬ (c = i) := by omega
 have hbN : b ≠ w.heap.size := by omega
 have hdl : (cs.drop (i * 2)).length = (n - i) * 2 := by rw [List.length_drop, hcl]; omega
 have hcpB : ∀ (W : World), (∀ x, W.cell? x = (W1.setCells w.heap.size (i * 2) vs).cell? x) → (∀ x, W.frozen? x = (W1.setCells w.heap.size (i * 2) vs).frozen? x) → ∀ ty dc sc, (Builtin.copy_ #[41, 41] ty #[.slice (some ⟨w.heap.size, (i + 1) * 2, none⟩) (n - i) dc, .slice (some ⟨b, off + i * 2, none⟩) (n - i) sc]).run Tryz.prog W = .ok (goInt ((n - i : Nat) : Int)) (W.setCells w.heap.size ((i + 1) * 2) (cs.drop (i * 2))) := fun W hWc hWf ty dc sc =>
  wF W _ _ ty 188 w.heap.size ((i + 1) * 2) (n - i) dc ⟨b, off + i * 2, none⟩ (n - i) sc (n - i) (cs.drop (i * 2)) Tryz.underlying41 TB (by simp only [Nat.min_def]; split <;> omega) hdl
   (fun j v hj => by
    rw [Addr.add_lit, hWc, World.cell?_setCells_out _ _ _ _ _ (fun h _ => absurd h hbN), Nat.add_assoc]
    exact hOb _ v (hcs (i * 2 + j) v (by rwa [List.getElem?_drop] at hj)))
   (fun j hj => by rw [hWc]; exact isSome_setCells _ _ _ _ (fun t ht => hN _ (by omega)) _ (hN _ (by omega)))
   (fun j hj => by rw [hWf, World.frozen?_setCells]; exact hNf _) (fun v hv => h1c v (List.mem_of_mem_drop hv))
 subst hW1
 have hE1 : ∀ x, ((w.alloc (.cells ROW 188)).drew).cell? x = (w.drew.alloc (.cells ROW 188)).cell? x := fun x => rfl
 have hE2 : ∀ x, ((w.alloc (.cells ROW 188)).drew).frozen? x = (w.drew.alloc (.cells ROW 188)).frozen? x := fun x => rfl
 have hF1 : ∀ x, (((w.alloc (.cells ROW 188)).drew.setCells w.heap.size (i * 2) vs).drew).cell? x = ((w.drew.alloc (.cells ROW 188)).setCells w.heap.size (i * 2) vs).cell? x := fun x => rfl
 have hF2 : ∀ x, (((w.alloc (.cells ROW 188)).drew.setCells w.heap.size (i * 2) vs).drew).frozen? x = ((w.drew.alloc (.cells ROW 188)).setCells w.heap.size (i * 2) vs).frozen? x := fun x => rfl
 have hw1 : IntKind.i64.wrap ((i : Int) + 1) = (i : Int) + 1 := by rw [IntKind.wrap_i64]; omega
 have hw2 : IntKind.i64.wrap ((n : Int) + 1) = (n : Int) + 1 := by rw [IntKind.wrap_i64]; omega
 have hw3 : IntKind.i64.wrap ((n : Int) + 1 - i) = (n : Int) + 1 - i := by rw [IntKind.wrap_i64]; omega
 have hb1 : (0 : Int) ≤ (i : Int) + 1 := by omega
 have hin : i ≤ n := by omega
 have htn : ((i : Int) + 1).toNat = i + 1 := by omega
 have hb3 : (i : Int) ≤ (n : Int) := by omega
 clear hkk hik hold hROW hG hRl
 go_enter Tryz.func341, Tryz.ntmps341
 go_wp2_with (first
  | (at_builtin; refine Lib.wpList_append_run _ rfl _ _ _ _ rfl _ _ rfl rfl _ _ (hrz _) ?_)
  | (at_builtin; refine wpList_copy_runI _ rfl _ _ 41 41 rfl _ _ rfl rfl (hcpA _ hE1 hE2 _ _) ?_)
  | (at_builtin; refine wpList_copy_runI _ rfl _ _ 41 41 rfl _ _ rfl rfl (hcpB _ (fun _ => rfl) (fun _ => rfl) _ _ _) ?_))
 go_region_law_o (refine step_copy_runI rfl _ _ 41 41 rfl (.slice (some ⟨w.heap.size, (i + 1) * 2, none⟩) (n - i) (G - (i + 1))) (.slice (some ⟨b, off + i * 2, none⟩) (n - i) (c - i)) (by simp [Act.eval, Act.put]) (by simp [Act.eval, Act.put]) (hcpB _ hF1 hF2 3 (G - (i + 1)) (c - i)) ?_)
 go_wp2
 go_ret
 exact ⟨rfl, rfl⟩
end Go.Proofs.InsAttr
end
section
namespace Go.Proofs.Try1
open Go Go.Lite
theorem Kt : jT Tryz.prog 341 (fG 2) :=
 sW (T := 188) (zV := InsAttr.zV) (z := [.str [], .slc none 0]) (bytes := 40) (fun _ => .cons (VR.str .empty) (.cons .slcN .nil)) rfl (by decide)
  (enters Tryz.func341 (by kernel_rfl) (by kernel_rfl))
  InsAttr.shift InsAttr.endRoom InsAttr.endGrow InsAttr.grow
theorem progOk : ProgOk Tryz.prog C := xW mixed ok fun g pr h => by
 change primTab g = some pr at h
 unfold primTab at h
 split at h
 ·rename_i hg; subst hg; cases h; exact ae6
 split at h
 ·rename_i hg; subst hg; cases h; exact IU
 split at h
 ·rename_i hg; subst hg; cases h; exact MS
 split at h
 ·rename_i hg; subst hg; cases h; exact Tq
 split at h
 ·rename_i hg; subst hg; cases h; exact Kt
 split at h
 ·rename_i hg; subst hg; cases h; exact Ry
 split at h
 ·rename_i hg; subst hg; cases h; exact Ig
 cases h
end Go.Proofs.Try1
end
