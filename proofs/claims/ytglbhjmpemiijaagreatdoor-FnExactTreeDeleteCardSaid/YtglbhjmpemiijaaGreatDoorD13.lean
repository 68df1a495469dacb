/- Part 13 of the proof of a law: the interpreter, its soundness, and what functions of the program compute over it. Conditions: none but those that each theorem names. -/
import Derived.Test.YtglbhjmpemiijaaGreatDoorD12
import Derived.Test.YtglbhjmpemiijaaGreatDoorD04
import Derived.RangeFuncNested
import Derived.RangeFuncBound
import Derived.RangeFuncCalls
import Derived.RangeFuncLeaves
import Derived.Shelf.Abstract
import Derived.Shelf.RegionOpen
import Derived.WalkKit
import Derived.OwnWalkIn
import Derived.TacticsInMore
import Derived.LoopNIn
import Derived.LoopIn
import Derived.Test.YtglbhjmpemiijaaGreatDoorD05
import Derived.Shelf.SlGeneric
import Derived.Shelf.SlLaysF
import Derived.Shelf.Slices.In.SortAlone
import Derived.Ground.SlsfProg
import Derived.Ground.NamesProg
import Derived.Test.YtglbhjmpemiijaaGreatDoorProg
import Derived.Shelf.Slices.In.SortNone
import Derived.Test.YtglbhjmpemiijaaGreatDoorD06

section
namespace Go.Proofs.Try0
open Go Go.Lite
set_option linter.unusedSimpArgs false
set_option linter.unusedVariables false

/-- Ends the one text with the other? -/
def EndsWith (s w : Str) : Prop := w.length ≤ s.length ∧ s.drop (s.length - w.length) = w

set_option maxRecDepth 10000 in
theorem hasSuffix {s w : Str} {H : List Ob} (hs : s.length ≤ 1000000) (hw : w.length ≤ 1000000) : callW C 345 [.str s, .str w] H = some (.bool (dec (EndsWith s w)), H) := by
  apply Ret.dec
  rw [op345]
  by_cases h1 : (s.length : Int) ≥ w.length
  · have hw1 : IntKind.i64.wrap ((s.length : Int) - w.length) = (s.length : Int) - w.length := wrap_i64 (by omega) (by omega)
    have h2 : (w.length : Int) ≤ (s.length : Int) := h1
    have h3 : ((s.length : Int) - w.length).toNat = s.length - w.length := by omega
    have h4 : (0 : Int) ≤ (s.length : Int) - w.length := by omega
    have h5 : w.length ≤ s.length := by omega
    by_cases h6 : s.drop (s.length - w.length) = w
    · have hn : EndsWith s w := ⟨h5, h6⟩
      simp [code345, Tryz.f345, h1, h2, h3, h4, h5, hw1, h6, hn]
    · have hn : ¬ EndsWith s w := fun h => h6 h.2
      simp [code345, Tryz.f345, h1, h2, h3, h4, h5, hw1, h6, hn]
  · have hn : ¬ EndsWith s w := fun h => h1 (by have := h.1; omega)
    simp [code345, Tryz.f345, h1, hn]

noncomputable def trimEnd (s w : Str) : Str := if dec (EndsWith s w) = true then s.take (s.length - w.length) else s

set_option maxRecDepth 10000 in
theorem trimSuffixL {s w : Str} {H : List Ob} (hs : s.length ≤ 1000000) (hw : w.length ≤ 1000000) : callW C 256 [.str s, .str w] H = some (.str (trimEnd s w), H) := by
  apply Ret.eq
  rw [op256]
  have hc := hasSuffix (H := H) hs hw
  by_cases h : EndsWith s w
  · rw [dec_pos h] at hc
    have h0 := h.1
    have hw1 : IntKind.i64.wrap ((s.length : Int) - w.length) = (s.length : Int) - w.length := wrap_i64 (by omega) (by omega)
    have h2 : (w.length : Int) ≤ (s.length : Int) := by omega
    have h3 : ((s.length : Int) - w.length).toNat = s.length - w.length := by omega
    have ht : trimEnd s w = s.take (s.length - w.length) := by unfold trimEnd; rw [dec_pos h]; rfl
    simp [code256, Tryz.f256, hc, hw1, h2, h3, ht]
  · rw [dec_neg h] at hc
    have ht : trimEnd s w = s := by unfold trimEnd; rw [dec_neg h]; rfl
    simp [code256, Tryz.f256, hc, ht]

theorem trimEnd_sp {s : Str} : trimEnd s [32] = nfin s := by
  have he : EndsWith s [32] ↔ endSp s = true := by
    unfold EndsWith endSp
    cases hl : s.getLast? with
    | none =>
      have : s = [] := by simpa using hl
      subst this
      simp
    | some d =>
      have hne : s ≠ [] := by rintro rfl; simp at hl
      have h1 : 1 ≤ s.length := List.length_pos_iff.2 hne
      rw [List.getLast?_eq_getElem?] at hl
      have h2 : s.drop (s.length - 1) = [d] := by
        apply List.ext_getElem?
        intro j
        rw [List.getElem?_drop]
        cases j with
        | zero => simpa using hl
        | succ j => simp; omega
      simp [h1, h2]
  unfold trimEnd nfin
  by_cases h : endSp s = true
  · rw [dec_pos (he.2 h), if_pos rfl, if_pos h, List.dropLast_eq_take]
    rfl
  · rw [dec_neg (mt he.1 h), if_neg (by simp), if_neg h]

set_option maxRecDepth 10000 in
theorem trimSp {s : Str} {H : List Ob} (hs : s.length ≤ 1000000) : callW C 152 [.str s, .str [32]] H = some (.str (nfin s), H) := by
  apply Ret.eq
  rw [op152]
  have hc := trimSuffixL (H := H) hs (w := [32]) (by simp)
  rw [trimEnd_sp] at hc
  simp [code152, Tryz.f152, hc]

set_option maxRecDepth 10000 in
set_option maxHeartbeats 4000000 in
theorem i_Norm {t : Str} {H : List Ob} : callW C 50 [.str t] H = some (.str (norm t), H) := by
  apply Ret.eq
  rw [op50]
  by_cases g1 : (t.length : Int) > 100
  · have : norm t = [] := by unfold norm; rw [if_neg (by omega)]
    simp [code50, Tryz.f50, g1, this]
  have hp := i_Plain (t := t) (H := H) (by omega)
  by_cases g2 : Plain t
  rotate_left
  · rw [dec_neg g2] at hp
    have : norm t = [] := by unfold norm; rw [dec_neg g2]; simp
    simp [code50, Tryz.f50, g1, hp, this]
  rw [dec_pos g2] at hp
  have hn : norm t = nfin (t.foldl nstep []) := by unfold norm; rw [if_pos ⟨by omega, dec_pos g2⟩]
  have hbz : ∀ i, ((t.take i).foldl nstep []).length ≤ 100 := fun i => by
    have := foldl_len (t.take i) []
    simp at this
    omega
  simp [code50, Tryz.f50, g1, hp, elemT, fillL, zerosL, St.new]
  refine WP_loop (fun k σ => ∃ (i : Nat) (r : Nat → R) (G : List Ob) (v : V), i + k = t.length ∧ σ = ⟨r, 0, G⟩ ∧ r 0 = .val (.str t) ∧ r 3 = .val v ∧ r 16 = .val (.int .i64 t.length) ∧ r 17 = .val (.int .i64 i) ∧ Bs H G v ((t.take i).foldl nstep [])) ?_ t.length _ ⟨0, _, _, _, by simp, rfl, by simp, by simp, by simp, by simp, Bs.init⟩
  rintro k σ ⟨i, r, G, v, hik, rfl, r0, r3, r16, r17, hB⟩
  have hbl := hbz i
  generalize hb : (t.take i).foldl nstep [] = b at hB hbl
  have hw1 : IntKind.i64.wrap ((b.length : Int) - 1) = (b.length : Int) - 1 := wrap_i64 (by omega) (by omega)
  cases k with
  | zero =>
    have hi : i = t.length := by omega
    subst hi
    rw [List.take_length] at hb
    rw [hb] at hn
    obtain ⟨TT, rfl⟩ := hB.ext
    obtain ⟨id, rfl, hst, hsl⟩ := hB.cut (n := b.length) (Nat.le_refl _)
    rw [List.take_length] at hsl
    have hts := trimSp (s := b) (H := H ++ TT) (by omega)
    simp [r0, r3, r16, r17, hsl, isByte, bys_mapM, hn, hts]
  | succ k =>
    have hi : i < t.length := by omega
    obtain ⟨c, hc⟩ : ∃ c, t[i]? = some c := ⟨t[i], by simp [hi]⟩
    have hc' : t[i] = c := (List.getElem?_eq_some_iff.1 hc).2
    have hw : IntKind.i64.wrap ((i : Int) + 1) = ((i : Int) + 1) := wrap_i64 (by omega) (by omega)
    have hfs := foldl_step hc nstep []
    rw [hb] at hfs
    have hgo : ∀ G' v', Bs H G' v' (nstep b c) → ∃ k', k' < k + 1 ∧ ∃ i', i' + k' = t.length ∧ (i : Int) + 1 = i' ∧ Bs H G' v' ((t.take i').foldl nstep []) := fun G' v' h =>
      ⟨k, by omega, i + 1, by omega, by omega, by rw [hfs]; exact h⟩
    by_cases hup : 65 ≤ c.toNat ∧ c.toNat ≤ 90
    · have hu1 : (c.toNat : Int) ≥ 65 := by omega
      have hu2 : (c.toNat : Int) ≤ 90 := by omega
      have hlw := lowC_up hup.1 hup.2
      have hl32 : ¬ ((lowC c).toNat : Int) = 32 := by rw [lowC_up32 hup.1 hup.2]; omega
      have hns : nstep b c = b ++ [lowC c] := by unfold nstep; rw [if_neg (fun h => hl32 (by rw [u8_32.1 h.1]; rfl))]
      obtain ⟨v', G', ha, hB'⟩ := hB.push (by omega) (c := lowC c) (d := .int .u8) (z := [.int .u8 0]) rfl
      rw [← hns] at hB'
      simp [r0, r3, r16, r17, hi, hc', hu1, hu2, hlw, hl32, elemT, fillL, zerosL, St.new, badArg, ha, hw]
      obtain ⟨k', q1, i', q2, q3, q4⟩ := hgo G' v' hB'
      exact ⟨k', q1, i', q2, _, _, ⟨rfl, rfl⟩, by simp [r0], _, by simp [r3], by simp [r16], by simp [q3], q4⟩
    have hlc := lowC_no hup
    have hu : (¬ (c.toNat : Int) ≥ 65) ∨ ((c.toNat : Int) ≥ 65 ∧ ¬ (c.toNat : Int) ≤ 90) := by omega
    by_cases h32 : c = 32
    · have h32' : (c.toNat : Int) = 32 := by rw [h32]; rfl
      have hu1 : ¬ (c.toNat : Int) ≥ 65 := by omega
      by_cases hb0 : b = []
      · have hns : nstep b c = b := by unfold nstep; rw [if_pos ⟨by rw [hlc, h32], .inl hb0⟩]
        rw [hns] at hgo
        have hbl0 : b.length = 0 := by rw [hb0]; rfl
        simp [r0, r3, r16, r17, hi, hc', h32', hB.len, hbl0, hw]
        obtain ⟨k', q1, i', q2, q3, q4⟩ := hgo G v hB
        exact ⟨k', q1, i', q2, _, _, ⟨rfl, rfl⟩, by simp [r0], _, by simp [r3], by simp [r16], by simp [q3], q4⟩
      · obtain ⟨d, hd⟩ := last_some hb0
        have hb1 : 0 < b.length := List.length_pos_iff.2 hb0
        have hb3 : (1 : Int) ≤ (b.length : Int) := by omega
        have hb5 : (b.length : Int) - 1 < (b.length : Int) := by omega
        have hb4 : ((b.length : Int) - 1).toNat = b.length - 1 := by omega
        obtain ⟨id, hv, hld⟩ := hB.last hd
        subst hv
        by_cases hd32 : d = 32
        · have hns : nstep b c = b := by unfold nstep; rw [if_pos ⟨by rw [hlc, h32], .inr ((endSp_last hd).2 hd32)⟩]
          rw [hns] at hgo
          have hd' : (d.toNat : Int) = 32 := by rw [hd32]; rfl
          simp [r0, r3, r16, r17, hi, hc', h32', hb0, hb1, hb3, hb4, hb5, hw1, hld, hd', hw]
          obtain ⟨k', q1, i', q2, q3, q4⟩ := hgo G _ hB
          exact ⟨k', q1, i', q2, _, _, ⟨rfl, rfl⟩, by simp [r0], _, by simp [r3], by simp [r16], by simp [q3], q4⟩
        · have hns : nstep b c = b ++ [c] := by unfold nstep; rw [if_neg (fun h => h.2.elim hb0 (fun h => hd32 ((endSp_last hd).1 h))), hlc]
          have hd' : ¬ (d.toNat : Int) = 32 := by have := mt u8_32.2 hd32; omega
          obtain ⟨v', G', ha, hB'⟩ := hB.push (by omega) (c := c) (d := .int .u8) (z := [.int .u8 0]) rfl
          rw [← hns] at hB'
          rw [h32'] at ha
          simp [r0, r3, r16, r17, hi, hc', h32', hb0, hb1, hb3, hb4, hb5, hw1, hld, hd', elemT, fillL, zerosL, St.new, badArg, ha, hw]
          obtain ⟨k', q1, i', q2, q3, q4⟩ := hgo G' v' hB'
          exact ⟨k', q1, i', q2, _, _, ⟨rfl, rfl⟩, by simp [r0], _, by simp [r3], by simp [r16], by simp [q3], q4⟩
    · have h32' : ¬ (c.toNat : Int) = 32 := by have := mt u8_32.2 h32; omega
      have hns : nstep b c = b ++ [c] := by unfold nstep; rw [if_neg (fun h => h32 (hlc ▸ h.1)), hlc]
      obtain ⟨v', G', ha, hB'⟩ := hB.push (by omega) (c := c) (d := .int .u8) (z := [.int .u8 0]) rfl
      rw [← hns] at hB'
      obtain ⟨k', q1, i', q2, q3, q4⟩ := hgo G' v' hB'
      rcases hu with hu | ⟨hu, hu2⟩
      · simp [r0, r3, r16, r17, hi, hc', hu, h32', elemT, fillL, zerosL, St.new, badArg, ha, hw]
        exact ⟨k', q1, i', q2, _, _, ⟨rfl, rfl⟩, by simp [r0], _, by simp [r3], by simp [r16], by simp [q3], q4⟩
      · simp [r0, r3, r16, r17, hi, hc', hu, hu2, h32', elemT, fillL, zerosL, St.new, badArg, ha, hw]
        exact ⟨k', q1, i', q2, _, _, ⟨rfl, rfl⟩, by simp [r0], _, by simp [r3], by simp [r16], by simp [q3], q4⟩

theorem s_Value {t : Str} {H : List Ob} : callW C 114 [.str t] H = some (.bool (dec (ValueOk t)), H) := by
  apply Ret.dec
  rw [op114]
  have hn := s_Norm (t := t) (H := H)
  by_cases g1 : (t.length : Int) ≥ 1
  · by_cases g2 : (t.length : Int) ≤ 40
    · by_cases g3 : norm t = []
      · have hv : ¬ ValueOk t := fun h => h.2.2 g3
        simp [code114, Tryz.f114, g1, g2, hn, g3, hv]
      · have hv : ValueOk t := ⟨by omega, by omega, g3⟩
        simp [code114, Tryz.f114, g1, g2, hn, g3, hv]
    · have : ¬ ValueOk t := fun h => by have := h.2.1; omega
      simp [code114, Tryz.f114, g1, g2, this]
  · have : ¬ ValueOk t := fun h => by have := h.1; omega
    simp [code114, Tryz.f114, g1, this]

theorem i_Value {t : Str} {H : List Ob} : callW C 232 [.str t] H = some (.bool (dec (ValueOk t)), H) := by
  apply Ret.dec
  rw [op232]
  have hn := i_Norm (t := t) (H := H)
  by_cases g1 : (t.length : Int) ≥ 1
  · by_cases g2 : (t.length : Int) ≤ 40
    · by_cases g3 : norm t = []
      · have hv : ¬ ValueOk t := fun h => h.2.2 g3
        simp [code232, Tryz.f232, g1, g2, hn, g3, hv]
      · have hv : ValueOk t := ⟨by omega, by omega, g3⟩
        simp [code232, Tryz.f232, g1, g2, hn, g3, hv]
    · have : ¬ ValueOk t := fun h => by have := h.2.1; omega
      simp [code232, Tryz.f232, g1, g2, this]
  · have : ¬ ValueOk t := fun h => by have := h.1; omega
    simp [code232, Tryz.f232, g1, this]
end Go.Proofs.Try0
end

section
namespace Go.Proofs.Try0
open Go Go.Lite
set_option linter.unusedSimpArgs false
set_option linter.unusedVariables false

theorem prim_cmp {a b : Str} {H : List Ob} : callW C 425 [.str a, .str b] H = some (.int .i64 (Lib.compareBytes a b), H) :=
  callW_prim (pr := cmpPrim) rfl
theorem l_CompareString {a b : Str} {H : List Ob} : callW C 391 [.str a, .str b] H = some (.int .i64 (Lib.compareBytes a b), H) := by
  apply Ret.eq
  rw [op391]
  simp [code391, Tryz.f391, prim_cmp]
theorem l_Compare {a b : Str} {H : List Ob} : callW C 319 [.str a, .str b] H = some (.int .i64 (Lib.compareBytes a b), H) := by
  apply Ret.eq
  rw [op319]
  simp [code319, Tryz.f319, l_CompareString]
theorem i_byNorm {a b : Str} {H : List Ob} : callW C 222 [.str a, .str b] H = some (.int .i64 (Lib.compareBytes (norm a) (norm b)), H) := by
  apply Ret.eq
  rw [op222]
  have c1 := i_Norm (t := a) (H := H)
  have c2 := i_Norm (t := b) (H := H)
  simp [code222, Tryz.f222, c1, c2, l_Compare]
end Go.Proofs.Try0
end

section
namespace Go.Proofs.Try1
open Go Go.Lite

theorem progOk0 : ProgOk Tryz.prog Try0.C := progB_sound Try0.mixed Try0.ok fun g pr h => by
  change Try0.primTab g = some pr at h
  unfold Try0.primTab at h
  split at h
  · rename_i hg; subst hg; cases h; exact cmp_ok
  · cases h

end Go.Proofs.Try1
end

section
namespace Go.Lite
open Go

theorem wpIn_count {ro : Option Nat} {n m : Nat} {P : Program} {c : Code} {Q : Exit → Act → World → Prop} {a : Act} {w : World} (h : c.wpIn (rf ro) n P Q a w) : c.wpIn (rf ro) m P Q a w :=
  fun b k cs h1 h2 _ => h b k cs h1 h2 (fun d hd => by cases hd)

theorem wp_round {P : Program} {C : Ctx} (hp : ProgOk P C) {f : Nat} {c : Code} {σ σ' : St} {μ : Mu} {β : List Nat} {a : Act} {w : World} {ex : Ex} {Q : Exit → Act → World → Prop} {ro : Option Nat} {n : Nat}
    (hs : Sim (C.locs f) σ μ β a w) (hc : CodeOk P C f a.tmps.size c) (h : execW C f c σ = some (ex, σ')) (hq : ∀ a' w', Leads (C.locs f) σ μ β a w σ' a' w' → Q (toExit ex) a' w') : c.wpIn (rf ro) n P Q a w := by
  obtain ⟨m, hm⟩ := execW_iff.1 h
  exact wpIn_count (exec_sound hp.ty (callN_ok hp m) c hs hc hm hq)
end Go.Lite
end

section
namespace Go.Proofs.Try0
open Go Go.Lite Go.RowKit Go.Shelf
set_option linter.unusedSimpArgs false
set_option linter.unusedVariables false
attribute [local go_sem] Oper.semAt_some

/-- What an element of a name is, within bounds. -/
abbrev DkE := { p : ByteArray × ByteArray // p.1.size ≤ 1048576 ∧ p.2.size ≤ 1048576 }
def DkE.encs (x : Int × DkE) : Array Value := #[.int .i64 x.1, .agg #[.string x.2.1.1, .string x.2.1.2]]
instance : Inhabited DkE := ⟨⟨(.empty, .empty), by decide, by decide⟩⟩

/-- What has come when k rounds are over: the last k, backward. -/
def dkUpto (zs : List DkE) (k : Nat) : List (Int × DkE) := (List.range k).map fun j => (((zs.length - 1 - j : Nat) : Int), zs[zs.length - 1 - j]!)
theorem dkUpto_succ (zs : List DkE) (k : Nat) : dkUpto zs (k + 1) = dkUpto zs k ++ [(((zs.length - 1 - k : Nat) : Int), zs[zs.length - 1 - k]!)] := by simp [dkUpto, List.range_succ]
theorem dkUpto_length (zs : List DkE) (k : Nat) : (dkUpto zs k).length = k := by simp [dkUpto]

/-- What a round keeps: what lay below, and the box. -/
def DkKp (n₀ Bs : Nat) (A B : World) : Prop := Below n₀ A B ∧ ∀ v, A.cell? ⟨Bs, 0, none⟩ = some v → B.cell? ⟨Bs, 0, none⟩ = some v
theorem DkKp.refl (n₀ Bs : Nat) (A : World) : DkKp n₀ Bs A A := ⟨Below.refl _ _, fun _ h => h⟩
theorem DkKp.trans {n₀ Bs : Nat} {A B C : World} (h : DkKp n₀ Bs A B) (k : DkKp n₀ Bs B C) : DkKp n₀ Bs A C := ⟨h.1.trans k.1, fun v e => k.2 v (h.2 v e)⟩
theorem dkKp_b {n₀ Bs : Nat} {w : World} (hn : n₀ ≤ w.heap.size) (W : World) (l : Nat) (o o' : Obj) (hl : w.heap.size ≤ l) (h : W.heap[l]? = some o) (hc : o.isCells = false) (hw : o.isWalk = false) : DkKp n₀ Bs W (W.putObj l o') :=
  ⟨belowK_b hn W l o o' hl h hc hw, fun v hv => by
    by_cases e : Bs = l
    · subst e
      simp only [World.cell?] at hv
      rw [h] at hv
      cases o <;> simp_all [Obj.isCells]
    · rw [← hv]
      exact World.cell?_of_block (World.putObj_heap_other (by simpa using e))⟩

set_option maxRecDepth 100000 in
set_option maxHeartbeats 4000000 in
theorem dk_back1 (l Bs n₀ b off cap : Nat) (zs : List DkE) (hlen : zs.length ≤ 1048576) (hb : b < n₀) (J Jx : List (Int × DkE) → World → Prop) (n : Nat)
    (hY : ∀ pre x W, J pre W → pre.length < zs.length → YieldAt Fence.wide n Tryz.prog l (DkE.encs x) W fun e W' =>
      (e = .returned (.bool true) ∧ J (pre ++ [x]) W' ∧ DkKp n₀ Bs W W') ∨ (e = .returned (.bool false) ∧ Jx (pre ++ [x]) W'))
    (W : World) (hBs : W.cell? ⟨Bs, 0, none⟩ = some (.slice (some ⟨b, off, none⟩) zs.length cap))
    (hc : ∀ j, j < zs.length → W.cell? ⟨b, off + j * 2, none⟩ = some (.string zs[j]!.1.1) ∧ W.cell? ⟨b, off + j * 2 + 1, none⟩ = some (.string zs[j]!.1.2)) (h0 : J [] W) :
    CallsIn Fence.wide (n + 1) Tryz.prog 337 #[.func (.yield l) #[] #[], .pointer (some ⟨Bs, 0, none⟩)] W fun e W' => (∃ v, e = .returned v) ∧
      ((∃ ys, ys = dkUpto zs zs.length ∧ J ys W') ∨ (∃ pre, (∃ k, k ≤ zs.length ∧ pre = dkUpto zs k) ∧ Jx pre W')) := by
  refine callsIn_of_wp Tryz.func337 rfl trivial ?_ rfl
  simp only [Tryz.ntmps337, List.size_toArray, List.length_cons, List.length_nil, Nat.reduceAdd, Nat.reduceSub, Array.replicate_succ, Array.replicate_zero, List.push_toArray, List.append_toArray, List.nil_append, List.cons_append]
  gi_wp2
  gi_loopw [3] (fun i wr => ∃ k : Nat, k ≤ zs.length ∧ i = .int .i64 ((zs.length : Int) - 1 - k) ∧ J (dkUpto zs k) wr ∧ DkKp n₀ Bs W wr)
    (fun i _ => (intOf i + 1).toNat)
  case atStart => exact ⟨0, Nat.zero_le _, by simp, h0, DkKp.refl _ _ _⟩
  case round =>
    obtain ⟨k, hk, rfl, hJs, hnx⟩ := hrel
    have hBx : wr.cell? ⟨Bs, 0, none⟩ = some (.slice (some ⟨b, off, none⟩) zs.length cap) := hnx.2 _ hBs
    by_cases hlt : k < zs.length
    · obtain ⟨q, hqk⟩ : ∃ q : Nat, q + k + 1 = zs.length := ⟨zs.length - 1 - k, by omega⟩
      have hqz : zs.length - 1 - k = q := by omega
      have hUs := dkUpto_succ zs k
      rw [hqz] at hUs
      obtain ⟨hc1, hc2⟩ := hc q (by omega)
      generalize zs[q]! = z at hUs hc1 hc2
      obtain ⟨fn, tmps, assign, body, hy, hR⟩ := hY _ ((q : Int), z) wr hJs (by rw [dkUpto_length]; exact hlt)
      replace hc1 := (hnx.1.cell (p := ⟨b, off + q * 2, none⟩) hb).trans hc1
      replace hc2 := (hnx.1.cell (p := ⟨b, off + q * 2 + 1, none⟩) hb).trans hc2
      dsimp only [DkE.encs] at hy
      rw [show ((zs.length : Int) - 1 - k) = (q : Int) by omega]
      have hq1 : q < zs.length := by omega
      clear hqz hlt
      gi_wp2
      refine hR.mono ?_
      rintro e W3 (⟨rfl, hJ3, hk3⟩ | ⟨rfl, hJx3⟩)
      · gi_wp2
        go_roundw
        case rel => exact ⟨k + 1, by omega, by congr 1; omega, by rw [hUs]; exact hJ3, hnx.trans hk3⟩
        case measure => simp [intOf]
      · gi_wp2
        refine bodyPost_ret (results_none rfl _ _ _) rfl ?_
        exact ⟨⟨_, rfl⟩, .inr ⟨_, ⟨k + 1, by omega, hUs.symm⟩, hJx3⟩⟩
    · obtain rfl : k = zs.length := by omega
      rw [show ((zs.length : Int) - 1 - (zs.length : Nat)) = -1 by omega]
      gi_wp2
      go_end0
      exact ⟨⟨_, rfl⟩, .inl ⟨_, rfl, hJs⟩⟩

set_option maxRecDepth 100000 in
set_option maxHeartbeats 2000000 in
theorem dk_back1_nil (l Bs cap : Nat) (p : Option Addr) (J : List (Int × DkE) → World → Prop) (n : Nat) (W : World) (hBs : W.cell? ⟨Bs, 0, none⟩ = some (.slice p 0 cap)) (h0 : J [] W) :
    CallsIn Fence.wide (n + 1) Tryz.prog 337 #[.func (.yield l) #[] #[], .pointer (some ⟨Bs, 0, none⟩)] W fun e W' => (∃ v, e = .returned v) ∧ J [] W' := by
  refine callsIn_of_wp Tryz.func337 rfl trivial ?_ rfl
  simp only [Tryz.ntmps337, List.size_toArray, List.length_cons, List.length_nil, Nat.reduceAdd, Nat.reduceSub, Array.replicate_succ, Array.replicate_zero, List.push_toArray, List.append_toArray, List.nil_append, List.cons_append]
  gi_wp2
  gi_loopw [3] (fun i wr => i = .int .i64 (-1) ∧ J [] wr) (fun _ _ => 0)
  case atStart => exact ⟨rfl, h0⟩
  case round =>
    obtain ⟨rfl, hJs⟩ := hrel
    gi_wp2
    go_end0
    exact ⟨⟨_, rfl⟩, hJs⟩

set_option maxHeartbeats 1000000 in
theorem dk_back (n : Nat) (a : Option Addr) (len cap : Nat) (w : World) :
    CallsIn Fence.wide n Tryz.prog 238 #[.slice a len cap] w fun e w' => e = .returned (.func (.func 337) #[] #[.pointer (some ⟨w.heap.size, 0, none⟩)]) ∧ w' = w.alloc (.cells #[.slice a len cap] 29) := by
  refine callsIn_of_wp Tryz.func238 rfl trivial ?_ rfl
  simp only [Tryz.ntmps238, List.size_toArray, List.length_cons, List.length_nil, Nat.reduceAdd, Nat.reduceSub, Array.replicate_succ, Array.replicate_zero, List.push_toArray, List.append_toArray, List.nil_append, List.cons_append]
  gi_wp2
  go_ret
  exact ⟨rfl, rfl⟩

/-- The slice's cells. -/
def DkAt (n₀ : Nat) (W : World) (sv : Value) (zs : List DkE) : Prop :=
  (∃ p cap, sv = .slice p 0 cap ∧ zs = []) ∨ ∃ b off cap, sv = .slice (some ⟨b, off, none⟩) zs.length cap ∧ b < n₀ ∧ ∀ j, j < zs.length → W.cell? ⟨b, off + j * 2, none⟩ = some (.string zs[j]!.1.1) ∧ W.cell? ⟨b, off + j * 2 + 1, none⟩ = some (.string zs[j]!.1.2)
theorem DkAt.below {n₀ : Nat} {A B : World} (h : Below n₀ A B) {sv : Value} {zs : List DkE} : DkAt n₀ A sv zs → DkAt n₀ B sv zs
  | .inl e => .inl e
  | .inr ⟨b, off, cap, e, hb, hc⟩ => .inr ⟨b, off, cap, e, hb, fun j hj => ⟨(h.cell (p := ⟨b, off + j * 2, none⟩) hb).trans (hc j hj).1, (h.cell (p := ⟨b, off + j * 2 + 1, none⟩) hb).trans (hc j hj).2⟩⟩

theorem dk_stops (n Bs n₀ : Nat) (sv : Value) (zs : List DkE) (hlen : zs.length ≤ 1048576) (w : World) (hBs : Bs < w.heap.size) (hn₀ : n₀ ≤ w.heap.size)
    (hc : w.cell? ⟨Bs, 0, none⟩ = some sv) (hI : DkAt n₀ w sv zs) :
    SeqStopsK Fence.wide (n + 1) Tryz.prog 337 #[.pointer (some ⟨Bs, 0, none⟩)] DkE.encs (DkKp n₀ Bs) (fun ys => ys = dkUpto zs zs.length) (fun pre => ∃ k, k ≤ zs.length ∧ pre = dkUpto zs k) zs.length w := fun l J Jx W hW _ _ hY h0 => by
  have hc' := (hW.cell (p := ⟨Bs, 0, none⟩) hBs).trans hc
  rcases hI.below (hW.mono hn₀) with ⟨p, cap, rfl, rfl⟩ | ⟨b, off, cap, rfl, hb, hcs⟩
  · exact (dk_back1_nil l Bs cap p J n W hc' h0).mono fun e W' ⟨he, hj⟩ => ⟨he, .inl ⟨_, rfl, hj⟩⟩
  · refine (dk_back1 l Bs n₀ b off cap zs hlen hb J Jx n hY W hc' hcs h0).mono ?_
    rintro e W' ⟨he, h⟩
    exact ⟨he, h⟩

/-- The key. -/
def dkStep (nb : ByteArray → ByteArray) (s : ByteArray) (x : Int × DkE) : ByteArray := s ++ ((((⟨#[1]⟩ : ByteArray) ++ x.2.1.1) ++ (⟨#[61]⟩ : ByteArray)) ++ nb x.2.1.2)
def dkKey (nb : ByteArray → ByteArray) (l : List (Int × DkE)) : ByteArray := l.foldl (dkStep nb) .empty
theorem dkKey_snoc (nb : ByteArray → ByteArray) (l : List (Int × DkE)) (x : Int × DkE) : dkKey nb (l ++ [x]) = dkStep nb (dkKey nb l) x := by simp [dkKey]
theorem dkFold_size {nb : ByteArray → ByteArray} (hn : ∀ b, (nb b).size ≤ b.size + 100) : ∀ (l : List (Int × DkE)) (s : ByteArray), (l.foldl (dkStep nb) s).size ≤ s.size + l.length * 4194304 := by
  intro l
  induction l with
  | nil => intro s; simp
  | cons x l ih =>
    intro s
    have h := ih (dkStep nb s x)
    have h1 := x.2.2.1
    have h2 := x.2.2.2
    have h3 := hn x.2.1.2
    have e1 : (⟨#[1]⟩ : ByteArray).size = 1 := rfl
    have e2 : (⟨#[61]⟩ : ByteArray).size = 1 := rfl
    simp only [List.foldl_cons, List.length_cons]
    simp only [dkStep, ByteArray.size_append] at h ⊢
    omega
theorem dkKey_size {nb : ByteArray → ByteArray} (hn : ∀ b, (nb b).size ≤ b.size + 100) (l : List (Int × DkE)) : (dkKey nb l).size ≤ l.length * 4194304 := by
  have h := dkFold_size hn l .empty
  have e : (ByteArray.empty).size = 0 := rfl
  rw [e] at h
  rw [dkKey]
  omega

/-- Two cells in a block. -/
def Box2 (W : World) (B : Nat) (x : DkE) : Prop := W.heap[B]? = some (.cells #[.string x.1.1, .string x.1.2] 190 (0, 0))

/-- The variable that gathers the key. -/
def CellS (W : World) (B : Nat) (k : ByteArray) : Prop := W.cell? ⟨B, 0, none⟩ = some (.string k) ∧ W.frozen? ⟨B, 0, none⟩ = false
theorem CellS.lt {W : World} {B : Nat} {k : ByteArray} (h : CellS W B k) : B < W.heap.size := by
  have := h.1
  simp only [World.cell?] at this
  cases e : W.heap[B]? with
  | none => rw [e] at this; cases this
  | some o => exact (Array.getElem?_eq_some_iff.1 e).1
theorem CellS.block {W W' : World} {B : Nat} {k : ByteArray} (h : CellS W B k) (hb : W'.heap[B]? = W.heap[B]?) : CellS W' B k := ⟨(World.cell?_of_block hb).trans h.1, (World.frozen?_of_block hb).trans h.2⟩

/-- The code of the loop's body. -/
def rfBody : Code → Code
  | .rangeFunc _ _ _ b => b
  | .seq a b => match rfBody a with
    | .skip => rfBody b
    | c => c
  | .block _ b => rfBody b
  | _ => .skip
noncomputable def bodyC : Code := rfBody code126
set_option maxRecDepth 100000 in
theorem bodyOk : CodeOk Tryz.prog C 126 21 bodyC := codeB_sound (tyOf_ok _) mixed (by decide +kernel)

noncomputable def nbOf (b : ByteArray) : ByteArray := ⟨(norm b.data.toList).toArray⟩
def regsK (key s v : ByteArray) : Nat → R := fun t => if t = 3 then .box 0 [.str key.data.toList] else if t = 5 then .box 1 [.str s.data.toList, .str v.data.toList] else .val .undef

theorem nbOf_size (b : ByteArray) : (nbOf b).size ≤ b.size + 100 := by
  have := norm_len (t := b.data.toList)
  show (norm b.data.toList).toArray.size ≤ _
  simp
  omega

set_option maxRecDepth 10000 in
theorem body_run (key s v : ByteArray) (h1 : key.size ≤ 4398046511104) (h2 : s.size ≤ 1048576) (h3 : v.size ≤ 1048576) :
    WP C 126 bodyC ⟨regsK key s v, 2, []⟩ fun ex σ' => ex = .norm ∧ σ'.regs 3 = .box 0 [.str (key ++ ((((⟨#[1]⟩ : ByteArray) ++ s) ++ (⟨#[61]⟩ : ByteArray)) ++ nbOf v)).data.toList] := by
  have c1 := i_Norm (t := v.data.toList) (H := [])
  have e1 : key.data.toList.length ≤ 4398046511104 := by simpa using h1
  have e2 : s.data.toList.length ≤ 1048576 := by simpa using h2
  have e3 := norm_len (t := v.data.toList)
  have g1 : 1 + s.size ≤ 4611686018427387904 := by omega
  have g2 : 1 + s.size + 1 ≤ 4611686018427387904 := by omega
  have g2' : s.size + 1 + 1 ≤ 4611686018427387904 := by omega
  have g3 : s.size + 1 + 1 + (norm v.data.toList).length ≤ 4611686018427387904 := by omega
  have g4 : key.size + (s.size + ((norm v.data.toList).length + 1) + 1) ≤ 4611686018427387904 := by omega
  simp [bodyC, rfBody, code126, Tryz.f126, g1, g2, g2', g3, g4, regsK, c1, strBin, maxStr, nbOf, List.lookup, regionL_some]

set_option maxRecDepth 100000 in
set_option maxHeartbeats 4000000 in
theorem dk_key (progOk : ProgOk Tryz.prog C) (a : Option Addr) (len cap : Nat) (zs : List DkE) (hlen : zs.length ≤ 1048576) (w : World) (hI : DkAt w.heap.size w (.slice a len cap) zs) :
    Calls Tryz.prog 126 #[.slice a len cap] w fun e W' => e = .returned (.string (dkKey nbOf (dkUpto zs zs.length))) ∧ Below w.heap.size w W' := by
  refine (callsIn_wide (n := 6)).1 ?_
  refine callsIn_of_wp_marks Tryz.func126 rfl trivial ?_ rfl
  simp only [Tryz.ntmps126, List.size_toArray, List.length_cons, List.length_nil, Nat.reduceAdd, Nat.reduceSub, Array.replicate_succ, Array.replicate_zero, List.push_toArray, List.append_toArray, List.nil_append, List.cons_append]
  gi_wp2_with (refine ⟨trivial, ?_⟩; gi_at_call 238; refine (dk_back _ _ _ _ _).mono ?_; rintro e w' ⟨rfl, rfl⟩)
  have bS := (Boxed.new w 9 (.string .empty)).alloc (.cells #[.slice a len cap] 29)
  have bA := Boxed.new (w.alloc (.cells #[.string .empty] 9)) 29 (.slice a len cap)
  simp only [World.size_alloc] at bS bA
  have hB0 : Below w.heap.size w ((w.alloc (.cells #[.string .empty] 9)).alloc (.cells #[.slice a len cap] 29)) := ((Below.refl _ w).alloc (Nat.le_refl _) _).alloc (by simp) _
  have hsz : ((w.alloc (.cells #[.string .empty] 9)).alloc (.cells #[.slice a len cap] 29)).heap.size = w.heap.size + 2 := by simp
  change Code.wpIn _ _ _ _ _ _ ((w.alloc (.cells #[.string .empty] 9)).alloc (.cells #[.slice a len cap] 29))
  obtain ⟨W0, hW0⟩ : ∃ W0, (w.alloc (.cells #[.string .empty] 9)).alloc (.cells #[.slice a len cap] 29) = W0 := ⟨_, rfl⟩
  rw [hW0] at bS bA hB0 hsz ⊢
  clear hW0
  refine wpIn_rangeFunc_ownH rfl (by omega) (gf := 337) (lb := #[.pointer (some ⟨w.heap.size + 1, 0, none⟩)]) rfl trivial (enters_of Tryz.func337 (by kernel_rfl) rfl)
    (dk_stops 4 (w.heap.size + 1) w.heap.size (.slice a len cap) zs hlen W0 (by omega) (by omega) bA.cell (hI.below hB0)) DkKp.trans (dkKp_b (by omega)) (Below.refl _ _) (fun _ => rfl)
    (fun pre W => (CellS W w.heap.size (dkKey nbOf pre) ∧ Boxed W (w.heap.size + 1) 29 (.slice a len cap)) ∧ Below w.heap.size w W)
    (fun _ _ _ => False)
    (OwnFrom.and (OwnFrom.and (Own.from (fun s X Y row hs hg hr => ⟨cell_kept hs.1 hg hr, (frozen_kept hs.1 hg hr).trans hs.2⟩) _) (Own.from (boxed_own _ _ _) _)) (ownFrom_below (Nat.le_refl _) (by omega)))
    (fun _ _ _ _ _ hs _ _ => hs)
    ⟨⟨⟨bS.cell, bS.frozen⟩, bA⟩, hB0⟩
    (fun x a' W => ∃ Bx, w.heap.size + 1 < Bx ∧ Box2 W Bx x.2 ∧ a' = { tmps := #[.slice a len cap, undef, .string ⟨#[]⟩, .pointer (some ⟨w.heap.size, 0, none⟩), undef, .pointer (some ⟨Bx, 0, none⟩), .slice a len cap, .func (.func 337) #[] #[.pointer (some ⟨w.heap.size + 1, 0, none⟩)], .int .i64 x.1, .agg #[.string x.2.1.1, .string x.2.1.2], undef, undef, undef, undef, undef, undef, undef, undef, undef, undef, undef], defers := [] })
    (fun x a' _ X Y row hs hg hr => by
      obtain ⟨Bx, h1, h2, h3⟩ := hs
      refine ⟨Bx, h1, (hg.block Bx (Array.getElem?_eq_some_iff.1 h2).1 fun e => ?_).trans h2, h3⟩
      obtain ⟨_, o, ho, hc⟩ := hr Bx e.symm
      rw [show X.heap[Bx]? = _ from h2] at ho
      cases ho
      cases hc)
    ?assign ?body ?done ?stop
  case assign =>
    rintro l pre x W K ⟨⟨bS1, bA1⟩, hB1⟩ hK
    obtain ⟨i, ⟨⟨s, v⟩, hs⟩⟩ := x
    dsimp only [DkE.encs] at hK ⊢
    gi_wp2
    refine hK _ _ ((KeepsOthers.alloc _ _).from _) ⟨(Below.refl _ W).alloc hB1.size _, fun u hu => (World.cell?_of_block (Below.heap_alloc W _ _ bA1.lt)).trans hu⟩ ⟨⟨bS1.block (Below.heap_alloc W _ _ bS1.lt), bA1.alloc _⟩, hB1.alloc hB1.size _⟩ ⟨W.heap.size, bA1.lt, World.alloc_heap_new W _, rfl⟩
  case body =>
    rintro l pre x a' W hl ⟨r, hr⟩ ⟨⟨bS1, bA1⟩, hB1⟩ ⟨Bx, hBx, bX, rfl⟩ hlt
    have hkz := dkKey_size nbOf_size pre
    obtain ⟨i, ⟨⟨s, v⟩, hs⟩⟩ := x
    dsimp only at hs bX
    have z1 : (dkKey nbOf pre).size ≤ 4398046511104 := by omega
    obtain ⟨ex, σ', hex, rfl, hr3⟩ := body_run (dkKey nbOf pre) s v z1 hs.1 hs.2
    have hBne : w.heap.size ≠ Bx := by omega
    have hBxl : Bx < W.heap.size := (Array.getElem?_eq_some_iff.1 bX).1
    have hsim : Sim (C.locs 126) ⟨regsK (dkKey nbOf pre) s v, 2, []⟩ (fun _ => none) [w.heap.size, Bx] { tmps := #[.slice a len cap, undef, .string ⟨#[]⟩, .pointer (some ⟨w.heap.size, 0, none⟩), undef, .pointer (some ⟨Bx, 0, none⟩), .slice a len cap, .func (.func 337) #[] #[.pointer (some ⟨w.heap.size + 1, 0, none⟩)], .int .i64 i, .agg #[.string s, .string v], undef, undef, undef, undef, undef, undef, undef, undef, undef, undef, undef], defers := [] } W := {
      heap := ⟨fun id m h => by simp at h, fun id o h => by simp at h, fun id o m h => by simp at h, fun id id' o o' m m' _ h => by simp at h, fun id es cells m h => by simp at h⟩
      lenβ := rfl
      reg := fun t ht => by
        by_cases t3 : t = 3
        · subst t3; exact ⟨_, rfl, rfl⟩
        by_cases t5 : t = 5
        · subst t5; exact ⟨_, rfl, rfl⟩
        show RR _ _ _ _ (regsK _ _ _ t) _
        simp only [regsK, t3, t5, if_false]
        exact .undef _
      box := fun t c cells b ht h1 h2 => by
        simp only [regsK] at h1
        split at h1
        · cases h1
          simp at h2
          subst h2
          refine ⟨fun j u hj => ?_, fun o ho1 ho2 => ?_⟩
          · match j, hj with
            | 0, hj => cases hj; exact ⟨_, bS1.1, .str _⟩
          · have : o = 0 := by simp at ho2; omega
            subst this
            exact ⟨⟨_, bS1.1⟩, bS1.2⟩
        split at h1
        · cases h1
          simp at h2
          subst h2
          have q0 : W.cell? ⟨Bx, 0, none⟩ = some (.string s) := by simp [World.cell?, show W.heap[Bx]? = _ from bX]
          have q1 : W.cell? ⟨Bx, 1, none⟩ = some (.string v) := by simp [World.cell?, show W.heap[Bx]? = _ from bX]
          have q2 : ∀ o, W.frozen? ⟨Bx, o, none⟩ = false := fun o => by simp [World.frozen?, show W.heap[Bx]? = _ from bX]
          refine ⟨fun j u hj => ?_, fun o ho1 ho2 => ?_⟩
          · match j, hj with
            | 0, hj => cases hj; exact ⟨_, q0, .str _⟩
            | 1, hj => cases hj; exact ⟨_, q1, .str _⟩
          · have : o = 0 ∨ o = 1 := by simp at ho2; omega
            rcases this with rfl | rfl
            · exact ⟨⟨_, q0⟩, q2 _⟩
            · exact ⟨⟨_, q1⟩, q2 _⟩
        · cases h1
      sepβ := fun id o m b h => by simp at h
      injβ := fun c c' b h1 h2 => by
        match c, c', h1, h2 with
        | 0, 0, _, _ => rfl
        | 1, 1, _, _ => rfl
        | 0, 1, h1, h2 => simp at h1 h2; omega
        | 1, 0, h1, h2 => simp at h1 h2; omega
        | 0, _ + 2, _, h2 => simp at h2
        | 1, _ + 2, _, h2 => simp at h2
        | _ + 2, _, h1, _ => simp at h1
      ltβ := fun b hb => by
        simp at hb
        rcases hb with rfl | rfl
        · exact bS1.lt
        · exact hBxl
      uniq := fun t t' c cells cells' _ _ h1 h2 => by
        simp only [regsK] at h1 h2
        split at h1
        · rename_i e
          cases h1
          split at h2
          · rename_i e'; rw [e, e']
          split at h2
          · cases h2
          · cases h2
        split at h1
        · rename_i e
          cases h1
          split at h2
          · cases h2
          split at h2
          · rename_i e'; rw [e, e']
          · cases h2
        · cases h1
      loc := fun t c cells _ h1 => by
        simp only [regsK] at h1
        split at h1
        · rename_i e; subst e; simp
        split at h1
        · rename_i e; subst e; simp
        · cases h1
      defs := rfl }
    refine wp_round (ro := some l) progOk hsim bodyOk hex fun a'' w' hl' => ?_
    obtain ⟨μ', β', k1, k2, k3, k4, k5, k6⟩ := hl'
    have hno : ∀ b, b ≠ w.heap.size → b ≠ Bx → ¬ OwnB (St.heap ⟨regsK (dkKey nbOf pre) s v, 2, []⟩) (fun _ => none) [w.heap.size, Bx] b := by
      rintro b h1 h2 (⟨id, o, m, h, _⟩ | h)
      · simp at h
      · simp at h; omega
    have hsame : ∀ b, b < W.heap.size → b ≠ w.heap.size → b ≠ Bx → w'.heap[b]? = W.heap[b]? := fun b h h1 h2 => k5.same b h (hno b h1 h2)
    have hcell : CellS w' w.heap.size (dkKey nbOf (pre ++ [(i, ⟨(s, v), hs⟩)])) := by
      rw [dkKey_snoc]
      have r3 := k1.reg 3 (by rw [k4]; exact (by decide : 3 < 21))
      rw [hr3] at r3
      obtain ⟨b, hb, _⟩ := r3
      have hb0 : β'[0]? = some w.heap.size := by
        obtain ⟨ν, rfl⟩ := k3
        rfl
      rw [hb0] at hb
      cases hb
      obtain ⟨q1, q2⟩ := k1.box 3 0 _ _ (by rw [k4]; exact (by decide : 3 < 21)) hr3 hb0
      obtain ⟨u, hu1, hu2⟩ := q1 0 _ rfl
      obtain ⟨x, rfl, hx⟩ := hu2.str_inv
      refine ⟨?_, (q2 0 (Nat.le_refl _) (by simp)).2⟩
      rw [Nat.zero_add] at hu1
      rw [hu1]
      congr 2
      exact ByteArray.ext (Array.toList_inj.1 hx.symm)
    have hbl : Below w.heap.size W w' := ⟨k5.os, k5.tape, k5.output, k5.size, fun k hk => hsame k (by have := hB1.size; omega) (by omega) (by omega)⟩
    have hbA : Boxed w' (w.heap.size + 1) 29 (.slice a len cap) := (hsame _ bA1.lt (by omega) (by omega)).trans bA1
    refine ⟨⟨k5.size, fun k o hk1 hk2 hk3 => ?_⟩, ⟨hbl, fun u hu => ?_⟩, ⟨hcell, hbA⟩, hB1.trans hbl⟩
    · by_cases e : k = Bx
      · subst e
        rw [show W.heap[k]? = _ from bX] at hk2
        cases hk2
        cases hk3
      · rw [hsame k (Array.getElem?_eq_some_iff.1 hk2).1 (by omega) e]
        exact hk2
    · rw [bA1.cell] at hu
      cases hu
      exact hbA.cell
  case done =>
    rintro D ys W hD rfl ⟨⟨bS1, bA1⟩, hB1⟩ hK
    have cS := bS1.1
    gi_wp2
    refine ⟨by simp, .inl ⟨_, _, rfl, run_takeDeferred hK, ?_⟩⟩
    exact ⟨_, results_tmp rfl _ _ _, rfl, hB1.trans (belowK_b (w := w) (Nat.le_refl _) W D _ _ (by omega) hK rfl rfl)⟩
  case stop =>
    rintro D c pre W _ _ h _
    exact h.elim

theorem below_goes {H : List Ob} {μ : Mu} {w w' : World} (h : HSim H μ w) (hb : Below w.heap.size w w') : HGoes H μ w H μ w' :=
  ⟨h.world (fun id o m h1 h2 h3 => .of_heap (hb.block _ (live_lt h id o m h1 h2 h3))) hb.size, μ.le_refl, ⟨hb.size, fun b hb' _ => hb.block b hb', fun b h => .inl h, hb.os, hb.tape, hb.output, fun h => h.elim⟩, Lives.refl _ _ _⟩

noncomputable def dkOf (p : Str × Str) : DkE := if h : p.1.length ≤ 1048576 ∧ p.2.length ≤ 1048576 then ⟨(⟨p.1.toArray⟩, ⟨p.2.toArray⟩), by simpa [ByteArray.size] using h⟩ else default
theorem dkOf_fst {p : Str × Str} (h : p.1.length ≤ 1048576 ∧ p.2.length ≤ 1048576) : (dkOf p).1 = (⟨p.1.toArray⟩, ⟨p.2.toArray⟩) := by unfold dkOf; rw [dif_pos h]

theorem pairs_get : ∀ {cs : List V} {l : List (Str × Str)}, pairsOf cs = some l → ∀ (j : Nat) p, l[j]? = some p → cs[j * 2]? = some (.str p.1) ∧ cs[j * 2 + 1]? = some (.str p.2)
  | cs, l, h, j, p, hp => by
    unfold pairsOf at h
    split at h
    · cases h; cases hp
    · rename_i a v rest
      split at h
      · rename_i l' hl'
        cases h
        cases j with
        | zero => cases hp; exact ⟨rfl, rfl⟩
        | succ j =>
          have ih := pairs_get hl' j p (by simpa using hp)
          rw [show (j + 1) * 2 = j * 2 + 1 + 1 by omega]
          simpa using ih
      · cases h
    · cases h

theorem dkUpto_snd (zs : List DkE) : (dkUpto zs zs.length).map Prod.snd = zs.reverse := by
  apply List.ext_getElem
  · simp [dkUpto]
  · intro i h1 h2
    simp only [List.length_reverse] at h2
    simp only [dkUpto, List.map_map, List.getElem_map, List.getElem_range, Function.comp, List.getElem_reverse]
    rw [getElem!_pos]

theorem key_fold : ∀ (l : List (Str × Str)) (s : ByteArray), fitsL l = true → ((l.map dkOf).foldl (fun s z => dkStep nbOf s (0, z)) s).data.toList = l.foldl keyStep s.data.toList
  | [], s, _ => rfl
  | p :: l, s, h => by
    simp only [fitsL, List.all_cons, Bool.and_eq_true, decide_eq_true_eq] at h
    have ih := key_fold l (dkStep nbOf s (0, dkOf p)) (by simpa [fitsL] using h.2)
    rw [List.map_cons, List.foldl_cons, List.foldl_cons, ih]
    congr 1
    simp only [dkStep, dkOf_fst h.1, keyStep, nbOf]
    simp

theorem key_eq {l : List (Str × Str)} (h : fitsL l = true) : (dkKey nbOf (dkUpto (l.map dkOf) (l.map dkOf).length)).data.toList = keyL l := by
  have e : dkKey nbOf (dkUpto (l.map dkOf) (l.map dkOf).length) = ((dkUpto (l.map dkOf) (l.map dkOf).length).map Prod.snd).foldl (fun s z => dkStep nbOf s (0, z)) .empty := by
    rw [List.foldl_map]
    rfl
  rw [e, dkUpto_snd, ← List.map_reverse, key_fold _ _ (by unfold fitsL at h ⊢; rw [List.all_reverse]; exact h)]
  rfl

theorem dkPrim_ok (progOk : ProgOk Tryz.prog C) : PrimOk Tryz.prog 126 dkPrim := by
  intro args H r H' h μ w us hs hv
  have hent : ∀ us w, (callFunc 126 us).run Tryz.prog w = .ok (.enter 126 us) w := enters_of Tryz.func126 (by kernel_rfl) rfl
  unfold dkPrim at h
  split at h
  case h_2 => cases h
  rename_i p n
  obtain ⟨u, rfl, hu⟩ := hv.one
  refine .inr ⟨hent _ _, ?_⟩
  split at h
  · rename_i hn
    subst hn
    cases h
    have : ∃ q c, u = .slice q 0 c := by
      cases p with
      | none => obtain ⟨rfl, _⟩ := hu.slcN_inv; exact ⟨_, _, rfl⟩
      | some p =>
        obtain ⟨id, off⟩ := p
        obtain ⟨m, _, ⟨c, _, _, _, rfl⟩ | ⟨_, _, a, rfl⟩⟩ := hu.slc_inv <;> exact ⟨_, _, rfl⟩
    obtain ⟨q, c, rfl⟩ := this
    refine (dk_key progOk q 0 c [] (by simp) w (.inl ⟨q, c, rfl, rfl⟩)).mono ?_
    rintro e w' ⟨rfl, hb⟩
    exact ⟨_, rfl, μ, below_goes hs hb, VR.str .empty⟩
  rename_i hn
  split at h
  case isFalse => cases h
  rename_i hn1
  split at h
  case h_2 => cases h
  rename_i id off
  split at h
  case h_2 => cases h
  rename_i own cells ho
  split at h
  case isFalse => cases h
  rename_i hlen
  split at h
  case h_2 => cases h
  rename_i l hl
  split at h
  case isFalse => cases h
  rename_i hf
  obtain ⟨hf, hln⟩ := hf
  cases h
  obtain ⟨m, hm, ⟨c, hc1, hc2, hc3, rfl⟩ | ⟨h0, _⟩⟩ := hu.slc_inv
  rotate_left
  · exact absurd h0 hn
  obtain ⟨g1, g2, g3, g4, g5, g6⟩ := hs.obj id _ m ho hm
  have hfit : ∀ p ∈ l, p.1.length ≤ 1048576 ∧ p.2.length ≤ 1048576 := fun p hp => by
    have := List.all_eq_true.1 hf p hp
    simpa using this
  have hI : DkAt w.heap.size w (.slice (some ⟨m.blk, m.base + off, none⟩) n c) (l.map dkOf) := by
    refine .inr ⟨m.blk, m.base + off, c, by rw [List.length_map, hln], g5, fun j hj => ?_⟩
    rw [List.length_map] at hj
    have hpj : l[j]? = some l[j] := List.getElem?_eq_getElem hj
    obtain ⟨q1, q2⟩ := pairs_get hl j _ hpj
    have hget : ∀ k, k < n * 2 → ((cells.drop off).take (n * 2))[k]? = cells[off + k]? := fun k hk => by rw [List.getElem?_take_of_lt hk, List.getElem?_drop]
    rw [hget _ (by omega)] at q1 q2
    obtain ⟨u1, a1, a2⟩ := g4 _ _ q1
    obtain ⟨u2, b1, b2⟩ := g4 _ _ q2
    obtain ⟨x1, rfl, ex1⟩ := a2.str_inv
    obtain ⟨x2, rfl, ex2⟩ := b2.str_inv
    have hz : (l.map dkOf)[j]! = dkOf l[j] := by rw [getElem!_pos _ _ (by simpa using hj)]; simp
    rw [hz, dkOf_fst (hfit _ (List.getElem_mem hj))]
    have e1 : x1 = ⟨(l[j]).1.toArray⟩ := ByteArray.ext (by simp [ex1])
    have e2 : x2 = ⟨(l[j]).2.toArray⟩ := ByteArray.ext (by simp [ex2])
    rw [← Nat.add_assoc] at a1 b1
    rw [← Nat.add_assoc] at b1
    rw [a1, b1, e1, e2]
    exact ⟨rfl, rfl⟩
  refine (dk_key progOk _ n c (l.map dkOf) (by rw [List.length_map]; omega) w hI).mono ?_
  rintro e w' ⟨rfl, hb⟩
  refine ⟨_, rfl, μ, below_goes hs hb, ?_⟩
  rw [← key_eq hf]
  exact .str _
end Go.Proofs.Try0
end

section
namespace Go.Proofs.Try1
open Go Go.Lite

theorem dk_ok : PrimOk Tryz.prog 126 dkPrim := Try0.dkPrim_ok progOk0
end Go.Proofs.Try1
end

section
namespace Go.Proofs
open Go.Shelf
def Tryz.laysSort_ren : Go.Shelf.Ren := ⟨fun | 190 => 341 | 125 => 318 | 258 => 399 | 128 => 389 | 129 => 390 | 302 => 430 | 303 => 431 | 304 => 432 | 305 => 433 | 306 => 434 | 307 => 435 | 308 => 436 | 309 => 437 | 310 => 438 | 333 => 448 | 329 => 421 | 330 => 422 | 334 => 449 | 335 => 450 | 336 => 346 | 344 => 452 | n => n, fun | 31 => 26 | 9 => 9 | 3 => 3 | 46 => 321 | 0 => 0 | 51 => 376 | 53 => 251 | 4 => 4 | 183 => 370 | 182 => 369 | 131 => 194 | 5 => 5 | 218 => 397 | 222 => 401 | 228 => 410 | 229 => 317 | n => n, fun | n => n⟩
theorem Tryz.laysSort : Go.Proofs.Lays.n190 Tryz.prog Tryz.laysSort_ren := {
  mixed := by kernel_rfl
  f125 := Tryz.func318.trans (congrArg some (by kernel_rfl))
  f128 := Tryz.func389.trans (congrArg some (by kernel_rfl))
  f129 := Tryz.func390.trans (congrArg some (by kernel_rfl))
  f190 := Tryz.func341.trans (congrArg some (by kernel_rfl))
  f258 := Tryz.func399.trans (congrArg some (by kernel_rfl))
  f302 := Tryz.func430.trans (congrArg some (by kernel_rfl))
  f303 := Tryz.func431.trans (congrArg some (by kernel_rfl))
  f304 := Tryz.func432.trans (congrArg some (by kernel_rfl))
  f305 := Tryz.func433.trans (congrArg some (by kernel_rfl))
  f306 := Tryz.func434.trans (congrArg some (by kernel_rfl))
  f307 := Tryz.func435.trans (congrArg some (by kernel_rfl))
  f308 := Tryz.func436.trans (congrArg some (by kernel_rfl))
  f309 := Tryz.func437.trans (congrArg some (by kernel_rfl))
  f310 := Tryz.func438.trans (congrArg some (by kernel_rfl))
  f329 := Tryz.func421.trans (congrArg some (by kernel_rfl))
  f330 := Tryz.func422.trans (congrArg some (by kernel_rfl))
  f333 := Tryz.func448.trans (congrArg some (by kernel_rfl))
  f334 := Tryz.func449.trans (congrArg some (by kernel_rfl))
  f335 := Tryz.func450.trans (congrArg some (by kernel_rfl))
  f336 := Tryz.func346.trans (congrArg some (by kernel_rfl))
  f344 := Tryz.func452.trans (congrArg some (by kernel_rfl))
  t0 := Tryz.underlying0
  a0 := Tryz.isAgg0
  z0 := Tryz.sizeOf0
  v0 := Tryz.zeroValue0
  t3 := Tryz.underlying3
  a3 := Tryz.isAgg3
  z3 := Tryz.sizeOf3
  v3 := Tryz.zeroValue3
  t4 := Tryz.underlying4
  a4 := Tryz.isAgg4
  z4 := Tryz.sizeOf4
  v4 := Tryz.zeroValue4
  t5 := Tryz.underlying5
  a5 := Tryz.isAgg5
  z5 := Tryz.sizeOf5
  v5 := Tryz.zeroValue5
  t9 := Tryz.underlying9
  a9 := Tryz.isAgg9
  z9 := Tryz.sizeOf9
  v9 := Tryz.zeroValue9
  t31 := Tryz.underlying26
  a31 := Tryz.isAgg26
  z31 := Tryz.sizeOf26
  v31 := Tryz.zeroValue26
  t46 := Tryz.underlying321
  a46 := Tryz.isAgg321
  z46 := Tryz.sizeOf321
  v46 := Tryz.zeroValue321
  t51 := Tryz.underlying376
  a51 := Tryz.isAgg376
  z51 := Tryz.sizeOf376
  v51 := Tryz.zeroValue376
  t53 := Tryz.underlying251
  a53 := Tryz.isAgg251
  z53 := Tryz.sizeOf251
  v53 := Tryz.zeroValue251
  t131 := Tryz.underlying194
  a131 := Tryz.isAgg194
  z131 := Tryz.sizeOf194
  v131 := Tryz.zeroValue194
  t182 := Tryz.underlying369
  a182 := Tryz.isAgg369
  z182 := Tryz.sizeOf369
  v182 := Tryz.zeroValue369
  t183 := Tryz.underlying370
  a183 := Tryz.isAgg370
  z183 := Tryz.sizeOf370
  v183 := Tryz.zeroValue370
  t218 := Tryz.underlying397
  a218 := Tryz.isAgg397
  z218 := Tryz.sizeOf397
  v218 := Tryz.zeroValue397
  t222 := Tryz.underlying401
  a222 := Tryz.isAgg401
  z222 := Tryz.sizeOf401
  v222 := Tryz.zeroValue401
  t228 := Tryz.underlying410
  a228 := Tryz.isAgg410
  z228 := Tryz.sizeOf410
  v228 := Tryz.zeroValue410
  t229 := Tryz.underlying317
  a229 := Tryz.isAgg317
  z229 := Tryz.sizeOf317
  v229 := Tryz.zeroValue317 }
def Tryz.laySortF_ren : Go.Shelf.Ren := ⟨fun | 6 => 221 | 15 => 318 | 14 => 317 | 28 => 389 | 29 => 390 | 20 => 381 | 21 => 382 | 22 => 383 | 23 => 384 | 24 => 385 | 25 => 386 | 26 => 387 | 27 => 388 | 46 => 420 | 47 => 421 | 48 => 422 | 49 => 423 | 50 => 424 | 57 => 443 | n => n, fun | 22 => 26 | 24 => 9 | 25 => 237 | 3 => 3 | 39 => 321 | 0 => 0 | 53 => 376 | 55 => 251 | 4 => 4 | 46 => 370 | 45 => 369 | 50 => 194 | 5 => 5 | 9 => 9 | 66 => 397 | 70 => 401 | 76 => 410 | 77 => 317 | n => n, fun | n => n⟩
theorem Tryz.laySortF : Go.Proofs.SlLaysF.n6 Tryz.prog Tryz.laySortF_ren := {
  mixed := by kernel_rfl
  f6 := ⟨Tryz.f221.name, by decide, Tryz.func221.trans (congrArg some (by kernel_rfl))⟩
  f14 := ⟨Tryz.f317.name, by decide, Tryz.func317.trans (congrArg some (by kernel_rfl))⟩
  f15 := Tryz.func318.trans (congrArg some (by kernel_rfl))
  f20 := ⟨Tryz.f381.name, by decide, Tryz.func381.trans (congrArg some (by kernel_rfl))⟩
  f21 := ⟨Tryz.f382.name, by decide, Tryz.func382.trans (congrArg some (by kernel_rfl))⟩
  f22 := ⟨Tryz.f383.name, by decide, Tryz.func383.trans (congrArg some (by kernel_rfl))⟩
  f23 := ⟨Tryz.f384.name, by decide, Tryz.func384.trans (congrArg some (by kernel_rfl))⟩
  f24 := ⟨Tryz.f385.name, by decide, Tryz.func385.trans (congrArg some (by kernel_rfl))⟩
  f25 := ⟨Tryz.f386.name, by decide, Tryz.func386.trans (congrArg some (by kernel_rfl))⟩
  f26 := ⟨Tryz.f387.name, by decide, Tryz.func387.trans (congrArg some (by kernel_rfl))⟩
  f27 := ⟨Tryz.f388.name, by decide, Tryz.func388.trans (congrArg some (by kernel_rfl))⟩
  f28 := Tryz.func389.trans (congrArg some (by kernel_rfl))
  f29 := Tryz.func390.trans (congrArg some (by kernel_rfl))
  f46 := ⟨Tryz.f420.name, by decide, Tryz.func420.trans (congrArg some (by kernel_rfl))⟩
  f47 := Tryz.func421.trans (congrArg some (by kernel_rfl))
  f48 := Tryz.func422.trans (congrArg some (by kernel_rfl))
  f49 := ⟨Tryz.f423.name, by decide, Tryz.func423.trans (congrArg some (by kernel_rfl))⟩
  f50 := ⟨Tryz.f424.name, by decide, Tryz.func424.trans (congrArg some (by kernel_rfl))⟩
  f57 := ⟨Tryz.f443.name, by decide, Tryz.func443.trans (congrArg some (by kernel_rfl))⟩
  t0 := Tryz.underlying0
  a0 := Tryz.isAgg0
  z0 := Tryz.sizeOf0
  v0 := Tryz.zeroValue0
  t3 := Tryz.underlying3
  a3 := Tryz.isAgg3
  z3 := Tryz.sizeOf3
  v3 := Tryz.zeroValue3
  t4 := Tryz.underlying4
  a4 := Tryz.isAgg4
  z4 := Tryz.sizeOf4
  v4 := Tryz.zeroValue4
  t5 := Tryz.underlying5
  a5 := Tryz.isAgg5
  z5 := Tryz.sizeOf5
  v5 := Tryz.zeroValue5
  t9 := Tryz.underlying9
  a9 := Tryz.isAgg9
  z9 := Tryz.sizeOf9
  v9 := Tryz.zeroValue9
  t22 := Tryz.underlying26
  a22 := Tryz.isAgg26
  z22 := Tryz.sizeOf26
  v22 := Tryz.zeroValue26
  a24 := Tryz.isAgg9
  z24 := Tryz.sizeOf9
  t25 := Tryz.underlying237
  a25 := Tryz.isAgg237
  z25 := Tryz.sizeOf237
  v25 := Tryz.zeroValue237
  t39 := Tryz.underlying321
  a39 := Tryz.isAgg321
  z39 := Tryz.sizeOf321
  v39 := Tryz.zeroValue321
  t45 := Tryz.underlying369
  a45 := Tryz.isAgg369
  z45 := Tryz.sizeOf369
  v45 := Tryz.zeroValue369
  t46 := Tryz.underlying370
  a46 := Tryz.isAgg370
  z46 := Tryz.sizeOf370
  v46 := Tryz.zeroValue370
  t50 := Tryz.underlying194
  a50 := Tryz.isAgg194
  z50 := Tryz.sizeOf194
  v50 := Tryz.zeroValue194
  t53 := Tryz.underlying376
  a53 := Tryz.isAgg376
  z53 := Tryz.sizeOf376
  v53 := Tryz.zeroValue376
  t55 := Tryz.underlying251
  a55 := Tryz.isAgg251
  z55 := Tryz.sizeOf251
  v55 := Tryz.zeroValue251
  t66 := Tryz.underlying397
  a66 := Tryz.isAgg397
  z66 := Tryz.sizeOf397
  v66 := Tryz.zeroValue397
  t70 := Tryz.underlying401
  a70 := Tryz.isAgg401
  z70 := Tryz.sizeOf401
  v70 := Tryz.zeroValue401
  t76 := Tryz.underlying410
  a76 := Tryz.isAgg410
  z76 := Tryz.sizeOf410
  v76 := Tryz.zeroValue410
  t77 := Tryz.underlying317
  a77 := Tryz.isAgg317
  z77 := Tryz.sizeOf317
  v77 := Tryz.zeroValue317 }
end Go.Proofs
end

section
namespace Go.Proofs.Try1
open Go Go.Lite

theorem sort_ok : PrimOk Tryz.prog 341 sortPrim :=
  sortPrim_ok (enters Tryz.func341 (by kernel_rfl) (by kernel_rfl))
    (fun blk off cap zs w hH hb hl => calls_of_in fun D => AnyS.slices_Sort_string_alone Tryz.laysSort D blk off cap zs w hH hb hl)
    (fun p cap w => calls_of_in fun D => AnyS.slices_Sort_string_none_alone Tryz.laysSort D p cap w)
end Go.Proofs.Try1
end

section
namespace Go.Proofs.Try1
open Go Go.Lite

theorem progOk : ProgOk Tryz.prog C := progB_sound mixed ok fun g pr h => by
  change primTab g = some pr at h
  unfold primTab at h
  split at h
  · rename_i hg; subst hg; cases h; exact dk_ok
  split at h
  · rename_i hg; subst hg; cases h; exact nonePrim_ok
  split at h
  · rename_i hg; subst hg; cases h; exact nonePrim_ok
  split at h
  · rename_i hg; subst hg; cases h; exact nonePrim_ok
  split at h
  · rename_i hg; subst hg; cases h; exact sort_ok
  split at h
  · rename_i hg; subst hg; cases h; exact cmp_ok
  cases h
end Go.Proofs.Try1
end
