/- Part 16 of the proof of a law: the interpreter, its soundness, and what functions of the program compute over it. Conditions: none but those that each theorem names. -/
import Derived.RangeFuncNested
import Derived.RangeFuncBound
import Derived.RangeFuncCalls
import Derived.RangeFuncLeaves
import Derived.Shelf.Abstract
import Derived.Shelf.RegionOpen
import Derived.WalkKit
import Derived.OwnWalkIn
import Derived.TacticsInMore
import Derived.LoopNIn
import Derived.LoopIn
import Derived.Test.YtamgeahibepfnaaGreatDoorJ15
import Derived.Test.YtamgeahibepfnaaGreatDoorJ06
import Derived.Shelf.SlGeneric
import Derived.Shelf.SlLaysF
import Derived.Shelf.Slices.In.SortAlone
import Derived.Ground.SlsfProg
import Derived.Ground.NamesProg
import Derived.Test.YtamgeahibepfnaaGreatDoorProg
import Derived.Shelf.Slices.In.SortNone
import Derived.Test.YtamgeahibepfnaaGreatDoorJ07
import Derived.Test.YtamgeahibepfnaaGreatDoorJ10
import Derived.Test.YtamgeahibepfnaaGreatDoorJ09
import Derived.Test.YtamgeahibepfnaaGreatDoorJ13
import Derived.Test.YtamgeahibepfnaaGreatDoorJ12

set_option linter.all false
set_option maxRecDepth 20000
set_option maxHeartbeats 40000000
section
namespace Go.Proofs.Try0
open Go Go.Lite Go.RowKit Go.Shelf
attribute [local go_sem] Oper.semAt_some
abbrev DkE := { p : ByteArray × ByteArray // p.1.size ≤ 1048576 ∧ p.2.size ≤ 1048576 }
def DkE.encs (x : Int × DkE) : Array Value := #[.int .i64 x.1, .agg #[.string x.2.1.1, .string x.2.1.2]]
instance : Inhabited DkE := ⟨⟨(.empty, .empty), by decide, by decide⟩⟩
def dkUpto (zs : List DkE) (k : Nat) : List (Int × DkE) := (List.range k).map fun j => (((zs.length - 1 - j : Nat) : Int), zs[zs.length - 1 - j]!)
theorem dkUpto_succ (zs : List DkE) (k : Nat) : dkUpto zs (k + 1) = dkUpto zs k ++ [(((zs.length - 1 - k : Nat) : Int), zs[zs.length - 1 - k]!)] := by simp [dkUpto, List.range_succ]
theorem dkUpto_length (zs : List DkE) (k : Nat) : (dkUpto zs k).length = k := by simp [dkUpto]
def DkKp (n₀ Bs : Nat) (A B : World) : Prop := Below n₀ A B ∧ ∀ v, A.cell? ⟨Bs, 0, none⟩ = some v → B.cell? ⟨Bs, 0, none⟩ = some v
theorem DkKp.refl (n₀ Bs : Nat) (A : World) : DkKp n₀ Bs A A := ⟨Below.refl _ _, fun _ h => h⟩
theorem DkKp.trans {n₀ Bs : Nat} {A B C : World} (h : DkKp n₀ Bs A B) (k : DkKp n₀ Bs B C) : DkKp n₀ Bs A C := ⟨h.1.trans k.1, fun v e => k.2 v (h.2 v e)⟩
theorem dkKp_b {n₀ Bs : Nat} {w : World} (hn : n₀ ≤ w.heap.size) (W : World) (l : Nat) (o o' : Obj) (hl : w.heap.size ≤ l) (h : W.heap[l]? = some o) (hc : o.isCells = false) (hw : o.isWalk = false) : DkKp n₀ Bs W (W.putObj l o') :=
 ⟨belowK_b hn W l o o' hl h hc hw, fun v hv => by
  by_cases e : Bs = l
  ·subst e
   simp only [World.cell?] at hv
   rw [h] at hv
   cases o <;> simp_all [Obj.isCells]
  ·rw [← hv]
   exact World.cell?_of_block (World.putObj_heap_other (by simpa using e))⟩
theorem dk_back1 (l Bs n₀ b off cap : Nat) (zs : List DkE) (hlen : zs.length ≤ 1048576) (hb : b < n₀) (J Jx : List (Int × DkE) → World → Prop) (n : Nat)
  (hY : ∀ pre x W, J pre W → pre.length < zs.length → YieldAt Fence.wide n Tryz.prog l (DkE.encs x) W fun e W' =>
   (e = .returned (.bool true) ∧ J (pre ++ [x]) W' ∧ DkKp n₀ Bs W W') ∨ (e = .returned (.bool false) ∧ Jx (pre ++ [x]) W'))
  (W : World) (hBs : W.cell? ⟨Bs, 0, none⟩ = some (.slice (some ⟨b, off, none⟩) zs.length cap))
  (hc : ∀ j, j < zs.length → W.cell? ⟨b, off + j * 2, none⟩ = some (.string zs[j]!.1.1) ∧ W.cell? ⟨b, off + j * 2 + 1, none⟩ = some (.string zs[j]!.1.2)) (h0 : J [] W) :
  CallsIn Fence.wide (n + 1) Tryz.prog 326 #[.func (.yield l) #[] #[], .pointer (some ⟨Bs, 0, none⟩)] W fun e W' => (∃ v, e = .returned v) ∧
   ((∃ ys, ys = dkUpto zs zs.length ∧ J ys W') ∨ (∃ pre, (∃ k, k ≤ zs.length ∧ pre = dkUpto zs k) ∧ Jx pre W')) := by
 refine callsIn_of_wp Tryz.func326 rfl trivial ?_ rfl
 simp only [Tryz.ntmps326, List.size_toArray, List.length_cons, List.length_nil, Nat.reduceAdd, Nat.reduceSub, Array.replicate_succ, Array.replicate_zero, List.push_toArray, List.append_toArray, List.nil_append, List.cons_append]
 gi_wp2
 gi_loopw [3] (fun i wr => ∃ k : Nat, k ≤ zs.length ∧ i = .int .i64 ((zs.length : Int) - 1 - k) ∧ J (dkUpto zs k) wr ∧ DkKp n₀ Bs W wr)
  (fun i _ => (intOf i + 1).toNat)
 case atStart => exact ⟨0, Nat.zero_le _, by simp, h0, DkKp.refl _ _ _⟩
 case round =>
  obtain ⟨k, hk, rfl, hJs, hnx⟩ := hrel
  have hBx : wr.cell? ⟨Bs, 0, none⟩ = some (.slice (some ⟨b, off, none⟩) zs.length cap) := hnx.2 _ hBs
  by_cases hlt : k < zs.length
  ·obtain ⟨q, hqk⟩ : ∃ q : Nat, q + k + 1 = zs.length := ⟨zs.length - 1 - k, by omega⟩
   have hqz : zs.length - 1 - k = q := by omega
   have hUs := dkUpto_succ zs k
   rw [hqz] at hUs
   obtain ⟨hc1, hc2⟩ := hc q (by omega)
   generalize zs[q]! = z at hUs hc1 hc2
   obtain ⟨fn, tmps, assign, body, hy, hR⟩ := hY _ ((q : Int), z) wr hJs (by rw [dkUpto_length]; exact hlt)
   replace hc1 := (hnx.1.cell (p := ⟨b, off + q * 2, none⟩) hb).trans hc1
   replace hc2 := (hnx.1.cell (p := ⟨b, off + q * 2 + 1, none⟩) hb).trans hc2
   dsimp only [DkE.encs] at hy
   rw [show ((zs.length : Int) - 1 - k) = (q : Int) by omega]
   have hq1 : q < zs.length := by omega
   clear hqz hlt
   gi_wp2
   refine hR.mono ?_
   rintro e W3 (⟨rfl, hJ3, hk3⟩ | ⟨rfl, hJx3⟩)
   ·gi_wp2
    go_roundw
    case rel => exact ⟨k + 1, by omega, by congr 1; omega, by rw [hUs]; exact hJ3, hnx.trans hk3⟩
    case measure => simp [intOf]
   ·gi_wp2
    refine bodyPost_ret (results_none rfl _ _ _) rfl ?_
    exact ⟨⟨_, rfl⟩, .inr ⟨_, ⟨k + 1, by omega, hUs.symm⟩, hJx3⟩⟩
  ·obtain rfl : k = zs.length := by omega
   rw [show ((zs.length : Int) - 1 - (zs.length : Nat)) = -1 by omega]
   gi_wp2
   go_end0
   exact ⟨⟨_, rfl⟩, .inl ⟨_, rfl, hJs⟩⟩
theorem dk_back1_nil (l Bs cap : Nat) (p : Option Addr) (J : List (Int × DkE) → World → Prop) (n : Nat) (W : World) (hBs : W.cell? ⟨Bs, 0, none⟩ = some (.slice p 0 cap)) (h0 : J [] W) :
  CallsIn Fence.wide (n + 1) Tryz.prog 326 #[.func (.yield l) #[] #[], .pointer (some ⟨Bs, 0, none⟩)] W fun e W' => (∃ v, e = .returned v) ∧ J [] W' := by
 refine callsIn_of_wp Tryz.func326 rfl trivial ?_ rfl
 simp only [Tryz.ntmps326, List.size_toArray, List.length_cons, List.length_nil, Nat.reduceAdd, Nat.reduceSub, Array.replicate_succ, Array.replicate_zero, List.push_toArray, List.append_toArray, List.nil_append, List.cons_append]
 gi_wp2
 gi_loopw [3] (fun i wr => i = .int .i64 (-1) ∧ J [] wr) (fun _ _ => 0)
 case atStart => exact ⟨rfl, h0⟩
 case round =>
  obtain ⟨rfl, hJs⟩ := hrel
  gi_wp2
  go_end0
  exact ⟨⟨_, rfl⟩, hJs⟩
theorem dk_back (n : Nat) (a : Option Addr) (len cap : Nat) (w : World) :
  CallsIn Fence.wide n Tryz.prog 258 #[.slice a len cap] w fun e w' => e = .returned (.func (.func 326) #[] #[.pointer (some ⟨w.heap.size, 0, none⟩)]) ∧ w' = w.alloc (.cells #[.slice a len cap] 35) := by
 refine callsIn_of_wp Tryz.func258 rfl trivial ?_ rfl
 simp only [Tryz.ntmps258, List.size_toArray, List.length_cons, List.length_nil, Nat.reduceAdd, Nat.reduceSub, Array.replicate_succ, Array.replicate_zero, List.push_toArray, List.append_toArray, List.nil_append, List.cons_append]
 gi_wp2
 go_ret
 exact ⟨rfl, rfl⟩
def DkAt (n₀ : Nat) (W : World) (sv : Value) (zs : List DkE) : Prop :=
 (∃ p cap, sv = .slice p 0 cap ∧ zs = []) ∨ ∃ b off cap, sv = .slice (some ⟨b, off, none⟩) zs.length cap ∧ b < n₀ ∧ ∀ j, j < zs.length → W.cell? ⟨b, off + j * 2, none⟩ = some (.string zs[j]!.1.1) ∧ W.cell? ⟨b, off + j * 2 + 1, none⟩ = some (.string zs[j]!.1.2)
theorem DkAt.below {n₀ : Nat} {A B : World} (h : Below n₀ A B) {sv : Value} {zs : List DkE} : DkAt n₀ A sv zs → DkAt n₀ B sv zs
 | .inl e => .inl e
 | .inr ⟨b, off, cap, e, hb, hc⟩ => .inr ⟨b, off, cap, e, hb, fun j hj => ⟨(h.cell (p := ⟨b, off + j * 2, none⟩) hb).trans (hc j hj).1, (h.cell (p := ⟨b, off + j * 2 + 1, none⟩) hb).trans (hc j hj).2⟩⟩
theorem dk_stops (n Bs n₀ : Nat) (sv : Value) (zs : List DkE) (hlen : zs.length ≤ 1048576) (w : World) (hBs : Bs < w.heap.size) (hn₀ : n₀ ≤ w.heap.size)
  (hc : w.cell? ⟨Bs, 0, none⟩ = some sv) (hI : DkAt n₀ w sv zs) :
  SeqStopsK Fence.wide (n + 1) Tryz.prog 326 #[.pointer (some ⟨Bs, 0, none⟩)] DkE.encs (DkKp n₀ Bs) (fun ys => ys = dkUpto zs zs.length) (fun pre => ∃ k, k ≤ zs.length ∧ pre = dkUpto zs k) zs.length w := fun l J Jx W hW _ _ hY h0 => by
 have hc' := (hW.cell (p := ⟨Bs, 0, none⟩) hBs).trans hc
 rcases hI.below (hW.mono hn₀) with ⟨p, cap, rfl, rfl⟩ | ⟨b, off, cap, rfl, hb, hcs⟩
 ·exact (dk_back1_nil l Bs cap p J n W hc' h0).mono fun e W' ⟨he, hj⟩ => ⟨he, .inl ⟨_, rfl, hj⟩⟩
 ·refine (dk_back1 l Bs n₀ b off cap zs hlen hb J Jx n hY W hc' hcs h0).mono ?_
  rintro e W' ⟨he, h⟩
  exact ⟨he, h⟩
def dkStep (nb : ByteArray → ByteArray) (s : ByteArray) (x : Int × DkE) : ByteArray := s ++ ((((⟨#[1]⟩ : ByteArray) ++ x.2.1.1) ++ (⟨#[61]⟩ : ByteArray)) ++ nb x.2.1.2)
def dkKey (nb : ByteArray → ByteArray) (l : List (Int × DkE)) : ByteArray := l.foldl (dkStep nb) .empty
theorem dkKey_snoc (nb : ByteArray → ByteArray) (l : List (Int × DkE)) (x : Int × DkE) : dkKey nb (l ++ [x]) = dkStep nb (dkKey nb l) x := by simp [dkKey]
theorem dkFold_size {nb : ByteArray → ByteArray} (hn : ∀ b, (nb b).size ≤ b.size + 100) : ∀ (l : List (Int × DkE)) (s : ByteArray), (l.foldl (dkStep nb) s).size ≤ s.size + l.length * 4194304 := by
 intro l
 induction l with
 | nil => intro s; simp
 | cons x l ih =>
  intro s
  have h := ih (dkStep nb s x)
  have h1 := x.2.2.1
  have h2 := x.2.2.2
  have h3 := hn x.2.1.2
  have e1 : (⟨#[1]⟩ : ByteArray).size = 1 := rfl
  have e2 : (⟨#[61]⟩ : ByteArray).size = 1 := rfl
  simp only [List.foldl_cons, List.length_cons]
  simp only [dkStep, ByteArray.size_append] at h ⊢
  omega
theorem dkKey_size {nb : ByteArray → ByteArray} (hn : ∀ b, (nb b).size ≤ b.size + 100) (l : List (Int × DkE)) : (dkKey nb l).size ≤ l.length * 4194304 := by
 have h := dkFold_size hn l .empty
 have e : (ByteArray.empty).size = 0 := rfl
 rw [e] at h
 rw [dkKey]
 omega
def Box2 (W : World) (B : Nat) (x : DkE) : Prop := W.heap[B]? = some (.cells #[.string x.1.1, .string x.1.2] 102 (0, 0))
def CellS (W : World) (B : Nat) (k : ByteArray) : Prop := W.cell? ⟨B, 0, none⟩ = some (.string k) ∧ W.frozen? ⟨B, 0, none⟩ = false
theorem CellS.lt {W : World} {B : Nat} {k : ByteArray} (h : CellS W B k) : B < W.heap.size := by
 have := h.1
 simp only [World.cell?] at this
 cases e : W.heap[B]? with
 | none => rw [e] at this; cases this
 | some o => exact (Array.getElem?_eq_some_iff.1 e).1
theorem CellS.block {W W' : World} {B : Nat} {k : ByteArray} (h : CellS W B k) (hb : W'.heap[B]? = W.heap[B]?) : CellS W' B k := ⟨(World.cell?_of_block hb).trans h.1, (World.frozen?_of_block hb).trans h.2⟩
def rfBody : Code → Code
 | .rangeFunc _ _ _ b => b
 | .seq a b => match rfBody a with
  | .skip => rfBody b
  | c => c
 | .block _ b => rfBody b
 | _ => .skip
noncomputable def bodyC : Code := rfBody code170
theorem bodyOk : CodeOk Tryz.prog C 170 21 bodyC := codeB_sound (tyOf_ok _) mixed (by decide +kernel)
noncomputable def nbOf (b : ByteArray) : ByteArray := ⟨(norm b.data.toList).toArray⟩
def regsK (key s v : ByteArray) : Nat → R := fun t => if t = 3 then .box 0 [.str key.data.toList] else if t = 5 then .box 1 [.str s.data.toList, .str v.data.toList] else .val .undef
theorem nbOf_size (b : ByteArray) : (nbOf b).size ≤ b.size + 100 := by
 have := norm_len (t := b.data.toList)
 show (norm b.data.toList).toArray.size ≤ _
 simp
 omega
theorem body_run (key s v : ByteArray) (h1 : key.size ≤ 4398046511104) (h2 : s.size ≤ 1048576) (h3 : v.size ≤ 1048576) :
  WP C 170 bodyC ⟨regsK key s v, 2, []⟩ fun ex σ' => ex = .norm ∧ σ'.regs 3 = .box 0 [.str (key ++ ((((⟨#[1]⟩ : ByteArray) ++ s) ++ (⟨#[61]⟩ : ByteArray)) ++ nbOf v)).data.toList] := by
 have c1 := i_Norm (t := v.data.toList) (H := [])
 have e1 : key.data.toList.length ≤ 4398046511104 := by simpa using h1
 have e2 : s.data.toList.length ≤ 1048576 := by simpa using h2
 have e3 := norm_len (t := v.data.toList)
 have g1 : 1 + s.size ≤ 4611686018427387904 := by omega
 have g2 : 1 + s.size + 1 ≤ 4611686018427387904 := by omega
 have g2' : s.size + 1 + 1 ≤ 4611686018427387904 := by omega
 have g3 : s.size + 1 + 1 + (norm v.data.toList).length ≤ 4611686018427387904 := by omega
 have g4 : key.size + (s.size + ((norm v.data.toList).length + 1) + 1) ≤ 4611686018427387904 := by omega
 simp [bodyC, rfBody, code170, Tryz.f170, g1, g2, g2', g3, g4, regsK, c1, strBin, maxStr, nbOf, List.lookup, regionL_some]
theorem dk_key (progOk : ProgOk Tryz.prog C) (a : Option Addr) (len cap : Nat) (zs : List DkE) (hlen : zs.length ≤ 1048576) (w : World) (hI : DkAt w.heap.size w (.slice a len cap) zs) :
  Calls Tryz.prog 170 #[.slice a len cap] w fun e W' => e = .returned (.string (dkKey nbOf (dkUpto zs zs.length))) ∧ Below w.heap.size w W' := by
 refine (callsIn_wide (n := 6)).1 ?_
 refine callsIn_of_wp_marks Tryz.func170 rfl trivial ?_ rfl
 simp only [Tryz.ntmps170, List.size_toArray, List.length_cons, List.length_nil, Nat.reduceAdd, Nat.reduceSub, Array.replicate_succ, Array.replicate_zero, List.push_toArray, List.append_toArray, List.nil_append, List.cons_append]
 gi_wp2_with (refine ⟨trivial, ?_⟩; gi_at_call 258; refine (dk_back _ _ _ _ _).mono ?_; rintro e w' ⟨rfl, rfl⟩)
 have bS := (Boxed.new w 9 (.string .empty)).alloc (.cells #[.slice a len cap] 35)
 have bA := Boxed.new (w.alloc (.cells #[.string .empty] 9)) 35 (.slice a len cap)
 simp only [World.size_alloc] at bS bA
 have hB0 : Below w.heap.size w ((w.alloc (.cells #[.string .empty] 9)).alloc (.cells #[.slice a len cap] 35)) := ((Below.refl _ w).alloc (Nat.le_refl _) _).alloc (by simp) _
 have hsz : ((w.alloc (.cells #[.string .empty] 9)).alloc (.cells #[.slice a len cap] 35)).heap.size = w.heap.size + 2 := by simp
 change Code.wpIn _ _ _ _ _ _ ((w.alloc (.cells #[.string .empty] 9)).alloc (.cells #[.slice a len cap] 35))
 obtain ⟨W0, hW0⟩ : ∃ W0, (w.alloc (.cells #[.string .empty] 9)).alloc (.cells #[.slice a len cap] 35) = W0 := ⟨_, rfl⟩
 rw [hW0] at bS bA hB0 hsz ⊢
 clear hW0
 refine wpIn_rangeFunc_ownH rfl (by omega) (gf := 326) (lb := #[.pointer (some ⟨w.heap.size + 1, 0, none⟩)]) rfl trivial (enters_of Tryz.func326 (by kernel_rfl) rfl)
  (dk_stops 4 (w.heap.size + 1) w.heap.size (.slice a len cap) zs hlen W0 (by omega) (by omega) bA.cell (hI.below hB0)) DkKp.trans (dkKp_b (by omega)) (Below.refl _ _) (fun _ => rfl)
  (fun pre W => (CellS W w.heap.size (dkKey nbOf pre) ∧ Boxed W (w.heap.size + 1) 35 (.slice a len cap)) ∧ Below w.heap.size w W)
  (fun _ _ _ => False)
  (OwnFrom.and (OwnFrom.and (Own.from (fun s X Y row hs hg hr => ⟨cell_kept hs.1 hg hr, (frozen_kept hs.1 hg hr).trans hs.2⟩) _) (Own.from (boxed_own _ _ _) _)) (ownFrom_below (Nat.le_refl _) (by omega)))
  (fun _ _ _ _ _ hs _ _ => hs)
  ⟨⟨⟨bS.cell, bS.frozen⟩, bA⟩, hB0⟩
  (fun x a' W => ∃ Bx, w.heap.size + 1 < Bx ∧ Box2 W Bx x.2 ∧ a' = { tmps := #[.slice a len cap, undef, .string ⟨#[]⟩, .pointer (some ⟨w.heap.size, 0, none⟩), undef, .pointer (some ⟨Bx, 0, none⟩), .slice a len cap, .func (.func 326) #[] #[.pointer (some ⟨w.heap.size + 1, 0, none⟩)], .int .i64 x.1, .agg #[.string x.2.1.1, .string x.2.1.2], undef, undef, undef, undef, undef, undef, undef, undef, undef, undef, undef], defers := [] })
  (fun x a' _ X Y row hs hg hr => by
   obtain ⟨Bx, h1, h2, h3⟩ := hs
   refine ⟨Bx, h1, (hg.block Bx (Array.getElem?_eq_some_iff.1 h2).1 fun e => ?_).trans h2, h3⟩
   obtain ⟨_, o, ho, hc⟩ := hr Bx e.symm
   rw [show X.heap[Bx]? = _ from h2] at ho
   cases ho
   cases hc)
  ?assign ?body ?done ?stop
 case assign =>
  rintro l pre x W K ⟨⟨bS1, bA1⟩, hB1⟩ hK
  obtain ⟨i, ⟨⟨s, v⟩, hs⟩⟩ := x
  dsimp only [DkE.encs] at hK ⊢
  gi_wp2
  refine hK _ _ ((KeepsOthers.alloc _ _).from _) ⟨(Below.refl _ W).alloc hB1.size _, fun u hu => (World.cell?_of_block (Below.heap_alloc W _ _ bA1.lt)).trans hu⟩ ⟨⟨bS1.block (Below.heap_alloc W _ _ bS1.lt), bA1.alloc _⟩, hB1.alloc hB1.size _⟩ ⟨W.heap.size, bA1.lt, World.alloc_heap_new W _, rfl⟩
 case body =>
  rintro l pre x a' W hl ⟨r, hr⟩ ⟨⟨bS1, bA1⟩, hB1⟩ ⟨Bx, hBx, bX, rfl⟩ hlt
  have hkz := dkKey_size nbOf_size pre
  obtain ⟨i, ⟨⟨s, v⟩, hs⟩⟩ := x
  dsimp only at hs bX
  have z1 : (dkKey nbOf pre).size ≤ 4398046511104 := by omega
  obtain ⟨ex, σ', hex, rfl, hr3⟩ := body_run (dkKey nbOf pre) s v z1 hs.1 hs.2
  have hBne : w.heap.size ≠ Bx := by omega
  have hBxl : Bx < W.heap.size := (Array.getElem?_eq_some_iff.1 bX).1
  have hsim : Sim (C.locs 170) ⟨regsK (dkKey nbOf pre) s v, 2, []⟩ (fun _ => none) [w.heap.size, Bx] { tmps := #[.slice a len cap, undef, .string ⟨#[]⟩, .pointer (some ⟨w.heap.size, 0, none⟩), undef, .pointer (some ⟨Bx, 0, none⟩), .slice a len cap, .func (.func 326) #[] #[.pointer (some ⟨w.heap.size + 1, 0, none⟩)], .int .i64 i, .agg #[.string s, .string v], undef, undef, undef, undef, undef, undef, undef, undef, undef, undef, undef], defers := [] } W := {
   heap := ⟨fun id m h => by simp at h, fun id o h => by simp at h, fun id o m h => by simp at h, fun id id' o o' m m' _ h => by simp at h, fun id es cells m h => by simp at h⟩
   lenβ := rfl
   reg := fun t ht => by
    by_cases t3 : t = 3
    ·subst t3; exact ⟨_, rfl, rfl⟩
    by_cases t5 : t = 5
    ·subst t5; exact ⟨_, rfl, rfl⟩
    show RR _ _ _ _ (regsK _ _ _ t) _
    simp only [regsK, t3, t5, if_false]
    exact .undef _
   box := fun t c cells b ht h1 h2 => by
    simp only [regsK] at h1
    split at h1
    ·cases h1
     simp at h2
     subst h2
     refine ⟨fun j u hj => ?_, fun o ho1 ho2 => ?_⟩
     ·match j, hj with
      | 0, hj => cases hj; exact ⟨_, bS1.1, .str _⟩
     ·have : o = 0 := by simp at ho2; omega
      subst this
      exact ⟨⟨_, bS1.1⟩, bS1.2⟩
    split at h1
    ·cases h1
     simp at h2
     subst h2
     have q0 : W.cell? ⟨Bx, 0, none⟩ = some (.string s) := by simp [World.cell?, show W.heap[Bx]? = _ from bX]
     have q1 : W.cell? ⟨Bx, 1, none⟩ = some (.string v) := by simp [World.cell?, show W.heap[Bx]? = _ from bX]
     have q2 : ∀ o, W.frozen? ⟨Bx, o, none⟩ = false := fun o => by simp [World.frozen?, show W.heap[Bx]? = _ from bX]
     refine ⟨fun j u hj => ?_, fun o ho1 ho2 => ?_⟩
     ·match j, hj with
      | 0, hj => cases hj; exact ⟨_, q0, .str _⟩
      | 1, hj => cases hj; exact ⟨_, q1, .str _⟩
     ·have : o = 0 ∨ o = 1 := by simp at ho2; omega
      rcases this with rfl | rfl
      ·exact ⟨⟨_, q0⟩, q2 _⟩
      ·exact ⟨⟨_, q1⟩, q2 _⟩
    ·cases h1
   sepβ := fun id o m b h => by simp at h
   injβ := fun c c' b h1 h2 => by
    match c, c', h1, h2 with
    | 0, 0, _, _ => rfl
    | 1, 1, _, _ => rfl
    | 0, 1, h1, h2 => simp at h1 h2; omega
    | 1, 0, h1, h2 => simp at h1 h2; omega
    | 0, _ + 2, _, h2 => simp at h2
    | 1, _ + 2, _, h2 => simp at h2
    | _ + 2, _, h1, _ => simp at h1
   ltβ := fun b hb => by
    simp at hb
    rcases hb with rfl | rfl
    ·exact bS1.lt
    ·exact hBxl
   uniq := fun t t' c cells cells' _ _ h1 h2 => by
    simp only [regsK] at h1 h2
    split at h1
    ·rename_i e
     cases h1
     split at h2
     ·rename_i e'; rw [e, e']
     split at h2
     ·cases h2
     ·cases h2
    split at h1
    ·rename_i e
     cases h1
     split at h2
     ·cases h2
     split at h2
     ·rename_i e'; rw [e, e']
     ·cases h2
    ·cases h1
   loc := fun t c cells _ h1 => by
    simp only [regsK] at h1
    split at h1
    ·rename_i e; subst e; simp
    split at h1
    ·rename_i e; subst e; simp
    ·cases h1
   defs := rfl }
  refine wp_round (ro := some l) progOk hsim bodyOk hex fun a'' w' hl' => ?_
  obtain ⟨μ', β', k1, k2, k3, k4, k5, k6⟩ := hl'
  have hno : ∀ b, b ≠ w.heap.size → b ≠ Bx → ¬ OwnB (St.heap ⟨regsK (dkKey nbOf pre) s v, 2, []⟩) (fun _ => none) [w.heap.size, Bx] b := by
   rintro b h1 h2 (⟨id, o, m, h, _⟩ | h)
   ·simp at h
   ·simp at h; omega
  have hsame : ∀ b, b < W.heap.size → b ≠ w.heap.size → b ≠ Bx → w'.heap[b]? = W.heap[b]? := fun b h h1 h2 => k5.same b h (hno b h1 h2)
  have hcell : CellS w' w.heap.size (dkKey nbOf (pre ++ [(i, ⟨(s, v), hs⟩)])) := by
   rw [dkKey_snoc]
   have r3 := k1.reg 3 (by rw [k4]; exact (by decide : 3 < 21))
   rw [hr3] at r3
   obtain ⟨b, hb, _⟩ := r3
   have hb0 : β'[0]? = some w.heap.size := by
    obtain ⟨ν, rfl⟩ := k3
    rfl
   rw [hb0] at hb
   cases hb
   obtain ⟨q1, q2⟩ := k1.box 3 0 _ _ (by rw [k4]; exact (by decide : 3 < 21)) hr3 hb0
   obtain ⟨u, hu1, hu2⟩ := q1 0 _ rfl
   obtain ⟨x, rfl, hx⟩ := hu2.str_inv
   refine ⟨?_, (q2 0 (Nat.le_refl _) (by simp)).2⟩
   rw [Nat.zero_add] at hu1
   rw [hu1]
   congr 2
   exact ByteArray.ext (Array.toList_inj.1 hx.symm)
  have hbl : Below w.heap.size W w' := ⟨k5.os, k5.tape, k5.output, k5.size, fun k hk => hsame k (by have := hB1.size; omega) (by omega) (by omega)⟩
  have hbA : Boxed w' (w.heap.size + 1) 35 (.slice a len cap) := (hsame _ bA1.lt (by omega) (by omega)).trans bA1
  refine ⟨⟨k5.size, fun k o hk1 hk2 hk3 => ?_⟩, ⟨hbl, fun u hu => ?_⟩, ⟨hcell, hbA⟩, hB1.trans hbl⟩
  ·by_cases e : k = Bx
   ·subst e
    rw [show W.heap[k]? = _ from bX] at hk2
    cases hk2
    cases hk3
   ·rw [hsame k (Array.getElem?_eq_some_iff.1 hk2).1 (by omega) e]
    exact hk2
  ·rw [bA1.cell] at hu
   cases hu
   exact hbA.cell
 case done =>
  rintro D ys W hD rfl ⟨⟨bS1, bA1⟩, hB1⟩ hK
  have cS := bS1.1
  gi_wp2
  refine ⟨by simp, .inl ⟨_, _, rfl, run_takeDeferred hK, ?_⟩⟩
  exact ⟨_, results_tmp rfl _ _ _, rfl, hB1.trans (belowK_b (w := w) (Nat.le_refl _) W D _ _ (by omega) hK rfl rfl)⟩
 case stop =>
  rintro D c pre W _ _ h _
  exact h.elim
theorem below_goes {H : List Ob} {μ : Mu} {w w' : World} (h : HSim H μ w) (hb : Below w.heap.size w w') : HGoes H μ w H μ w' :=
 ⟨h.world (fun id o m h1 h2 h3 => .of_heap (hb.block _ (live_lt h id o m h1 h2 h3))) hb.size, μ.le_refl, ⟨hb.size, fun b hb' _ => hb.block b hb', fun b h => .inl h, hb.os, hb.tape, hb.output, fun h => (show False from h).elim⟩, Lives.refl _ _ _⟩
noncomputable def dkOf (p : Str × Str) : DkE := if h : p.1.length ≤ 1048576 ∧ p.2.length ≤ 1048576 then ⟨(⟨p.1.toArray⟩, ⟨p.2.toArray⟩), by simpa [ByteArray.size] using h⟩ else default
theorem dkOf_fst {p : Str × Str} (h : p.1.length ≤ 1048576 ∧ p.2.length ≤ 1048576) : (dkOf p).1 = (⟨p.1.toArray⟩, ⟨p.2.toArray⟩) := by unfold dkOf; rw [dif_pos h]
theorem pairs_get : ∀ {cs : List V} {l : List (Str × Str)}, pairsOf cs = some l → ∀ (j : Nat) p, l[j]? = some p → cs[j * 2]? = some (.str p.1) ∧ cs[j * 2 + 1]? = some (.str p.2)
 | cs, l, h, j, p, hp => by
  unfold pairsOf at h
  split at h
  ·cases h; cases hp
  ·rename_i a v rest
   split at h
   ·rename_i l' hl'
    cases h
    cases j with
    | zero => cases hp; exact ⟨rfl, rfl⟩
    | succ j =>
     have ih := pairs_get hl' j p (by simpa using hp)
     rw [show (j + 1) * 2 = j * 2 + 1 + 1 by omega]
     simpa using ih
   ·cases h
  ·cases h
theorem dkUpto_snd (zs : List DkE) : (dkUpto zs zs.length).map Prod.snd = zs.reverse := by
 apply List.ext_getElem
 ·simp [dkUpto]
 ·intro i h1 h2
  simp only [List.length_reverse] at h2
  simp only [dkUpto, List.map_map, List.getElem_map, List.getElem_range, Function.comp, List.getElem_reverse]
  rw [getElem!_pos]
theorem key_fold : ∀ (l : List (Str × Str)) (s : ByteArray), fitsL l = true → ((l.map dkOf).foldl (fun s z => dkStep nbOf s (0, z)) s).data.toList = l.foldl keyStep s.data.toList
 | [], s, _ => rfl
 | p :: l, s, h => by
  simp only [fitsL, List.all_cons, Bool.and_eq_true, decide_eq_true_eq] at h
  have ih := key_fold l (dkStep nbOf s (0, dkOf p)) (by simpa [fitsL] using h.2)
  rw [List.map_cons, List.foldl_cons, List.foldl_cons, ih]
  congr 1
  simp only [dkStep, dkOf_fst h.1, keyStep, nbOf]
  simp
theorem key_eq {l : List (Str × Str)} (h : fitsL l = true) : (dkKey nbOf (dkUpto (l.map dkOf) (l.map dkOf).length)).data.toList = keyL l := by
 have e : dkKey nbOf (dkUpto (l.map dkOf) (l.map dkOf).length) = ((dkUpto (l.map dkOf) (l.map dkOf).length).map Prod.snd).foldl (fun s z => dkStep nbOf s (0, z)) .empty := by
  rw [List.foldl_map]
  rfl
 rw [e, dkUpto_snd, ← List.map_reverse, key_fold _ _ (by unfold fitsL at h ⊢; rw [List.all_reverse]; exact h)]
 rfl
theorem dkPrim_ok (progOk : ProgOk Tryz.prog C) : PrimOk Tryz.prog 170 dkPrim := by
 intro args H r H' h μ w us hs hv
 have hent : ∀ us w, (callFunc 170 us).run Tryz.prog w = .ok (.enter 170 us) w := enters_of Tryz.func170 (by kernel_rfl) rfl
 unfold dkPrim at h
 split at h
 case h_2 => cases h
 rename_i p n
 obtain ⟨u, rfl, hu⟩ := hv.one
 refine .inr ⟨hent _ _, ?_⟩
 split at h
 ·rename_i hn
  subst hn
  cases h
  have : ∃ q c, u = .slice q 0 c := by
   cases p with
   | none => obtain ⟨rfl, _⟩ := hu.slcN_inv; exact ⟨_, _, rfl⟩
   | some p =>
    obtain ⟨id, off⟩ := p
    obtain ⟨m, _, ⟨c, _, _, _, rfl⟩ | ⟨_, _, a, rfl⟩⟩ := hu.slc_inv <;> exact ⟨_, _, rfl⟩
  obtain ⟨q, c, rfl⟩ := this
  refine (dk_key progOk q 0 c [] (by simp) w (.inl ⟨q, c, rfl, rfl⟩)).mono ?_
  rintro e w' ⟨rfl, hb⟩
  exact ⟨_, rfl, μ, below_goes hs hb, VR.str .empty⟩
 rename_i hn
 split at h
 case isFalse => cases h
 rename_i hn1
 split at h
 case h_2 => cases h
 rename_i id off
 split at h
 case h_2 => cases h
 rename_i own cells ho
 split at h
 case isFalse => cases h
 rename_i hlen
 split at h
 case h_2 => cases h
 rename_i l hl
 split at h
 case isFalse => cases h
 rename_i hf
 obtain ⟨hf, hln⟩ := hf
 cases h
 obtain ⟨m, hm, ⟨c, hc1, hc2, hc3, rfl⟩ | ⟨h0, _⟩⟩ := hu.slc_inv
 rotate_left
 ·exact absurd h0 hn
 obtain ⟨g1, g2, g3, g4, g5, g6⟩ := hs.obj id _ m ho hm
 have hfit : ∀ p ∈ l, p.1.length ≤ 1048576 ∧ p.2.length ≤ 1048576 := fun p hp => by
  have := List.all_eq_true.1 hf p hp
  simpa using this
 have hI : DkAt w.heap.size w (.slice (some ⟨m.blk, m.base + off, none⟩) n c) (l.map dkOf) := by
  refine .inr ⟨m.blk, m.base + off, c, by rw [List.length_map, hln], g5, fun j hj => ?_⟩
  rw [List.length_map] at hj
  have hpj : l[j]? = some l[j] := List.getElem?_eq_getElem hj
  obtain ⟨q1, q2⟩ := pairs_get hl j _ hpj
  have hget : ∀ k, k < n * 2 → ((cells.drop off).take (n * 2))[k]? = cells[off + k]? := fun k hk => by rw [List.getElem?_take_of_lt hk, List.getElem?_drop]
  rw [hget _ (by omega)] at q1 q2
  obtain ⟨u1, a1, a2⟩ := g4 _ _ q1
  obtain ⟨u2, b1, b2⟩ := g4 _ _ q2
  obtain ⟨x1, rfl, ex1⟩ := a2.str_inv
  obtain ⟨x2, rfl, ex2⟩ := b2.str_inv
  have hz : (l.map dkOf)[j]! = dkOf l[j] := by rw [getElem!_pos _ _ (by simpa using hj)]; simp
  rw [hz, dkOf_fst (hfit _ (List.getElem_mem hj))]
  have e1 : x1 = ⟨(l[j]).1.toArray⟩ := ByteArray.ext (by simp [ex1])
  have e2 : x2 = ⟨(l[j]).2.toArray⟩ := ByteArray.ext (by simp [ex2])
  rw [← Nat.add_assoc] at a1 b1
  rw [← Nat.add_assoc] at b1
  rw [a1, b1, e1, e2]
  exact ⟨rfl, rfl⟩
 refine (dk_key progOk _ n c (l.map dkOf) (by rw [List.length_map]; omega) w hI).mono ?_
 rintro e w' ⟨rfl, hb⟩
 refine ⟨_, rfl, μ, below_goes hs hb, ?_⟩
 rw [← key_eq hf]
 exact .str _
end Go.Proofs.Try0
end
section
namespace Go.Proofs.Try1
open Go Go.Lite
theorem dk_ok : PrimOk Tryz.prog 170 dkPrim := Try0.dkPrim_ok progOk0
end Go.Proofs.Try1
end
section
namespace Go.Proofs
open Go.Shelf
def Tryz.laysSort_ren : Go.Shelf.Ren := ⟨fun | 190 => 311 | 125 => 340 | 258 => 348 | 128 => 368 | 129 => 369 | 302 => 373 | 303 => 374 | 304 => 375 | 305 => 376 | 306 => 377 | 307 => 378 | 308 => 379 | 309 => 380 | 310 => 381 | 333 => 393 | 329 => 388 | 330 => 389 | 334 => 394 | 335 => 395 | 336 => 333 | 344 => 398 | n => n, fun | 31 => 30 | 9 => 9 | 3 => 3 | 46 => 348 | 0 => 0 | 51 => 371 | 53 => 373 | 4 => 4 | 183 => 365 | 182 => 364 | 131 => 237 | 5 => 5 | 218 => 387 | 222 => 391 | 228 => 395 | 229 => 235 | n => n, fun | n => n⟩
theorem Tryz.laysSort : Go.Proofs.Lays.n190 Tryz.prog Tryz.laysSort_ren := {
 mixed := by kernel_rfl
 f125 := Tryz.func340.trans (congrArg some (by kernel_rfl))
 f128 := Tryz.func368.trans (congrArg some (by kernel_rfl))
 f129 := Tryz.func369.trans (congrArg some (by kernel_rfl))
 f190 := Tryz.func311.trans (congrArg some (by kernel_rfl))
 f258 := Tryz.func348.trans (congrArg some (by kernel_rfl))
 f302 := Tryz.func373.trans (congrArg some (by kernel_rfl))
 f303 := Tryz.func374.trans (congrArg some (by kernel_rfl))
 f304 := Tryz.func375.trans (congrArg some (by kernel_rfl))
 f305 := Tryz.func376.trans (congrArg some (by kernel_rfl))
 f306 := Tryz.func377.trans (congrArg some (by kernel_rfl))
 f307 := Tryz.func378.trans (congrArg some (by kernel_rfl))
 f308 := Tryz.func379.trans (congrArg some (by kernel_rfl))
 f309 := Tryz.func380.trans (congrArg some (by kernel_rfl))
 f310 := Tryz.func381.trans (congrArg some (by kernel_rfl))
 f329 := Tryz.func388.trans (congrArg some (by kernel_rfl))
 f330 := Tryz.func389.trans (congrArg some (by kernel_rfl))
 f333 := Tryz.func393.trans (congrArg some (by kernel_rfl))
 f334 := Tryz.func394.trans (congrArg some (by kernel_rfl))
 f335 := Tryz.func395.trans (congrArg some (by kernel_rfl))
 f336 := Tryz.func333.trans (congrArg some (by kernel_rfl))
 f344 := Tryz.func398.trans (congrArg some (by kernel_rfl))
 t0 := Tryz.underlying0
 a0 := Tryz.isAgg0
 z0 := Tryz.sizeOf0
 v0 := Tryz.zeroValue0
 t3 := Tryz.underlying3
 a3 := Tryz.isAgg3
 z3 := Tryz.sizeOf3
 v3 := Tryz.zeroValue3
 t4 := Tryz.underlying4
 a4 := Tryz.isAgg4
 z4 := Tryz.sizeOf4
 v4 := Tryz.zeroValue4
 t5 := Tryz.underlying5
 a5 := Tryz.isAgg5
 z5 := Tryz.sizeOf5
 v5 := Tryz.zeroValue5
 t9 := Tryz.underlying9
 a9 := Tryz.isAgg9
 z9 := Tryz.sizeOf9
 v9 := Tryz.zeroValue9
 t31 := Tryz.underlying30
 a31 := Tryz.isAgg30
 z31 := Tryz.sizeOf30
 v31 := Tryz.zeroValue30
 t46 := Tryz.underlying348
 a46 := Tryz.isAgg348
 z46 := Tryz.sizeOf348
 v46 := Tryz.zeroValue348
 t51 := Tryz.underlying371
 a51 := Tryz.isAgg371
 z51 := Tryz.sizeOf371
 v51 := Tryz.zeroValue371
 t53 := Tryz.underlying373
 a53 := Tryz.isAgg373
 z53 := Tryz.sizeOf373
 v53 := Tryz.zeroValue373
 t131 := Tryz.underlying237
 a131 := Tryz.isAgg237
 z131 := Tryz.sizeOf237
 v131 := Tryz.zeroValue237
 t182 := Tryz.underlying364
 a182 := Tryz.isAgg364
 z182 := Tryz.sizeOf364
 v182 := Tryz.zeroValue364
 t183 := Tryz.underlying365
 a183 := Tryz.isAgg365
 z183 := Tryz.sizeOf365
 v183 := Tryz.zeroValue365
 t218 := Tryz.underlying387
 a218 := Tryz.isAgg387
 z218 := Tryz.sizeOf387
 v218 := Tryz.zeroValue387
 t222 := Tryz.underlying391
 a222 := Tryz.isAgg391
 z222 := Tryz.sizeOf391
 v222 := Tryz.zeroValue391
 t228 := Tryz.underlying395
 a228 := Tryz.isAgg395
 z228 := Tryz.sizeOf395
 v228 := Tryz.zeroValue395
 t229 := Tryz.underlying235
 a229 := Tryz.isAgg235
 z229 := Tryz.sizeOf235
 v229 := Tryz.zeroValue235 }
end Go.Proofs
end
section
namespace Go.Proofs.Try1
open Go Go.Lite
theorem sort_ok : PrimOk Tryz.prog 311 sortPrim :=
 sortPrim_ok (enters Tryz.func311 (by kernel_rfl) (by kernel_rfl))
  (fun blk off cap zs w hH hb hl => calls_of_in fun D => AnyS.slices_Sort_string_alone Tryz.laysSort D blk off cap zs w hH hb hl)
  (fun p cap w => calls_of_in fun D => AnyS.slices_Sort_string_none_alone Tryz.laysSort D p cap w)
theorem progOk : ProgOk Tryz.prog C := progB_sound mixed ok fun g pr h => by
 change primTab g = some pr at h
 unfold primTab at h
 split at h
 ·rename_i hg; subst hg; cases h; exact dk_ok
 split at h
 ·rename_i hg; subst hg; cases h; exact nonePrim_ok
 split at h
 ·rename_i hg; subst hg; cases h; exact nonePrim_ok
 split at h
 ·rename_i hg; subst hg; cases h; exact sort_ok
 split at h
 ·rename_i hg; subst hg; cases h; exact nonePrim_ok
 split at h
 ·rename_i hg; subst hg; cases h; exact cmp_ok
 split at h
 ·rename_i hg; subst hg; cases h; exact nonePrim_ok
 cases h
theorem mk_EntryS : MkFn 108 (.slice shEntry) := by
 intro H cs u F k h hn hk
 obtain ⟨v, l, rfl, rfl, hlen, hv⟩ := AtF_slice.1 h
 have hv := (AtF_slice.2 ⟨v, l, rfl, rfl, hlen, hv⟩).at
 obtain ⟨_, _, hx1, hx2, _, hv⟩ := At_slice.1 hv
 cases hx1; cases hx2
 apply Ret.mark
 rw [op108]
 simp only [cntV] at hk
 have hl64 : l.length ≤ 9223372036854775807 := hlen
 simp [code108, Tryz.f108, valC, -setRange]
 refine WP_loop (fun m σ => ∃ (i : Nat) (r : Nat → R) (G : List Ob), i + m = l.length ∧ σ = ⟨r, 0, G⟩ ∧ r 0 = .val v ∧ r 1 = .val (.int .i64 ((k + cntPs (l.take i) : Nat) : Int)) ∧ r 5 = .val (.int .i64 i) ∧ G.length = H.length ∧ (∀ q, q ∉ F → G[q]? = H[q]?) ∧ AtF G (.slice shEntry) [v] (.lst (mkPs (l.take i) k ++ l.drop i)) F) ?_ l.length _ ⟨0, _, H, by simp, rfl, by simp, by simp [cntPs], by simp, rfl, fun _ _ => rfl, by simpa [mkPs] using h⟩
 rintro m σ ⟨i, r, G, him, rfl, r0, r1, r5, g1, g2, g3⟩
 cases m with
 | zero =>
  have hi : i = l.length := by omega
  subst hi
  simp at g3
  simp [r0, r1, r5, hv.len, gcH_len g1, cntV, mkV]
  exact ⟨g1, g2, g3⟩
 | succ m =>
  have hi : i < l.length := by omega
  obtain ⟨x, hx⟩ : ∃ x, l[i]? = some x := ⟨l[i], by simp [hi]⟩
  have hx0 : (mkPs (l.take i) k ++ l.drop i)[i]? = some x := by rw [mk_get hi, hx]
  have hmk := mk_set (k := k) hx
  have hcnt := cntPs_take hx
  have hle := cntPs_take_le (l := l) (i := i + 1)
  have hL : (mkPs (l.take i) k ++ l.drop i).length = l.length := by simp [mkPs_len]; omega
  obtain ⟨L, hLd⟩ : ∃ L, L = mkPs (l.take i) k ++ l.drop i := ⟨_, rfl⟩
  rw [← hLd] at hx0 hmk hL g3
  clear hLd
  obtain ⟨id, off, cells, K, e0, e1, e2, e3, e4, e5, e6, e7, e8⟩ := AtF.elem g3 hn hx0
  clear e1 e2 e4 e5 e7 e8
  rw [hL] at e0
  subst e0
  generalize List.take (shEntry).size (List.drop (off + i * (shEntry).size) cells) = cc at e3
  replace e3 := AtF_st.1 e3
  obtain ⟨us, rfl, e3⟩ := e3
  replace e3 := AtsF_cons.1 e3
  obtain ⟨c0, d0, u0, rr0, F0, E0, rfl, rfl, rfl, h0, e3⟩ := e3
  replace e3 := AtsF_cons.1 e3
  obtain ⟨c1, d1, u1, rr1, F1, E1, rfl, rfl, rfl, h1, e3⟩ := e3
  replace e3 := AtsF_nil.1 e3
  obtain ⟨rfl, rfl, rfl⟩ := e3
  have k0 := h0
  replace h0 := AtF_slice.1 h0
  obtain ⟨v0, l0, rfl, rfl, w0, hv0⟩ := h0
  have o0 := (At_slice.1 (AtF.at _ k0))
  obtain ⟨_, _, x1, x2, _, o0⟩ := o0
  cases x1
  cases x2
  have o0 := o0.one
  have k1 := h1
  replace h1 := AtF_slice.1 h1
  obtain ⟨v1, l1, rfl, rfl, w1, hv1⟩ := h1
  have o1 := (At_slice.1 (AtF.at _ k1))
  obtain ⟨_, _, x1, x2, _, o1⟩ := o1
  cases x1
  cases x2
  have o1 := o1.one
  simp only [cntP, cntPs_cons, cntPs_nil, Nat.add_zero] at hcnt
  obtain ⟨kk, hkk⟩ : ∃ kk, kk = k + cntPs (l.take i) := ⟨_, rfl⟩
  rw [← hkk] at r1
  obtain ⟨id0, off0, cells0, w0, K0, ev0, eg0, ei0, ek0, ew0, ea0, en0, es0, er0, et0⟩ := AtF.field [] g3 hn (i := i) (us1 := []) (u := (.lst l0)) (us2 := [(.lst l1)]) hx0 rfl rfl
  simp only [V.slc.injEq, Option.some.injEq, Prod.mk.injEq] at ev0
  obtain ⟨⟨rfl, rfl⟩, _⟩ := ev0
  simp only [shEntry, Sh.size_st, Sh.sizes_cons, Sh.sizes_nil, Sh.size_str, Sh.size_slice, Sh.size_int, Sh.size_bool, List.cons_append, List.nil_append, Nat.reduceAdd, Nat.add_zero] at eg0 ew0 et0 er0
  obtain ⟨G0, q0, ln0, fr0, ma0⟩ := mk_RdnS G [w0] _ K0 kk ea0 en0 (by simp only [cntPV, cntP]; omega)
  simp only [valC, List.headD_cons] at q0
  have ld0 := load1 eg0 ew0
  have A0 := er0 G0 (.lst (mkPs l0 kk)) (fun q _ hq => fr0 q hq) ma0
  have ln0 : G0.length = H.length := by rw [ln0]; first | exact g1 | exact ln-1
  have fr0 : ∀ q, q ∉ F → G0[q]? = H[q]? := fun q hq => by rw [fr0 q fun h => hq (es0 q h)]; first | exact g2 q hq | exact fr0 q hq
  obtain ⟨kk0, hkk0⟩ : ∃ n, n = kk + cntP (.lst l0) := ⟨_, rfl⟩
  rw [cntPV, ← hkk0] at q0
  simp only [cntP] at hkk0
  have hx0_ : (L.set i (.st [(.lst (mkPs l0 kk)), (.lst l1)]))[i]? = some (.st [(.lst (mkPs l0 kk)), (.lst l1)]) := List.getElem?_set_self (by omega)
  obtain ⟨id1, off1, cells1, w1, K1, ev1, eg1, ei1, ek1, ew1, ea1, en1, es1, er1, et1⟩ := AtF.field [(.slice shRdn)] A0 hn (i := i) (us1 := [(.lst (mkPs l0 kk))]) (u := (.lst l1)) (us2 := []) hx0_ rfl rfl
  simp only [V.slc.injEq, Option.some.injEq, Prod.mk.injEq] at ev1
  obtain ⟨⟨rfl, rfl⟩, _⟩ := ev1
  simp only [shEntry, Sh.size_st, Sh.sizes_cons, Sh.sizes_nil, Sh.size_str, Sh.size_slice, Sh.size_int, Sh.size_bool, List.cons_append, List.nil_append, Nat.reduceAdd, Nat.add_zero] at eg1 ew1 et1 er1
  obtain ⟨G1, q1, ln1, fr1, ma1⟩ := mk_AttrS G0 [w1] _ K1 kk0 ea1 en1 (by simp only [cntPV, cntP]; omega)
  simp only [valC, List.headD_cons] at q1
  have ld1 := load1 eg1 ew1
  have A1 := er1 G1 (.lst (mkPs l1 kk0)) (fun q _ hq => fr1 q hq) ma1
  have ln1 : G1.length = H.length := by rw [ln1]; first | exact g1 | exact ln0
  have fr1 : ∀ q, q ∉ F → G1[q]? = H[q]? := fun q hq => by rw [fr1 q fun h => hq (es1 q h)]; first | exact g2 q hq | exact fr0 q hq
  obtain ⟨kk1, hkk1⟩ : ∃ n, n = kk0 + cntP (.lst l1) := ⟨_, rfl⟩
  rw [cntPV, ← hkk1] at q1
  simp only [cntP] at hkk1
  rw [List.set_set] at A1
  have hx1_ : (L.set i (.st [(.lst (mkPs l0 kk)), (.lst (mkPs l1 kk0))]))[i]? = some (.st [(.lst (mkPs l0 kk)), (.lst (mkPs l1 kk0))]) := List.getElem?_set_self (by omega)
  have hks : k + cntPs (l.take (i + 1)) = kk1 := by omega
  rw [show L.set i (.st [(.lst (mkPs l0 kk)), (.lst (mkPs l1 kk0))]) = _ from (by simp only [hkk0, hkk1, hkk]; exact hmk)] at A1
  have hw : IntKind.i64.wrap ((i : Int) + 1) = ((i : Int) + 1) := wrap_i64 (by omega) (by omega)
  have hix : i + 1 ≤ l.length := hi
  simp [r0, r1, r5, hi, hw, q0, ld0, q1, ld1, -setRange]
  exact ⟨m, by omega, i + 1, by omega, _, _, ⟨rfl, rfl⟩, by simp [r0], by simp; omega, by simp, ln1, fr1, A1⟩
theorem held_EntryS : HeldFn 111 (.slice shEntry) := by
 intro H cs u k h hk
 obtain ⟨v, l', rfl, hu, hlen, hv⟩ := At_slice.1 h
 obtain ⟨l, rfl, rfl⟩ := mkV_lst hu
 apply Ret.eq
 rw [op111]
 simp only [cntV] at hk ⊢
 have hl64 : (mkPs l k).length ≤ 9223372036854775807 := hlen
 rw [mkPs_len] at hl64
 have hvl := fun {e s b : Nat} {z : List V} => hv.len (e := e) (s := s) (b := b) (z := z)
 simp only [mkPs_len] at hvl
 simp [code111, Tryz.f111, valC]
 refine WP_loop (fun m σ => ∃ (i kk : Nat) (r : Nat → R), i + m = l.length ∧ kk = k + cntPs (l.take i) ∧ σ = ⟨r, 0, H⟩ ∧ r 0 = .val v ∧ r 1 = .val (.int .i64 kk) ∧ r 5 = .val (.int .i64 i)) ?_ l.length _ ⟨0, k, _, by simp, by simp [cntPs], rfl, by simp, by simp, by simp⟩
 rintro m σ ⟨i, kk, r, him, hkk, rfl, r0, r1, r5⟩
 cases m with
 | zero =>
  have hi : i = l.length := by omega
  subst hi
  rw [List.take_length] at hkk
  simp [r0, r1, r5, hvl, hkk]
 | succ m =>
  have hi : i < l.length := by omega
  obtain ⟨x, hx⟩ : ∃ x, l[i]? = some x := ⟨l[i], by simp [hi]⟩
  obtain ⟨eid, o, own, cells, e1, e2, e3, e0⟩ := hv.idx (mkPs_get hx) (by decide)
  rw [← hkk] at e0
  have hcnt := cntPs_take hx
  have hle := cntPs_take_le (l := l) (i := i + 1)
  have hid : eid < H.length := (List.getElem?_eq_some_iff.1 e2).1
  have hw : IntKind.i64.wrap ((i : Int) + 1) = ((i : Int) + 1) := wrap_i64 (by omega) (by omega)
  obtain ⟨us0, hu0, E0⟩ := At_st.1 e0
  obtain ⟨us0, rfl, rfl⟩ := mkP_st hu0
  obtain ⟨c0, d0, u0, rr0, hc0, hu, h0, E1⟩ := Ats_cons.1 E0
  obtain ⟨u0, us0, rfl, rfl, rfl⟩ := mkPs_cons hu
  have k0 := h0
  obtain ⟨v0, l0, rfl, hs, _, _⟩ := At_slice.1 h0
  obtain ⟨m0, rfl, rfl⟩ := mkP_lst hs
  obtain ⟨kk1, hkk1⟩ : ∃ n, n = kk + cntP (.lst m0) := ⟨_, rfl⟩
  rw [← hkk1] at E1
  obtain ⟨c1, d1, u1, rr1, rfl, hu, h1, E2⟩ := Ats_cons.1 E1
  obtain ⟨u1, us0, rfl, rfl, rfl⟩ := mkPs_cons hu
  have k1 := h1
  obtain ⟨v1, l1, rfl, hs, _, _⟩ := At_slice.1 h1
  obtain ⟨m1, rfl, rfl⟩ := mkP_lst hs
  obtain ⟨kk2, hkk2⟩ : ∃ n, n = kk1 + cntP (.lst m1) := ⟨_, rfl⟩
  rw [← hkk2] at E2
  obtain ⟨rfl, hun⟩ := Ats_nil.1 E2
  obtain rfl := mkPs_nil hun
  simp only [List.cons_append, List.nil_append, List.append_nil] at hc0
  simp only [cntP_st, cntPs_cons, cntPs_nil, cntP_str, cntP_int, cntP_bool, Nat.add_zero] at hcnt hkk1 hkk2
  have ld0 := load1 e2 (by simpa using cells_get hc0 (j := 0) rfl)
  have q0 := held_RdnS H [v0] (.lst m0) kk k0 (by rw [cntPV]; omega)
  rw [cntPV, ← hkk1] at q0
  simp only [valC, List.headD_cons] at q0
  have p0 : ¬ ((kk1 : Int) < 0) := by omega
  have ld1 := load1 e2 (by simpa using cells_get hc0 (j := 1) rfl)
  have q1 := held_AttrS H [v1] (.lst m1) kk1 k1 (by rw [cntPV]; omega)
  rw [cntPV, ← hkk2] at q1
  simp only [valC, List.headD_cons] at q1
  have p1 : ¬ ((kk2 : Int) < 0) := by omega
  rw [show (shEntry).size = 2 from rfl] at e1
  simp [r0, r1, r5, hi, hvl, e1, hid, hw, ld0, q0, p0, ld1, q1, p1]
  exact ⟨m, by omega, i + 1, by omega, by omega, by omega⟩
theorem mk_Tree : MkFn 40 shTree := by
 intro H cs u F k h hn hk
 replace h := AtF_st.1 h
 obtain ⟨us, rfl, h⟩ := h
 replace h := AtsF_cons.1 h
 obtain ⟨c0, d0, u0, rr0, F0, E0, rfl, rfl, rfl, h0, h⟩ := h
 replace h := AtsF_cons.1 h
 obtain ⟨c1, d1, u1, rr1, F1, E1, rfl, rfl, rfl, h1, h⟩ := h
 replace h := AtsF_nil.1 h
 obtain ⟨rfl, rfl, rfl⟩ := h
 have k0 := h0
 replace h0 := AtF_slice.1 h0
 obtain ⟨v0, l0, rfl, rfl, w0, hv0⟩ := h0
 have o0 := (At_slice.1 (AtF.at _ k0))
 obtain ⟨_, _, x1, x2, _, o0⟩ := o0
 cases x1
 cases x2
 have o0 := o0.one
 have k1 := h1
 replace h1 := AtF_slice.1 h1
 obtain ⟨v1, l1, rfl, rfl, w1, hv1⟩ := h1
 have o1 := (At_slice.1 (AtF.at _ k1))
 obtain ⟨_, _, x1, x2, _, o1⟩ := o1
 cases x1
 cases x2
 have o1 := o1.one
 simp only [cntV_st, cntVs_cons, cntVs_nil, cntV_str, cntV_int, cntV_bool, Nat.zero_add] at hk
 simp only [List.nil_append, List.append_nil] at hn
 have hn0 := hn
 obtain ⟨nd0, hn0, dj0⟩ := List.nodup_append.1 hn0
 have nd1 := hn0
 obtain ⟨H0, q0, len0, fr0, k0'⟩ := mk_ClassS H _ _ _ (k) k0 nd0 (by omega)
 simp only [valC, List.headD_cons, List.append_nil, List.cons_append, List.nil_append, Int.natCast_add] at q0
 have k1 := AtF.frame _ (H' := H0) (fun q hq2 => fr0 q (fun hq1 => dj0 q hq1 q hq2 rfl)) k1
 obtain ⟨H1, q1, len1, fr1, k1'⟩ := mk_EntryS H0 _ _ _ (k + cntV (.lst l0)) k1 nd1 (by omega)
 simp only [valC, List.headD_cons, List.append_nil, List.cons_append, List.nil_append, Int.natCast_add] at q1
 have k0' := AtF.frame _ (H' := H1) (fun q hq2 => fr1 q (fun hq1 => dj0 q hq2 q hq1 rfl)) k0'
 have hK : k + cntV (U.st [(.lst l0), (.lst l1)]) = k + cntV (.lst l0) + cntV (.lst l1) := by simp only [cntV_st, cntVs_cons, cntVs_nil, cntV_str, cntV_int, cntV_bool, Nat.zero_add]; omega
 have hA : AtF H1 shTree _ _ _ := AtF_st.2 ⟨_, rfl, AtsF_cons.2 ⟨[_], _, _, _, F0, _, rfl, rfl, rfl, k0', AtsF_cons.2 ⟨[_], _, _, _, F1, _, rfl, rfl, rfl, k1', AtsF_nil.2 ⟨rfl, rfl, rfl⟩⟩⟩⟩
 simp only [List.append_nil, List.nil_append, List.cons_append] at hA
 have hl : H1.length = H.length := by rw [len1, len0]
 have hfr : ∀ q, q ∉ F0 ++ (F1) → H1[q]? = H[q]? := by
  intro q hq
  try simp only [List.mem_append, not_or] at hq
  rw [fr1 q hq.2, fr0 q hq.1]
 apply Ret.mark
 rw [op40, hK]
 simp [code40, Tryz.f40, valC, gcH_len hl, q0, q1, o0, o1]
 exact ⟨hl, by simpa using hfr, hA⟩
theorem held_Tree : HeldFn 110 shTree := by
 intro H cs u k h hk
 obtain ⟨us, hu, h⟩ := At_st.1 h
 obtain ⟨us, rfl, rfl⟩ := mkV_st hu
 obtain ⟨c0, d0, u0, r0, rfl, hu, h0, h⟩ := Ats_cons.1 h
 obtain ⟨u0, us, rfl, rfl, rfl⟩ := mkVs_cons hu
 obtain ⟨c1, d1, u1, r1, rfl, hu, h1, h⟩ := Ats_cons.1 h
 obtain ⟨u1, us, rfl, rfl, rfl⟩ := mkVs_cons hu
 obtain ⟨rfl, hu⟩ := Ats_nil.1 h
 obtain rfl := mkVs_nil hu
 have k0 := h0
 obtain ⟨v0, l0, rfl, hu, _, hv0⟩ := At_slice.1 h0
 have o0 := hv0.one
 obtain ⟨m0, rfl, rfl⟩ := mkV_lst hu
 have k1 := h1
 obtain ⟨v1, l1, rfl, hu, _, hv1⟩ := At_slice.1 h1
 have o1 := hv1.one
 obtain ⟨m1, rfl, rfl⟩ := mkV_lst hu
 simp only [cntV_st, cntVs_cons, cntVs_nil, cntV_str, cntV_int, cntV_bool, Nat.zero_add, Nat.add_zero] at *
 have q0 := held_ClassS H _ _ (k) k0 (by omega)
 simp only [valC, List.headD_cons, List.append_nil, List.cons_append, List.nil_append, Int.natCast_add] at q0
 have p0 : ¬ (((k + cntV (.lst m0) : Nat) : Int) < 0) := by omega
 simp only [Int.natCast_add] at p0
 have q1 := held_EntryS H _ _ (k + cntV (.lst m0)) k1 (by omega)
 simp only [valC, List.headD_cons, List.append_nil, List.cons_append, List.nil_append, Int.natCast_add] at q1
 have p1 : ¬ (((k + cntV (.lst m0) + cntV (.lst m1) : Nat) : Int) < 0) := by omega
 simp only [Int.natCast_add] at p1
 have hK : k + (cntV (.lst m0) + (cntV (.lst m1))) = k + cntV (.lst m0) + cntV (.lst m1) := by omega
 rw [hK]
 apply Ret.eq
 rw [op110]
 simp [code110, Tryz.f110, valC, q0, p0, q1, p1, o0, o1]
theorem eq_TreeOut : EqFn 36 shTreeOut := by
 intro H cs ds u w h h'
 replace h := At_st.1 h
 obtain ⟨usa, rfl, h⟩ := h
 replace h := Ats_cons.1 h
 obtain ⟨ca0, da0, ua0, rra0, rfl, rfl, ha0, h⟩ := h
 replace h := Ats_cons.1 h
 obtain ⟨ca1, da1, ua1, rra1, rfl, rfl, ha1, h⟩ := h
 replace h := Ats_cons.1 h
 obtain ⟨ca2, da2, ua2, rra2, rfl, rfl, ha2, h⟩ := h
 replace h := Ats_nil.1 h
 obtain ⟨rfl, rfl⟩ := h
 have ka0 := ha0
 replace ha0 := At_st.1 ha0
 obtain ⟨usa0_, rfl, ha0⟩ := ha0
 replace ha0 := Ats_cons.1 ha0
 obtain ⟨ca0_0, da0_0, ua0_0, rra0_0, rfl, rfl, ha0_0, ha0⟩ := ha0
 replace ha0 := Ats_cons.1 ha0
 obtain ⟨ca0_1, da0_1, ua0_1, rra0_1, rfl, rfl, ha0_1, ha0⟩ := ha0
 replace ha0 := Ats_nil.1 ha0
 obtain ⟨rfl, rfl⟩ := ha0
 have ka0_0 := ha0_0
 replace ha0_0 := At_slice.1 ha0_0
 obtain ⟨va0_0, la0_0, rfl, rfl, wa0_0, hva0_0⟩ := ha0_0
 have oa0_0 := hva0_0.one
 have ka0_1 := ha0_1
 replace ha0_1 := At_slice.1 ha0_1
 obtain ⟨va0_1, la0_1, rfl, rfl, wa0_1, hva0_1⟩ := ha0_1
 have oa0_1 := hva0_1.one
 have ka1 := ha1
 replace ha1 := At_slice.1 ha1
 obtain ⟨va1, la1, rfl, rfl, wa1, hva1⟩ := ha1
 have oa1 := hva1.one
 replace ha2 := At_int.1 ha2
 obtain ⟨na2, rfl, rfl, wa2⟩ := ha2
 replace h' := At_st.1 h'
 obtain ⟨usb, rfl, h'⟩ := h'
 replace h' := Ats_cons.1 h'
 obtain ⟨cb0, db0, ub0, rrb0, rfl, rfl, hb0, h'⟩ := h'
 replace h' := Ats_cons.1 h'
 obtain ⟨cb1, db1, ub1, rrb1, rfl, rfl, hb1, h'⟩ := h'
 replace h' := Ats_cons.1 h'
 obtain ⟨cb2, db2, ub2, rrb2, rfl, rfl, hb2, h'⟩ := h'
 replace h' := Ats_nil.1 h'
 obtain ⟨rfl, rfl⟩ := h'
 have kb0 := hb0
 replace hb0 := At_st.1 hb0
 obtain ⟨usb0_, rfl, hb0⟩ := hb0
 replace hb0 := Ats_cons.1 hb0
 obtain ⟨cb0_0, db0_0, ub0_0, rrb0_0, rfl, rfl, hb0_0, hb0⟩ := hb0
 replace hb0 := Ats_cons.1 hb0
 obtain ⟨cb0_1, db0_1, ub0_1, rrb0_1, rfl, rfl, hb0_1, hb0⟩ := hb0
 replace hb0 := Ats_nil.1 hb0
 obtain ⟨rfl, rfl⟩ := hb0
 have kb0_0 := hb0_0
 replace hb0_0 := At_slice.1 hb0_0
 obtain ⟨vb0_0, lb0_0, rfl, rfl, wb0_0, hvb0_0⟩ := hb0_0
 have ob0_0 := hvb0_0.one
 have kb0_1 := hb0_1
 replace hb0_1 := At_slice.1 hb0_1
 obtain ⟨vb0_1, lb0_1, rfl, rfl, wb0_1, hvb0_1⟩ := hb0_1
 have ob0_1 := hvb0_1.one
 have kb1 := hb1
 replace hb1 := At_slice.1 hb1
 obtain ⟨vb1, lb1, rfl, rfl, wb1, hvb1⟩ := hb1
 have ob1 := hvb1.one
 replace hb2 := At_int.1 hb2
 obtain ⟨nb2, rfl, rfl, wb2⟩ := hb2
 obtain ⟨t0, e0, q0⟩ := eq_Tree H _ _ _ _ ka0 kb0
 simp only [valC, List.headD_cons, List.append_nil, List.cons_append, List.nil_append] at q0
 cases t0 with
 | false =>
  have e0 : ¬ (.st [(.lst la0_0), (.lst la0_1)]) = (U.st [(U.lst lb0_0), (U.lst lb0_1)]) := fun h => by simpa using e0.2 h
  refine ⟨false, by simp only [U.st.injEq, List.cons.injEq, e0, and_false, false_and, Bool.false_eq_true], ?_⟩
  apply Ret.eq
  rw [op36]
  simp [code36, Tryz.f36, valC, q0, oa0_0, oa0_1, oa1, ob0_0, ob0_1, ob1]
 | true =>
 have e0 := e0.1 rfl
 obtain ⟨t1, e1, q1⟩ := eq_EntryS H _ _ _ _ ka1 kb1
 simp only [valC, List.headD_cons, List.append_nil, List.cons_append, List.nil_append] at q1
 cases t1 with
 | false =>
  have e1 : ¬ (.lst la1) = (U.lst lb1) := fun h => by simpa using e1.2 h
  refine ⟨false, by simp only [U.st.injEq, List.cons.injEq, e1, and_false, false_and, Bool.false_eq_true], ?_⟩
  apply Ret.eq
  rw [op36]
  simp [code36, Tryz.f36, valC, q0, q1, oa0_0, oa0_1, oa1, ob0_0, ob0_1, ob1]
 | true =>
 have e1 := e1.1 rfl
 by_cases e2 : na2 = nb2
 rotate_left
 ·refine ⟨false, by simp [e2], ?_⟩
  apply Ret.eq
  rw [op36]
  simp [code36, Tryz.f36, valC, q0, q1, e2, oa0_0, oa0_1, oa1, ob0_0, ob0_1, ob1]
 subst e2
 refine ⟨true, by simp only [e0, e1], ?_⟩
 apply Ret.eq
 rw [op36]
 simp [code36, Tryz.f36, valC, q0, q1, oa0_0, oa0_1, oa1, ob0_0, ob0_1, ob1]
theorem mk_TreeOut : MkFn 43 shTreeOut := by
 intro H cs u F k h hn hk
 obtain ⟨us, rfl, g0⟩ := AtF_st.1 h
 obtain ⟨c1, c2, u1, us1, F1, F2, rfl, rfl, rfl, h1, g1⟩ := AtsF_cons.1 g0
 obtain ⟨c3, c4, u2, us2, F3, F4, rfl, rfl, rfl, h2, g2⟩ := AtsF_cons.1 g1
 obtain ⟨c5, c6, u3, us3, F5, F6, rfl, rfl, rfl, h3, g3⟩ := AtsF_cons.1 g2
 obtain ⟨rfl, rfl, rfl⟩ := AtsF_nil.1 g3
 obtain ⟨⟨n, rfl, rfl, w⟩, rfl⟩ := AtF_int.1 h3
 obtain ⟨e, rfl⟩ := tree_typed (AtF.at _ h1)
 obtain ⟨v1, v2, rfl, a1, a2⟩ := tree_at.1 (AtF.at _ h1)
 obtain ⟨v3, l3, rfl, rfl, l3b, _⟩ := AtF_slice.1 h2
 have ho1 := a1.one
 have ho2 := a2.one
 have ho3 : isOne v3 = true ∧ cellsOf v3 = some [v3] := by
  have := At.ones _ (AtF.at _ h2)
  simp only [List.all_cons, List.all_nil, Bool.and_true] at this
  exact ⟨this, isOne_cells this⟩
 simp only [List.append_nil] at hn ⊢
 simp only [cntV_st, cntVs_cons, cntVs_nil, cntV_int, Nat.add_zero] at hk ⊢
 obtain ⟨n1, n2, nd⟩ := List.nodup_append.1 hn
 obtain ⟨H1, q1, len1, fr1, m1⟩ := mk_Tree H [v1, v2] _ F1 k h1 n1 (by omega)
 have h2' := AtF.frame (H' := H1) _ (fun q hq => fr1 q fun hm => nd q hm q hq rfl) h2
 obtain ⟨H2, q2, len2, fr2, m2⟩ := mk_EntryS H1 [v3] _ F3 (k + cntV e.u) h2' n2 (by omega)
 have m1' := AtF.frame (H' := H2) _ (fun q hq => fr2 q fun hm => nd q hq q hm rfl) m1
 simp only [valC, List.headD_cons] at q1 q2
 apply Ret.mark
 rw [op43]
 simp only [Int.natCast_add] at q1 q2
 simp [code43, Tryz.f43, valC, q1, q2, ho1, ho2, ho3, gcH_len (len2.trans len1)]
 refine ⟨by omega, len2.trans len1, fun q hq1 hq2 => (fr2 q hq2).trans (fr1 q hq1), ?_⟩
 have hA : AtF H2 shTreeOut [v1, v2, v3, .int .i64 n] (.st [mkV e.u k, mkV (.lst l3) (k + cntV e.u), .int n]) (F1 ++ F3) := AtF_st.2 ⟨_, rfl, AtsF_cons.2 ⟨[v1, v2], [v3, .int .i64 n], _, [_, .int n], F1, F3, rfl, rfl, rfl, m1', AtsF_cons.2 ⟨[v3], [.int .i64 n], _, [.int n], F3, [], rfl, rfl, (List.append_nil _).symm, m2, AtsF_cons.2 ⟨[.int .i64 n], [], _, [], [], [], rfl, rfl, rfl, AtF_int.2 ⟨⟨n, rfl, rfl, w⟩, rfl⟩, AtsF_nil.2 ⟨rfl, rfl, rfl⟩⟩⟩⟩⟩
 have hM : mkV (U.st [e.u, .lst l3, .int n]) k = .st [mkV e.u k, mkV (.lst l3) (k + cntV e.u), .int n] := by simp [mkV, mkVs]
 rw [hM]
 exact hA
theorem held_TreeOut : HeldFn 44 shTreeOut := by
 intro H cs u k h hk
 obtain ⟨us, hu, g0⟩ := At_st.1 h
 obtain ⟨us, rfl, rfl⟩ := mkV_st hu
 obtain ⟨c1, c2, u1, us1, rfl, hu1, h1, g1⟩ := Ats_cons.1 g0
 obtain ⟨u1, us, rfl, rfl, rfl⟩ := mkVs_cons hu1
 obtain ⟨c3, c4, u2, us2, rfl, hu2, h2, g2⟩ := Ats_cons.1 g1
 obtain ⟨u2, us, rfl, rfl, rfl⟩ := mkVs_cons hu2
 obtain ⟨c5, c6, u3, us3, rfl, hu3, h3, g3⟩ := Ats_cons.1 g2
 obtain ⟨u3, us, rfl, rfl, rfl⟩ := mkVs_cons hu3
 obtain ⟨rfl, hu4⟩ := Ats_nil.1 g3
 obtain rfl := mkVs_nil hu4
 obtain ⟨n, rfl, hn, w⟩ := At_int.1 h3
 obtain rfl := mkV_int hn
 obtain ⟨e, he⟩ := tree_typed h1
 have h1' := h1
 rw [he] at h1'
 obtain ⟨v1, v2, rfl, a1, a2⟩ := tree_at.1 h1'
 obtain ⟨v3, rfl⟩ := list1 (At.len _ h2 : _ = 1)
 have ho1 := a1.one
 have ho2 := a2.one
 have ho3 : isOne v3 = true ∧ cellsOf v3 = some [v3] := by
  have := At.ones _ h2
  simp only [List.all_cons, List.all_nil, Bool.and_true] at this
  exact ⟨this, isOne_cells this⟩
 simp only [cntV_st, cntVs_cons, cntVs_nil, cntV_int, Nat.add_zero] at hk ⊢
 have q1 := held_Tree H [v1, v2] u1 k h1 (by omega)
 have q2 := held_EntryS H [v3] u2 (k + cntV u1) h2 (by omega)
 simp only [valC, List.headD_cons, Int.natCast_add] at q1 q2
 have p1 : ¬ ((k : Int) + (cntV u1 : Nat) < 0) := by omega
 have p2 : ¬ ((k : Int) + (cntV u1 : Nat) + (cntV u2 : Nat) < 0) := by omega
 apply Ret.eq
 rw [op44]
 simp [code44, Tryz.f44, valC, q1, q2, p1, p2, ho1, ho2, ho3, Int.add_assoc]
 omega
end Go.Proofs.Try1
end
section
namespace Go.Proofs.Try1
open Go Go.Lite
attribute [-simp] WP_region WP_cond
attribute [local simp] WP_regionF WP_condF ThenW_some ThenW_none CondW_true CondW_false
attribute [local simp low] CondW_bool
theorem ret_FnExactTreeSearch {H : List Ob} {c0 : List V} {u0 : U} {c1 : List V} {u1 : U} {c3 : List V} {u3 : U} {s2 : Int} {uR : U} (h0 : At H shTree c0 u0) (h1 : At H (.slice shRdn) c1 u1) (h3 : At H (.slice shNode) c3 u3)
  (hS : ∀ (G : List Ob) (x0 x1 x3 : List V), At G shTree x0 u0 → At G (.slice shRdn) x1 u1 → At G (.slice shNode) x3 u3 → ∃ G' y, callW C 31 [valC shTree x0, valC (.slice shRdn) x1, .int .i64 s2, valC (.slice shNode) x3] G = some (valC shTreeOut y, G') ∧ Le G G' ∧ At G' shTreeOut y uR)
  (hI : ∀ (G : List Ob) (x0 x1 x3 : List V), At G shTree x0 u0 → At G (.slice shRdn) x1 u1 → At G (.slice shNode) x3 u3 → ∃ G' y, callW C 35 [valC shTree x0, valC (.slice shRdn) x1, .int .i64 s2, valC (.slice shNode) x3] G = some (valC shTreeOut y, G') ∧ Le G G' ∧ New G.length G'.length G' shTreeOut y uR)
  (hR : 1 + cntV uR ≤ 50000000) : Ret C 6 [valC shTree c0, valC (.slice shRdn) c1, .int .i64 s2, valC (.slice shNode) c3] H fun r _ => r = .bool true := by
 rw [op6]
 obtain ⟨c0_0, c0_1, rfl⟩ := list2 (At.len _ h0 : _ = 2)
 have on0 := ones_all h0
 simp only [List.mem_cons, List.not_mem_nil, or_false, forall_eq_or_imp, forall_eq] at on0
 obtain ⟨c1_0, rfl⟩ := list1 (At.len _ h1 : _ = 1)
 have on1 := ones_all h1
 simp only [List.mem_cons, List.not_mem_nil, or_false, forall_eq_or_imp, forall_eq] at on1
 obtain ⟨c3_0, rfl⟩ := list1 (At.len _ h3 : _ = 1)
 have on3 := ones_all h3
 simp only [List.mem_cons, List.not_mem_nil, or_false, forall_eq_or_imp, forall_eq] at on3
 simp only [valC, List.headD_cons]
 have b0 := sz_Tree H [c0_0, c0_1] _ (1048576) h0 (by omega)
 simp only [valC, List.headD_cons] at b0
 by_cases g0 : wt u0 ≤ 1048576
 rotate_left
 ·rw [if_neg g0] at b0
  simp at b0
  simp [code6, Tryz.f6, on0, on1, on3, b0]
 rw [if_pos g0] at b0
 have hw0 : wt u0 ≤ 1048576 := by omega
 have p0 : ¬ (((1048576 - wt u0 : Nat) : Int) < 0) := by omega
 obtain ⟨LL0, hLL0⟩ : ∃ n, n = 1048576 - wt u0 := ⟨_, rfl⟩
 rw [← hLL0] at b0 p0
 have q0 : LL0 + wt u0 = 1048576 := by omega
 have b1 := sz_RdnS H [c1_0] _ (LL0) h1 (by omega)
 simp only [valC, List.headD_cons] at b1
 by_cases g1 : wt u1 ≤ LL0
 rotate_left
 ·rw [if_neg g1] at b1
  simp at b0 b1
  simp [code6, Tryz.f6, on0, on1, on3, b0, p0, b1]
 rw [if_pos g1] at b1
 have hw1 : wt u1 ≤ 1048576 := by omega
 have p1 : ¬ (((LL0 - wt u1 : Nat) : Int) < 0) := by omega
 obtain ⟨LL1, hLL1⟩ : ∃ n, n = LL0 - wt u1 := ⟨_, rfl⟩
 rw [← hLL1] at b1 p1
 have q1 : LL1 + wt u1 = LL0 := by omega
 have b3 := sz_NodeS H [c3_0] _ (LL1) h3 (by omega)
 simp only [valC, List.headD_cons] at b3
 by_cases g3 : wt u3 ≤ LL1
 rotate_left
 ·rw [if_neg g3] at b3
  simp at b0 b1 b3
  simp [code6, Tryz.f6, on0, on1, on3, b0, p0, b1, p1, b3]
 rw [if_pos g3] at b3
 have hw3 : wt u3 ≤ 1048576 := by omega
 have p3 : ¬ (((LL1 - wt u3 : Nat) : Int) < 0) := by omega
 obtain ⟨LL3, hLL3⟩ : ∃ n, n = LL1 - wt u3 := ⟨_, rfl⟩
 rw [← hLL3] at b3 p3
 have q3 : LL3 + wt u3 = LL1 := by omega
 have L0 : Le H H := Le.refl
 obtain ⟨G1, y0, k1, s1, n1⟩ := toN to_Tree (h0.Le L0) hw0
 have l1 := s1.len
 have L1 := L0.trans s1
 obtain ⟨y0_0, y0_1, rfl⟩ := list2 (At.len _ n1.at : _ = 2)
 have o1 := ones_all n1.at
 simp only [List.mem_cons, List.not_mem_nil, or_false, forall_eq_or_imp, forall_eq] at o1
 simp only [valC, List.headD_cons] at k1
 obtain ⟨G2, y1, k2, s2, n2⟩ := toN to_RdnS (h1.Le L1) hw1
 have l2 := s2.len
 have L2 := L1.trans s2
 obtain ⟨y1_0, rfl⟩ := list1 (At.len _ n2.at : _ = 1)
 have o2 := ones_all n2.at
 simp only [List.mem_cons, List.not_mem_nil, or_false, forall_eq_or_imp, forall_eq] at o2
 simp only [valC, List.headD_cons] at k2
 obtain ⟨G3, y3, k3, s3, n3⟩ := toN to_NodeS (h3.Le L2) hw3
 have l3 := s3.len
 have L3 := L2.trans s3
 obtain ⟨y3_0, rfl⟩ := list1 (At.len _ n3.at : _ = 1)
 have o3 := ones_all n3.at
 simp only [List.mem_cons, List.not_mem_nil, or_false, forall_eq_or_imp, forall_eq] at o3
 simp only [valC, List.headD_cons] at k3
 obtain ⟨G4, w, k4, s4, n4⟩ := hS _ [y0_0, y0_1] [y1_0] [y3_0] (n1.at.Le (Le.trans s2 s3)) (n2.at.Le s3) (n3.at.Le Le.refl)
 have l4 := s4.len
 have L4 := L3.trans s4
 obtain ⟨w_0, w_1, w_2, w_3, rfl⟩ := list4 (At.len _ n4 : _ = 4)
 have o4 := ones_all n4
 simp only [List.mem_cons, List.not_mem_nil, or_false, forall_eq_or_imp, forall_eq] at o4
 simp only [valC, List.headD_cons] at k4
 obtain ⟨G5, z0, k5, s5, n5⟩ := toN to_Tree (h0.Le L4) hw0
 have l5 := s5.len
 have L5 := L4.trans s5
 obtain ⟨z0_0, z0_1, rfl⟩ := list2 (At.len _ n5.at : _ = 2)
 have o5 := ones_all n5.at
 simp only [List.mem_cons, List.not_mem_nil, or_false, forall_eq_or_imp, forall_eq] at o5
 simp only [valC, List.headD_cons] at k5
 obtain ⟨G6, z1, k6, s6, n6⟩ := toN to_RdnS (h1.Le L5) hw1
 have l6 := s6.len
 have L6 := L5.trans s6
 obtain ⟨z1_0, rfl⟩ := list1 (At.len _ n6.at : _ = 1)
 have o6 := ones_all n6.at
 simp only [List.mem_cons, List.not_mem_nil, or_false, forall_eq_or_imp, forall_eq] at o6
 simp only [valC, List.headD_cons] at k6
 obtain ⟨G7, z3, k7, s7, n7⟩ := toN to_NodeS (h3.Le L6) hw3
 have l7 := s7.len
 have L7 := L6.trans s7
 obtain ⟨z3_0, rfl⟩ := list1 (At.len _ n7.at : _ = 1)
 have o7 := ones_all n7.at
 simp only [List.mem_cons, List.not_mem_nil, or_false, forall_eq_or_imp, forall_eq] at o7
 simp only [valC, List.headD_cons] at k7
 obtain ⟨G8, g, k8, s8, n8⟩ := hI _ [z0_0, z0_1] [z1_0] [z3_0] (n5.at.Le (Le.trans s6 s7)) (n6.at.Le s7) (n7.at.Le Le.refl)
 have l8 := s8.len
 have L8 := L7.trans s8
 obtain ⟨g_0, g_1, g_2, g_3, rfl⟩ := list4 (At.len _ n8.at : _ = 4)
 have o8 := ones_all n8.at
 simp only [List.mem_cons, List.not_mem_nil, or_false, forall_eq_or_imp, forall_eq] at o8
 simp only [valC, List.headD_cons] at k8
 have k9 := eqN eq_TreeOut n8.at (n4.Le (Le.trans (Le.trans (Le.trans s5 s6) s7) s8))
 simp only [valC, List.headD_cons] at k9
 obtain ⟨G9, v0, k10, s9, n9⟩ := toN to_Tree (h0.Le L8) hw0
 have l9 := s9.len
 have L9 := L8.trans s9
 obtain ⟨v0_0, v0_1, rfl⟩ := list2 (At.len _ n9.at : _ = 2)
 have o9 := ones_all n9.at
 simp only [List.mem_cons, List.not_mem_nil, or_false, forall_eq_or_imp, forall_eq] at o9
 simp only [valC, List.headD_cons] at k10
 have k11 := eqN eq_Tree (n5.at.Le (Le.trans (Le.trans (Le.trans s6 s7) s8) s9)) n9.at
 simp only [valC, List.headD_cons] at k11
 obtain ⟨G10, v1, k12, s10, n10⟩ := toN to_RdnS (h1.Le L9) hw1
 have l10 := s10.len
 have L10 := L9.trans s10
 obtain ⟨v1_0, rfl⟩ := list1 (At.len _ n10.at : _ = 1)
 have o10 := ones_all n10.at
 simp only [List.mem_cons, List.not_mem_nil, or_false, forall_eq_or_imp, forall_eq] at o10
 simp only [valC, List.headD_cons] at k12
 have k13 := eqN eq_RdnS (n6.at.Le (Le.trans (Le.trans (Le.trans s7 s8) s9) s10)) n10.at
 simp only [valC, List.headD_cons] at k13
 obtain ⟨G11, v3, k14, s11, n11⟩ := toN to_NodeS (h3.Le L10) hw3
 have l11 := s11.len
 have L11 := L10.trans s11
 obtain ⟨v3_0, rfl⟩ := list1 (At.len _ n11.at : _ = 1)
 have o11 := ones_all n11.at
 simp only [List.mem_cons, List.not_mem_nil, or_false, forall_eq_or_imp, forall_eq] at o11
 simp only [valC, List.headD_cons] at k14
 have k15 := eqN eq_NodeS (n7.at.Le (Le.trans (Le.trans (Le.trans s8 s9) s10) s11)) n11.at
 simp only [valC, List.headD_cons] at k15
 have hsum : wt u0 + wt u1 + wt u3 ≤ 1048576 := by omega
 have cb0 := cntV_bound h0 40 (by decide)
 have cb1 := cntV_bound h1 40 (by decide)
 have cb3 := cntV_bound h3 40 (by decide)
 have m5 := n5.Le (Le.trans (Le.trans (Le.trans (Le.trans (Le.trans s6 s7) s8) s9) s10) s11)
 have m6 := n6.Le (Le.trans (Le.trans (Le.trans (Le.trans s7 s8) s9) s10) s11)
 have m7 := n7.Le (Le.trans (Le.trans (Le.trans s8 s9) s10) s11)
 have mR := n8.Le (Le.trans (Le.trans s9 s10) s11)
 obtain ⟨M0, k16, ml0, mf0, mn0⟩ := mkN (k := 1) mk_Tree m5 (by omega)
 simp only [valC, List.headD_cons] at k16
 have m6 := New.frame (G' := M0) m6 (fun q h1 h2 => mf0 q (by omega))
 have m7 := New.frame (G' := M0) m7 (fun q h1 h2 => mf0 q (by omega))
 have mR := New.frame (G' := M0) mR (fun q h1 h2 => mf0 q (by omega))
 obtain ⟨K0, hK0⟩ : ∃ n, n = 1 + cntV u0 := ⟨_, rfl⟩
 rw [← hK0] at k16
 obtain ⟨M1, k17, ml1, mf1, mn1⟩ := mkN (k := K0) mk_RdnS m6 (by omega)
 simp only [valC, List.headD_cons] at k17
 have m7 := New.frame (G' := M1) m7 (fun q h1 h2 => mf1 q (by omega))
 have mR := New.frame (G' := M1) mR (fun q h1 h2 => mf1 q (by omega))
 obtain ⟨K1, hK1⟩ : ∃ n, n = K0 + cntV u1 := ⟨_, rfl⟩
 rw [← hK1] at k17
 obtain ⟨M2, k18, ml2, mf2, mn2⟩ := mkN (k := K1) mk_NodeS m7 (by omega)
 simp only [valC, List.headD_cons] at k18
 have mR := New.frame (G' := M2) mR (fun q h1 h2 => mf2 q (by omega))
 obtain ⟨K2, hK2⟩ : ∃ n, n = K1 + cntV u3 := ⟨_, rfl⟩
 rw [← hK2] at k18
 have hKb : K2 ≤ 50000000 := by omega
 have pK : ¬ ((K2 : Int) < 0) := by omega
 have upS : Up G4 M2 := fun q o hq => by
  have hql := (List.getElem?_eq_some_iff.1 hq).1
  rw [mf2 q (.inl (by omega)), mf1 q (.inl (by omega)), mf0 q (.inl (by omega))]
  exact ((Le.trans (Le.trans (Le.trans (Le.trans (Le.trans (Le.trans s5 s6) s7) s8) s9) s10) s11) : Le _ _).up q o hq
 have k19 := eqN eq_TreeOut mR.at (n4.Up upS)
 simp only [valC, List.headD_cons] at k19
 obtain ⟨Q, k20, ql, qf, qn⟩ := mkN (k := 1) mk_TreeOut mR hR
 simp only [valC, List.headD_cons] at k20
 have upQ : Up G4 Q := fun q o hq => by
  have hql := (List.getElem?_eq_some_iff.1 hq).1
  rw [qf q (.inl (by omega))]
  exact upS q o hq
 have upH : Up H Q := L4.up.trans upQ
 have k21 := held_TreeOut Q [g_0, g_1, g_2, g_3] _ 1 qn.at hR
 simp only [valC, List.headD_cons] at k21
 have R0 : Le Q Q := Le.refl
 have L12 := R0
 obtain ⟨G13, zz0, k22, s13, n13⟩ := toN to_Tree ((h0.Up upH).Le L12) hw0
 have l13 := s13.len
 have L13 := L12.trans s13
 obtain ⟨zz0_0, zz0_1, rfl⟩ := list2 (At.len _ n13.at : _ = 2)
 have o13 := ones_all n13.at
 simp only [List.mem_cons, List.not_mem_nil, or_false, forall_eq_or_imp, forall_eq] at o13
 simp only [valC, List.headD_cons] at k22
 obtain ⟨G14, zz1, k23, s14, n14⟩ := toN to_RdnS ((h1.Up upH).Le L13) hw1
 have l14 := s14.len
 have L14 := L13.trans s14
 obtain ⟨zz1_0, rfl⟩ := list1 (At.len _ n14.at : _ = 1)
 have o14 := ones_all n14.at
 simp only [List.mem_cons, List.not_mem_nil, or_false, forall_eq_or_imp, forall_eq] at o14
 simp only [valC, List.headD_cons] at k23
 obtain ⟨G15, zz3, k24, s15, n15⟩ := toN to_NodeS ((h3.Up upH).Le L14) hw3
 have l15 := s15.len
 have L15 := L14.trans s15
 obtain ⟨zz3_0, rfl⟩ := list1 (At.len _ n15.at : _ = 1)
 have o15 := ones_all n15.at
 simp only [List.mem_cons, List.not_mem_nil, or_false, forall_eq_or_imp, forall_eq] at o15
 simp only [valC, List.headD_cons] at k24
 obtain ⟨G16, gg, k25, s16, n16⟩ := hI _ [zz0_0, zz0_1] [zz1_0] [zz3_0] (n13.at.Le (Le.trans s14 s15)) (n14.at.Le s15) (n15.at.Le Le.refl)
 have l16 := s16.len
 have L16 := L15.trans s16
 obtain ⟨gg_0, gg_1, gg_2, gg_3, rfl⟩ := list4 (At.len _ n16.at : _ = 4)
 have o16 := ones_all n16.at
 simp only [List.mem_cons, List.not_mem_nil, or_false, forall_eq_or_imp, forall_eq] at o16
 simp only [valC, List.headD_cons] at k25
 have k26 := eqN eq_TreeOut n16.at ((n4.Up upQ).Le L16)
 simp only [valC, List.headD_cons] at k26
 have k27 := held_TreeOut G16 [g_0, g_1, g_2, g_3] _ 1 (qn.at.Le L16) hR
 simp only [valC, List.headD_cons] at k27
 obtain ⟨KR, hKR⟩ : ∃ n, n = 1 + cntV uR := ⟨_, rfl⟩
 rw [← hKR] at k20
 rw [← hKR] at k21
 rw [← hKR] at k27
 have pR : ¬ ((KR : Int) < 0) := by omega
 clear upS upQ upH
 simp at b0 k16 k20 k21 k27
 simp (maxSteps := 2000000) [code6, Tryz.f6, on0, on1, on3, b0, p0, b1, p1, b3, p3, k1, o1, k2, o2, k3, o3, k4, o4, k5, o5, k6, o6, k7, o7, k8, o8, k9, k10, o9, k11, k12, o10, k13, k14, o11, k15, k16, k17, k18, pK, k19, k20, k21, k22, o13, k23, o14, k24, o15, k25, o16, k26, k27, pR, regionL_none, regionL_some, List.lookup]
def ScopeOk (dn base : List PRdn) (sc : Int) : Prop := UnderOk dn base ∧ (sc = 0 → dn.length = base.length) ∧ (sc = 1 → dn.length = base.length + 1)
noncomputable def foundL (l : List PEntry) (base : List PRdn) (sc : Int) (f : List PNode) (known : List Str) : List PEntry := l.filter fun e => dec (SaysTrue f e.attrs known ∧ ScopeOk e.dn base sc)
noncomputable def treeSearchOf (t : PTree) (base : List PRdn) (sc : Int) (f : List PNode) : PTreeOut :=
 if 400 < base.length ∨ 400 < f.length then illT 2 else if dec (TreeOk t ∧ DnOk base ∧ FilterOk f ∧ 0 ≤ sc ∧ sc ≤ 2) = true then
  (if dec (0 < base.length ∧ firstOf keyE t.entries (keyD base) = none) = true then illT 6 else ⟨⟨[], []⟩, foundL t.entries base sc f (knownL t.schema), 0⟩) else illT 1
theorem foundL_step {l : List PEntry} {base : List PRdn} {sc : Int} {f : List PNode} {known : List Str} {i : Nat} {x : PEntry} (h : l[i]? = some x) :
  foundL (l.take (i + 1)) base sc f known = foundL (l.take i) base sc f known ++ if dec (SaysTrue f x.attrs known ∧ ScopeOk x.dn base sc) = true then [x] else [] := by
 unfold foundL
 rw [take_get h, List.filter_append]
 by_cases g : dec (SaysTrue f x.attrs known ∧ ScopeOk x.dn base sc) = true
 ·simp [g]
 ·simp [g]
theorem foundL_len {l : List PEntry} {base : List PRdn} {sc : Int} {f : List PNode} {known : List Str} : (foundL l base sc f known).length ≤ l.length := List.length_filter_le _ _
theorem TOut.ofL {H G : List Ob} {l : List PEntry} {w : V} (hT : ∃ T, G = H ++ T) (hn : New H.length G.length G (.slice shEntry) [w] (.lst (l.map PEntry.u))) : TOut H ⟨⟨[], []⟩, l, 0⟩ (.agg [.slc none 0, .slc none 0, w, .int .i64 0]) (gcH H G (.agg [.slc none 0, .slc none 0, w, .int .i64 0])) := by
 obtain ⟨T, rfl⟩ := hT
 have h2 : New H.length (H ++ T).length (H ++ T) shTreeOut [.slc none 0, .slc none 0, w, .int .i64 0] (PTreeOut.u ⟨⟨[], []⟩, l, 0⟩) := New.st (News.cons (c1 := [.slc none 0, .slc none 0]) (m := H.length) (New.st (News.nilS (News.nilS News.nil))) (News.cons (c1 := [w]) (m := (H ++ T).length) hn (News.int (by decide) News.nil) (by simp) (Nat.le_refl _)) (Nat.le_refl _) (by simp))
 obtain ⟨T', h3, h4⟩ := h2.gcA
 exact ⟨T', .slc none 0, .slc none 0, w, rfl, h3, h4⟩
theorem TreeOk.small2 {t : PTree} (h : TreeOk t) : (∀ c ∈ t.schema, c.must.length ≤ 10 ∧ c.may.length ≤ 10) ∧ t.schema.length ≤ 6 := by
 refine ⟨fun c hc => ?_, h.1.2⟩
 obtain ⟨j, hj, rfl⟩ := List.getElem_of_mem hc
 have hc := (h.1.1 j _ (List.getElem?_eq_getElem hj)).1
 exact ⟨hc.l1, hc.l2⟩
theorem s_In07 {H : List Ob} {v w vb : V} {e : PEntry} {base : List PRdn} {sc : Int} (h : ARdns H v e.dn) (ho : isOne w = true ∧ cellsOf w = some [w]) (hb : ARdns H vb base) (he : EntryOk e) (hbo : DnOk base) :
  callW C 187 [.agg [v, w], vb, .int .i64 sc] H = some (.bool (dec (ScopeOk e.dn base sc)), H) := by
 apply Ret.dec
 rw [op187]
 have o1 := h.one
 have c1 := s_Under h hb he.2.1 hbo he.1
 obtain ⟨d, hdd⟩ : ∃ d : Int, d = (e.dn.length : Int) - base.length := ⟨_, rfl⟩
 have hw : IntKind.i64.wrap ((e.dn.length : Int) - base.length) = d := by
  have := he.2.1.2
  have := hbo.2
  rw [hdd, wrap_i64 (by omega) (by omega)]
 by_cases g1 : UnderOk e.dn base
 ·rw [dec_pos g1] at c1
  by_cases s0 : sc = 0
  ·by_cases g2 : e.dn.length = base.length
   ·have g2' : d = 0 := by omega
    have hy : ScopeOk e.dn base 0 := ⟨g1, fun _ => g2, fun h => by omega⟩
    simp [code187, Tryz.f187, o1, ho, h.len, hb.len, hw, s0, c1, g2', hy, fillL, zerosL, regionL_none, regionL_some, List.lookup]
   ·have g2' : ¬ d = 0 := by omega
    have hn : ¬ ScopeOk e.dn base 0 := fun h => g2 (h.2.1 rfl)
    simp [code187, Tryz.f187, o1, ho, h.len, hb.len, hw, s0, c1, g2', hn, fillL, zerosL, regionL_none, regionL_some, List.lookup]
  ·by_cases s1 : sc = 1
   ·by_cases g2 : e.dn.length = base.length + 1
    ·have g2' : d = 1 := by omega
     have hy : ScopeOk e.dn base 1 := ⟨g1, fun h => by omega, fun _ => g2⟩
     simp [code187, Tryz.f187, o1, ho, h.len, hb.len, hw, s1, c1, g2', hy, fillL, zerosL, regionL_none, regionL_some, List.lookup]
    ·have g2' : ¬ d = 1 := by omega
     have hn : ¬ ScopeOk e.dn base 1 := fun h => g2 (h.2.2 rfl)
     simp [code187, Tryz.f187, o1, ho, h.len, hb.len, hw, s1, c1, g2', hn, fillL, zerosL, regionL_none, regionL_some, List.lookup]
   ·have hy : ScopeOk e.dn base sc := ⟨g1, fun h => absurd h s0, fun h => absurd h s1⟩
    simp [code187, Tryz.f187, o1, ho, h.len, hb.len, hw, s0, s1, c1, hy, fillL, zerosL, regionL_none, regionL_some, List.lookup]
 ·rw [dec_neg g1] at c1
  have hn : ∀ sc, ¬ ScopeOk e.dn base sc := fun sc h => g1 h.1
  by_cases s0 : sc = 0
  ·by_cases g2' : d = 0
   ·simp [code187, Tryz.f187, o1, ho, h.len, hb.len, hw, s0, c1, g2', hn, fillL, zerosL, regionL_none, regionL_some, List.lookup]
   ·simp [code187, Tryz.f187, o1, ho, h.len, hb.len, hw, s0, c1, g2', hn, fillL, zerosL, regionL_none, regionL_some, List.lookup]
  ·by_cases s1 : sc = 1
   ·by_cases g2' : d = 1
    ·simp [code187, Tryz.f187, o1, ho, h.len, hb.len, hw, s1, c1, g2', hn, fillL, zerosL, regionL_none, regionL_some, List.lookup]
    ·simp [code187, Tryz.f187, o1, ho, h.len, hb.len, hw, s1, c1, g2', hn, fillL, zerosL, regionL_none, regionL_some, List.lookup]
   ·simp [code187, Tryz.f187, o1, ho, h.len, hb.len, hw, s0, s1, c1, hn, fillL, zerosL, regionL_none, regionL_some, List.lookup]
theorem s_Search {H : List Ob} {vs ve vb vf : V} {t : PTree} {base : List PRdn} {sc : Int} {f : List PNode} (hs : AClasses H vs t.schema) (h : AEntries H ve t.entries) (hb : ARdns H vb base) (hf : ANodes H vf f) (ht : TreeOk t) (hbo : DnOk base) (hfo : FilterOk f) :
  ∃ q H', callW C 93 [.agg [vs, ve], vb, .int .i64 sc, vf] H = some (q, H') ∧ TOut H (if dec (0 < base.length ∧ firstOf keyE t.entries (keyD base) = none) = true then illT 6 else ⟨⟨[], []⟩, foundL t.entries base sc f (knownL t.schema), 0⟩) q H' := by
 suffices hs : Ret C 93 [.agg [vs, ve], vb, .int .i64 sc, vf] H fun q H' => TOut H (if dec (0 < base.length ∧ firstOf keyE t.entries (keyD base) = none) = true then illT 6 else ⟨⟨[], []⟩, foundL t.entries base sc f (knownL t.schema), 0⟩) q H' by
  obtain ⟨q, H', hc, hr⟩ := hs
  exact ⟨q, H', hc, hr⟩
 rw [op93]
 have hos := hs.one
 have hoe := h.one
 have hoks := TreeOk.dns ht
 have hel : t.entries.length ≤ 20 := ht.2.1.1
 have c0 := s_IllT (H := H) (c := 6)
 have c1 := s_Key hb hbo
 obtain ⟨q, c2, hq⟩ := s_TAt (vs := vs) (t := keyD base) h (fun x hx => (hoks x hx).2.1) hos
 by_cases g : 0 < base.length ∧ firstOf keyE t.entries (keyD base) = none
 ·rw [dec_pos g, if_pos rfl]
  have g1 : 0 < base.length := g.1
  rcases hq.pos with ⟨k, x, h1, rfl, h2⟩ | ⟨rfl, h2⟩
  ·rw [h2] at g; cases g.2
  ·simp [code93, Tryz.f93, hos, hoe, hb.len, g1, c0, c1, c2, fillL, zerosL, buildV, structPlace, regionL_none, regionL_some, List.lookup]
   exact TOut.ill (by decide)
 rw [dec_neg g]
 simp only [Bool.false_eq_true, if_false]
 obtain ⟨T1, wk, kl, c3, hk, hkm⟩ := s_L05Known hs (TreeOk.small2 ht).1 (TreeOk.small2 ht).2
 have hko := hk.one
 obtain ⟨K, hK⟩ : ∃ K, K = H ++ T1 := ⟨_, rfl⟩
 rw [← hK] at c3 hk
 have heK : AEntries K ve t.entries := by rw [hK]; exact h.ext
 have hfK : ANodes K vf f := by rw [hK]; exact hf.ext
 have hbK : ARdns K vb base := by rw [hK]; exact hb.ext
 have hcases : (0 < base.length ∧ ¬ q < 0) ∨ (¬ 0 < base.length ∧ True) := by
  by_cases g1 : 0 < base.length
  ·refine .inl ⟨by omega, ?_⟩
   rcases hq.pos with ⟨k, x, h1, rfl, h2⟩ | ⟨rfl, h2⟩
   ·omega
   ·exact absurd ⟨g1, h2⟩ g
  ·exact .inr ⟨by omega, trivial⟩
 rcases hcases with ⟨g1, hq1⟩ | ⟨g1, hq1⟩ <;> (
  simp [code93, Tryz.f93, hos, hoe, hb.len, g1, hq1, c1, c2, c3, hko, fillL, zerosL, buildV, structPlace, regionL_none, regionL_some, List.lookup]
  refine WP_loop (fun k σ => ∃ (i : Nat) (r : Nat → R) (G : List Ob) (w : V), i + k = t.entries.length ∧ σ = ⟨r, 3, G⟩ ∧ r 1 = .val vb ∧ r 2 = .val (.int .i64 sc) ∧ r 3 = .val vf ∧ r 4 = .box 0 [vs, ve] ∧ r 8 = .box 1 [.slc none 0, .slc none 0, .slc none 0, .int .i64 0] ∧ r 9 = .val wk ∧ r 10 = .box 2 [.slc none 0, .slc none 0, w, .int .i64 0] ∧ r 11 = .val (.int .i64 i) ∧ LstF K G shEntry PEntry.u w (foundL (t.entries.take i) base sc f (knownL t.schema))) ?_ t.entries.length _ ⟨0, _, K, .slc none 0, by simp, rfl, by simp, by simp, by simp, by simp, by simp, by simp, by simp, by simp, by simpa [foundL] using LstF.nil⟩
  rintro k σ ⟨i, r, G, w, hik, rfl, r1, r2, r3, r4, r8, r9, r10, r11, hG⟩
  obtain ⟨S, hS⟩ := hG.pre
  have haG : AEntries G ve t.entries := by rw [hS]; exact heK.ext
  have hwo := hG.one
  cases k with
  | zero =>
   have hi : i = t.entries.length := by omega
   subst hi
   rw [List.take_length] at hG
   have hfl := foundL_len (l := t.entries) (base := base) (sc := sc) (f := f) (known := knownL t.schema)
   have n2 := hG.new (by unfold maxLen; omega)
   have fin := TOut.ofL (H := H) (G := G) (l := foundL t.entries base sc f (knownL t.schema)) (w := w) ⟨T1 ++ S, by rw [hS, hK, List.append_assoc]⟩ (n2.wide (by rw [hK]; simp) (Nat.le_refl _))
   simp [r1, r2, r3, r4, r8, r9, r10, r11, haG.len, hoe, hos, hwo, regionL_none, regionL_some, List.lookup]
   exact fin
  | succ k =>
   have hi : i < t.entries.length := by omega
   obtain ⟨x, hx⟩ : ∃ c, t.entries[i]? = some c := ⟨t.entries[i], by simp [hi]⟩
   have hw : IntKind.i64.wrap ((i : Int) + 1) = ((i : Int) + 1) := wrap_i64 (by omega) (by omega)
   obtain ⟨id, o, v1, v2, e1, l0, l1, lm, a1, a2, _⟩ := entries_idx haG hx
   have hid := lo_of l0
   have hxo := hoks x (List.mem_of_getElem? hx)
   have hkG : AStrs G wk kl := by rw [hS]; exact hk.ext
   have hfG : ANodes G vf f := by rw [hS]; exact hfK.ext
   have hbG : ARdns G vb base := by rw [hS]; exact hbK.ext
   obtain ⟨q2, hq2, hsay⟩ := says_of hfo x.attrs kl
   have hsay2 := hsay.trans (says_congr (f := f) (az := x.attrs) hkm)
   have c4 := s_Eval hfG (by have := hfo.1; omega) a2 hkG a1.one.2 a1.one.1 5 0 q2 hq2
   simp only [Int.natCast_zero] at c4
   have c5 := s_In07 (sc := sc) a1 a2.one hbG hxo hbo
   have o1 := a1.one
   have o2 := a2.one
   have hstep := foundL_step (base := base) (sc := sc) (f := f) (known := knownL t.schema) hx
   by_cases q1 : SaysTrue f x.attrs (knownL t.schema)
   rotate_left
   ·have e1' : ¬ q2.1 = 1 := fun h => q1 (hsay2.1 h)
    rw [dec_neg (fun h => q1 h.1)] at hstep
    simp only [Bool.false_eq_true, if_false, List.append_nil] at hstep
    simp [r1, r2, r3, r4, r8, r9, r10, r11, hi, haG.len, e1, l0, l1, lm, hid, c4, e1', hoe, hos, o1, o2, hwo, hko, hw, regionL_none, regionL_some, List.lookup]
    exact ⟨k, by omega, i + 1, by omega, _, G, ⟨rfl, rfl⟩, by simp [r1], by simp [r2], by simp [r3], by simp [r4], by simp [r8], by simp [r9], w, by simp [r10], by simp, by rw [hstep]; exact hG⟩
   have e1' := hsay2.2 q1
   by_cases q3 : ScopeOk x.dn base sc
   rotate_left
   ·rw [dec_neg q3] at c5
    rw [dec_neg (fun h => q3 h.2)] at hstep
    simp only [Bool.false_eq_true, if_false, List.append_nil] at hstep
    simp [r1, r2, r3, r4, r8, r9, r10, r11, hi, haG.len, e1, l0, l1, lm, hid, c4, c5, e1', hoe, hos, o1, o2, hwo, hko, hw, regionL_none, regionL_some, List.lookup]
    exact ⟨k, by omega, i + 1, by omega, _, G, ⟨rfl, rfl⟩, by simp [r1], by simp [r2], by simp [r3], by simp [r4], by simp [r8], by simp [r9], w, by simp [r10], by simp, by rw [hstep]; exact hG⟩
   rw [dec_pos q3] at c5
   rw [dec_pos ⟨q1, q3⟩, if_pos rfl] at hstep
   obtain ⟨T2, y1, y2, c6, n2⟩ := s_Copy a1 a2 (EntryOk.small hxo)
   obtain ⟨_, _, hcy, b1, b2⟩ := entry_at.1 n2.at
   cases hcy
   have hfl := foundL_len (l := t.entries.take i) (base := base) (sc := sc) (f := f) (known := knownL t.schema)
   rw [List.length_take] at hfl
   obtain ⟨w', G', a3, hG', _, _⟩ := hG.push (T := T2) (d := .struct [(0, 35), (1, 41)]) (by_ := 48) (z := [.slc none 0, .slc none 0]) (sz := 2) n2 rfl rfl (by decide) (by decide) (by decide) (by unfold maxMade; omega)
   rw [← hstep] at hG'
   have hw' := hG'.one
   have p1 := b1.one
   have p2 := b2.one
   simp only [List.append_assoc, List.length_append] at a3
   simp [r1, r2, r3, r4, r8, r9, r10, r11, hi, haG.len, e1, l0, l1, lm, hid, c4, c5, c6, e1', a3, Keep_append, elemT, fillL, zerosL, St.new, buildV, structPlace, hoe, hos, o1, o2, p1, p2, hwo, hw', hko, hw, regionL_none, regionL_some, List.lookup]
   exact ⟨k, by omega, i + 1, by omega, _, _, ⟨rfl, rfl⟩, by simp [r1], by simp [r2], by simp [r3], by simp [r4], by simp [r8], by simp [r9], w', by simp, by simp, hG'⟩)
theorem s_TreeSearch {H : List Ob} {vs ve vb vf : V} {t : PTree} {base : List PRdn} {sc : Int} {f : List PNode} (hs : AClasses H vs t.schema) (h : AEntries H ve t.entries) (hb : ARdns H vb base) (hf : ANodes H vf f) :
  ∃ q H', callW C 31 [.agg [vs, ve], vb, .int .i64 sc, vf] H = some (q, H') ∧ TOut H (treeSearchOf t base sc f) q H' := by
 suffices hs : Ret C 31 [.agg [vs, ve], vb, .int .i64 sc, vf] H fun q H' => TOut H (treeSearchOf t base sc f) q H' by
  obtain ⟨q, H', hc, hr⟩ := hs
  exact ⟨q, H', hc, hr⟩
 rw [op31]
 have hos := hs.one
 have hoe := h.one
 have c1 := s_IllT (H := H) (c := 2)
 have c2 := s_IllT (H := H) (c := 1)
 have c3 := s_TreeRight hs h
 have c4 := s_Dn hb
 have c5 := s_FilterRight hf
 have c6 := s_Is (n := sc) (a := 0) (b := 2) (H := H)
 by_cases g1 : 400 < base.length ∨ 400 < f.length
 ·have e : treeSearchOf t base sc f = illT 2 := if_pos g1
  rw [e]
  by_cases g2 : 400 < base.length
  ·have g2' : (400 : Int) < base.length := by omega
   simp [code31, Tryz.f31, hos, hoe, hb.len, hf.len, g2', c1, fillL, zerosL, regionL_none, regionL_some, List.lookup]
   exact TOut.ill (by decide)
  ·have g2' : ¬ (400 : Int) < base.length := by omega
   have g3' : (400 : Int) < f.length := by have := g1.resolve_left g2; omega
   simp [code31, Tryz.f31, hos, hoe, hb.len, hf.len, g2', g3', c1, fillL, zerosL, regionL_none, regionL_some, List.lookup]
   exact TOut.ill (by decide)
 have g2' : ¬ (400 : Int) < base.length := fun h => g1 (.inl (by omega))
 have g3' : ¬ (400 : Int) < f.length := fun h => g1 (.inr (by omega))
 have e0 : ¬ (TreeOk t ∧ DnOk base ∧ FilterOk f ∧ 0 ≤ sc ∧ sc ≤ 2) → treeSearchOf t base sc f = illT 1 := fun hn => by unfold treeSearchOf; rw [if_neg g1, dec_neg hn]; rfl
 by_cases k1 : TreeOk t
 rotate_left
 ·rw [e0 (fun h => k1 h.1)]
  rw [dec_neg k1] at c3
  simp [code31, Tryz.f31, hos, hoe, hb.len, hf.len, g2', g3', c2, c3, fillL, zerosL, regionL_none, regionL_some, List.lookup]
  exact TOut.ill (by decide)
 rw [dec_pos k1] at c3
 by_cases k2 : DnOk base
 rotate_left
 ·rw [e0 (fun h => k2 h.2.1)]
  rw [dec_neg k2] at c4
  simp [code31, Tryz.f31, hos, hoe, hb.len, hf.len, g2', g3', c2, c3, c4, fillL, zerosL, regionL_none, regionL_some, List.lookup]
  exact TOut.ill (by decide)
 rw [dec_pos k2] at c4
 by_cases k3 : FilterOk f
 rotate_left
 ·rw [e0 (fun h => k3 h.2.2.1)]
  rw [dec_neg k3] at c5
  simp [code31, Tryz.f31, hos, hoe, hb.len, hf.len, g2', g3', c2, c3, c4, c5, fillL, zerosL, regionL_none, regionL_some, List.lookup]
  exact TOut.ill (by decide)
 rw [dec_pos k3] at c5
 by_cases k4 : 0 ≤ sc ∧ sc ≤ 2
 rotate_left
 ·rw [e0 (fun h => k4 h.2.2.2)]
  have k4' : dec (0 ≤ sc ∧ sc ≤ 2) = false := dec_neg k4
  simp only [k4'] at c6
  simp [code31, Tryz.f31, hos, hoe, hb.len, hf.len, g2', g3', c2, c3, c4, c5, c6, fillL, zerosL, regionL_none, regionL_some, List.lookup]
  exact TOut.ill (by decide)
 have k4' : dec (0 ≤ sc ∧ sc ≤ 2) = true := dec_pos k4
 simp only [k4'] at c6
 obtain ⟨q, H', c7, T, w1, w2, w3, rfl, rfl, hn⟩ := s_Search (sc := sc) hs h hb hf k1 k2 k3
 have e : treeSearchOf t base sc f = if dec (0 < base.length ∧ firstOf keyE t.entries (keyD base) = none) = true then illT 6 else ⟨⟨[], []⟩, foundL t.entries base sc f (knownL t.schema), 0⟩ := by
  unfold treeSearchOf; rw [if_neg g1, dec_pos ⟨k1, k2, k3, k4⟩, if_pos rfl]
 rw [e]
 obtain ⟨T', hg, hn'⟩ := hn.gcA
 obtain ⟨us, hu, hns⟩ := hn.st_inv
 have on := ones_all hn.at
 simp only [List.mem_cons, List.not_mem_nil, or_false, forall_eq_or_imp, forall_eq] at on
 simp [code31, Tryz.f31, hos, hoe, hb.len, hf.len, g2', g3', c3, c4, c5, c6, c7, on, hg, fillL, zerosL, regionL_none, regionL_some, List.lookup]
 exact ⟨T', w1, w2, w3, rfl, rfl, hn'⟩
end Go.Proofs.Try1
end
