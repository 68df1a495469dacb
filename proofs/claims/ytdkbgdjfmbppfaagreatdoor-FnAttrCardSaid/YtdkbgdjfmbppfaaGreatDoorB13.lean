/- Part 13 of the proof of a law: the interpreter, its soundness, and what functions of the program compute over it. Conditions: none but those that each theorem names. -/
import Derived.RangeFuncNested
import Derived.RangeFuncBound
import Derived.RangeFuncCalls
import Derived.RangeFuncLeaves
import Derived.Shelf.Abstract
import Derived.Shelf.RegionOpen
import Derived.WalkKit
import Derived.OwnWalkIn
import Derived.TacticsInMore
import Derived.LoopNIn
import Derived.LoopIn
import Derived.Test.YtdkbgdjfmbppfaaGreatDoorB12
import Derived.Test.YtdkbgdjfmbppfaaGreatDoorB06
import Derived.Shelf.SlSortCmp.NoneTotal
import Derived.Shelf.SlGeneric
import Derived.Shelf.SlLaysF
import Derived.Shelf.Slices.In.SortAlone
import Derived.Ground.SlsfProg
import Derived.Ground.NamesProg
import Derived.Test.YtdkbgdjfmbppfaaGreatDoorProg
import Derived.Test.YtdkbgdjfmbppfaaGreatDoorB11
import Derived.Shelf.SlSortCmp.Whole1
import Derived.Shelf.Spec.SlicesInsertGrow

set_option linter.all false
set_option maxRecDepth 20000
set_option maxHeartbeats 40000000
section
namespace Go.Proofs.Try0
open Go Go.Lite Go.RowKit Go.Shelf
attribute [local go_sem] Oper.semAt_some
abbrev DkE := { p : ByteArray × ByteArray // p.1.size ≤ 1048576 ∧ p.2.size ≤ 1048576 }
def DkE.encs (x : Int × DkE) : Array Value := #[.int .i64 x.1, .agg #[.string x.2.1.1, .string x.2.1.2]]
instance : Inhabited DkE := ⟨⟨(.empty, .empty), by decide, by decide⟩⟩
def fU (zs : List DkE) (k : Nat) : List (Int × DkE) := (List.range k).map fun j => (((zs.length - 1 - j : Nat) : Int), zs[zs.length - 1 - j]!)
theorem Ah (zs : List DkE) (k : Nat) : fU zs (k + 1) = fU zs k ++ [(((zs.length - 1 - k : Nat) : Int), zs[zs.length - 1 - k]!)] := by simp [fU, List.range_succ]
theorem wW (zs : List DkE) (k : Nat) : (fU zs k).length = k := by simp [fU]
def DkKp (n₀ Bs : Nat) (A B : World) : Prop := Below n₀ A B ∧ ∀ v, A.cell? ⟨Bs, 0, none⟩ = some v → B.cell? ⟨Bs, 0, none⟩ = some v
theorem DkKp.refl (n₀ Bs : Nat) (A : World) : DkKp n₀ Bs A A := ⟨Below.refl _ _, fun _ h => h⟩
theorem DkKp.trans {n₀ Bs : Nat} {A B C : World} (h : DkKp n₀ Bs A B) (k : DkKp n₀ Bs B C) : DkKp n₀ Bs A C := ⟨h.1.trans k.1, fun v e => k.2 v (h.2 v e)⟩
theorem MM {n₀ Bs : Nat} {w : World} (hn : n₀ ≤ w.heap.size) (W : World) (l : Nat) (o o' : Obj) (hl : w.heap.size ≤ l) (h : W.heap[l]? = some o) (hc : o.isCells = false) (hw : o.isWalk = false) : DkKp n₀ Bs W (W.putObj l o') :=
 ⟨belowK_b hn W l o o' hl h hc hw, fun v hv => by
  by_cases e : Bs = l
  ·subst e
   simp only [World.cell?] at hv
   rw [h] at hv
   cases o <;> simp_all [Obj.isCells]
  ·rw [← hv]
   exact World.cell?_of_block (World.putObj_heap_other (by simpa using e))⟩
theorem JH (l Bs n₀ b off cap : Nat) (zs : List DkE) (hlen : zs.length ≤ 1048576) (hb : b < n₀) (J Jx : List (Int × DkE) → World → Prop) (n : Nat)
  (hY : ∀ pre x W, J pre W → pre.length < zs.length → YieldAt Fence.wide n Tryz.prog l (DkE.encs x) W fun e W' =>
   (e = .returned (.bool true) ∧ J (pre ++ [x]) W' ∧ DkKp n₀ Bs W W') ∨ (e = .returned (.bool false) ∧ Jx (pre ++ [x]) W'))
  (W : World) (hBs : W.cell? ⟨Bs, 0, none⟩ = some (.slice (some ⟨b, off, none⟩) zs.length cap))
  (hc : ∀ j, j < zs.length → W.cell? ⟨b, off + j * 2, none⟩ = some (.string zs[j]!.1.1) ∧ W.cell? ⟨b, off + j * 2 + 1, none⟩ = some (.string zs[j]!.1.2)) (h0 : J [] W) :
  CallsIn Fence.wide (n + 1) Tryz.prog 275 #[.func (.yield l) #[] #[], .pointer (some ⟨Bs, 0, none⟩)] W fun e W' => (∃ v, e = .returned v) ∧
   ((∃ ys, ys = fU zs zs.length ∧ J ys W') ∨ (∃ pre, (∃ k, k ≤ zs.length ∧ pre = fU zs k) ∧ Jx pre W')) := by
 refine callsIn_of_wp Tryz.func275 rfl trivial ?_ rfl
 simp only [Tryz.ntmps275, List.size_toArray, List.length_cons, List.length_nil, Nat.reduceAdd, Nat.reduceSub, Array.replicate_succ, Array.replicate_zero, List.push_toArray, List.append_toArray, List.nil_append, List.cons_append]
 gi_wp2
 gi_loopw [3] (fun i wr => ∃ k : Nat, k ≤ zs.length ∧ i = .int .i64 ((zs.length : Int) - 1 - k) ∧ J (fU zs k) wr ∧ DkKp n₀ Bs W wr)
  (fun i _ => (intOf i + 1).toNat)
 case atStart => exact ⟨0, Nat.zero_le _, by simp, h0, DkKp.refl _ _ _⟩
 case round =>
  obtain ⟨k, hk, rfl, hJs, hnx⟩ := hrel
  have hBx : wr.cell? ⟨Bs, 0, none⟩ = some (.slice (some ⟨b, off, none⟩) zs.length cap) := hnx.2 _ hBs
  by_cases hlt : k < zs.length
  ·obtain ⟨q, hqk⟩ : ∃ q : Nat, q + k + 1 = zs.length := ⟨zs.length - 1 - k, by omega⟩
   have hqz : zs.length - 1 - k = q := by omega
   have hUs := Ah zs k
   rw [hqz] at hUs
   obtain ⟨hc1, hc2⟩ := hc q (by omega)
   generalize zs[q]! = z at hUs hc1 hc2
   obtain ⟨fn, tmps, assign, body, hy, hR⟩ := hY _ ((q : Int), z) wr hJs (by rw [wW]; exact hlt)
   replace hc1 := (hnx.1.cell (p := ⟨b, off + q * 2, none⟩) hb).trans hc1
   replace hc2 := (hnx.1.cell (p := ⟨b, off + q * 2 + 1, none⟩) hb).trans hc2
   dsimp only [DkE.encs] at hy
   rw [show ((zs.length : Int) - 1 - k) = (q : Int) by omega]
   have hq1 : q < zs.length := by omega
   clear hqz hlt
   gi_wp2
   refine hR.mono ?_
   rintro e W3 (⟨rfl, hJ3, hk3⟩ | ⟨rfl, hJx3⟩)
   ·gi_wp2
    go_roundw
    case rel => exact ⟨k + 1, by omega, by congr 1; omega, by rw [hUs]; exact hJ3, hnx.trans hk3⟩
    case measure => simp [intOf]
   ·gi_wp2
    refine bodyPost_ret (results_none rfl _ _ _) rfl ?_
    exact ⟨⟨_, rfl⟩, .inr ⟨_, ⟨k + 1, by omega, hUs.symm⟩, hJx3⟩⟩
  ·obtain rfl : k = zs.length := by omega
   rw [show ((zs.length : Int) - 1 - (zs.length : Nat)) = -1 by omega]
   gi_wp2
   go_end0
   exact ⟨⟨_, rfl⟩, .inl ⟨_, rfl, hJs⟩⟩
theorem yD (l Bs cap : Nat) (p : Option Addr) (J : List (Int × DkE) → World → Prop) (n : Nat) (W : World) (hBs : W.cell? ⟨Bs, 0, none⟩ = some (.slice p 0 cap)) (h0 : J [] W) :
  CallsIn Fence.wide (n + 1) Tryz.prog 275 #[.func (.yield l) #[] #[], .pointer (some ⟨Bs, 0, none⟩)] W fun e W' => (∃ v, e = .returned v) ∧ J [] W' := by
 refine callsIn_of_wp Tryz.func275 rfl trivial ?_ rfl
 simp only [Tryz.ntmps275, List.size_toArray, List.length_cons, List.length_nil, Nat.reduceAdd, Nat.reduceSub, Array.replicate_succ, Array.replicate_zero, List.push_toArray, List.append_toArray, List.nil_append, List.cons_append]
 gi_wp2
 gi_loopw [3] (fun i wr => i = .int .i64 (-1) ∧ J [] wr) (fun _ _ => 0)
 case atStart => exact ⟨rfl, h0⟩
 case round =>
  obtain ⟨rfl, hJs⟩ := hrel
  gi_wp2
  go_end0
  exact ⟨⟨_, rfl⟩, hJs⟩
theorem KQ (n : Nat) (a : Option Addr) (len cap : Nat) (w : World) :
  CallsIn Fence.wide n Tryz.prog 226 #[.slice a len cap] w fun e w' => e = .returned (.func (.func 275) #[] #[.pointer (some ⟨w.heap.size, 0, none⟩)]) ∧ w' = w.alloc (.cells #[.slice a len cap] 23) := by
 refine callsIn_of_wp Tryz.func226 rfl trivial ?_ rfl
 simp only [Tryz.ntmps226, List.size_toArray, List.length_cons, List.length_nil, Nat.reduceAdd, Nat.reduceSub, Array.replicate_succ, Array.replicate_zero, List.push_toArray, List.append_toArray, List.nil_append, List.cons_append]
 gi_wp2
 go_ret
 exact ⟨rfl, rfl⟩
def DkAt (n₀ : Nat) (W : World) (sv : Value) (zs : List DkE) : Prop :=
 (∃ p cap, sv = .slice p 0 cap ∧ zs = []) ∨ ∃ b off cap, sv = .slice (some ⟨b, off, none⟩) zs.length cap ∧ b < n₀ ∧ ∀ j, j < zs.length → W.cell? ⟨b, off + j * 2, none⟩ = some (.string zs[j]!.1.1) ∧ W.cell? ⟨b, off + j * 2 + 1, none⟩ = some (.string zs[j]!.1.2)
theorem DkAt.below {n₀ : Nat} {A B : World} (h : Below n₀ A B) {sv : Value} {zs : List DkE} : DkAt n₀ A sv zs → DkAt n₀ B sv zs
 | .inl e => .inl e
 | .inr ⟨b, off, cap, e, hb, hc⟩ => .inr ⟨b, off, cap, e, hb, fun j hj => ⟨(h.cell (p := ⟨b, off + j * 2, none⟩) hb).trans (hc j hj).1, (h.cell (p := ⟨b, off + j * 2 + 1, none⟩) hb).trans (hc j hj).2⟩⟩
theorem JK (n Bs n₀ : Nat) (sv : Value) (zs : List DkE) (hlen : zs.length ≤ 1048576) (w : World) (hBs : Bs < w.heap.size) (hn₀ : n₀ ≤ w.heap.size)
  (hc : w.cell? ⟨Bs, 0, none⟩ = some sv) (hI : DkAt n₀ w sv zs) :
  SeqStopsK Fence.wide (n + 1) Tryz.prog 275 #[.pointer (some ⟨Bs, 0, none⟩)] DkE.encs (DkKp n₀ Bs) (fun ys => ys = fU zs zs.length) (fun pre => ∃ k, k ≤ zs.length ∧ pre = fU zs k) zs.length w := fun l J Jx W hW _ _ hY h0 => by
 have hc' := (hW.cell (p := ⟨Bs, 0, none⟩) hBs).trans hc
 rcases hI.below (hW.mono hn₀) with ⟨p, cap, rfl, rfl⟩ | ⟨b, off, cap, rfl, hb, hcs⟩
 ·exact (yD l Bs cap p J n W hc' h0).mono fun e W' ⟨he, hj⟩ => ⟨he, .inl ⟨_, rfl, hj⟩⟩
 ·refine (JH l Bs n₀ b off cap zs hlen hb J Jx n hY W hc' hcs h0).mono ?_
  rintro e W' ⟨he, h⟩
  exact ⟨he, h⟩
def mf (nb : ByteArray → ByteArray) (s : ByteArray) (x : Int × DkE) : ByteArray := s ++ ((((⟨#[1]⟩ : ByteArray) ++ x.2.1.1) ++ (⟨#[61]⟩ : ByteArray)) ++ nb x.2.1.2)
def kM (nb : ByteArray → ByteArray) (l : List (Int × DkE)) : ByteArray := l.foldl (mf nb) .empty
theorem BV (nb : ByteArray → ByteArray) (l : List (Int × DkE)) (x : Int × DkE) : kM nb (l ++ [x]) = mf nb (kM nb l) x := by simp [kM]
theorem zX {nb : ByteArray → ByteArray} (hn : ∀ b, (nb b).size ≤ b.size + 100) : ∀ (l : List (Int × DkE)) (s : ByteArray), (l.foldl (mf nb) s).size ≤ s.size + l.length * 4194304 := by
 intro l
 induction l with
 | nil => intro s; simp
 | cons x l ih =>
  intro s
  have h := ih (mf nb s x)
  have h1 := x.2.2.1
  have h2 := x.2.2.2
  have h3 := hn x.2.1.2
  have e1 : (⟨#[1]⟩ : ByteArray).size = 1 := rfl
  have e2 : (⟨#[61]⟩ : ByteArray).size = 1 := rfl
  simp only [List.foldl_cons, List.length_cons]
  simp only [mf, ByteArray.size_append] at h ⊢
  omega
theorem D9 {nb : ByteArray → ByteArray} (hn : ∀ b, (nb b).size ≤ b.size + 100) (l : List (Int × DkE)) : (kM nb l).size ≤ l.length * 4194304 := by
 have h := zX hn l .empty
 have e : (ByteArray.empty).size = 0 := rfl
 rw [e] at h
 rw [kM]
 omega
def Ti (W : World) (B : Nat) (x : DkE) : Prop := W.heap[B]? = some (.cells #[.string x.1.1, .string x.1.2] 89 (0, 0))
def CellS (W : World) (B : Nat) (k : ByteArray) : Prop := W.cell? ⟨B, 0, none⟩ = some (.string k) ∧ W.frozen? ⟨B, 0, none⟩ = false
theorem CellS.lt {W : World} {B : Nat} {k : ByteArray} (h : CellS W B k) : B < W.heap.size := by
 have := h.1
 simp only [World.cell?] at this
 cases e : W.heap[B]? with
 | none => rw [e] at this; cases this
 | some o => exact (Array.getElem?_eq_some_iff.1 e).1
theorem CellS.block {W W' : World} {B : Nat} {k : ByteArray} (h : CellS W B k) (hb : W'.heap[B]? = W.heap[B]?) : CellS W' B k := ⟨(World.cell?_of_block hb).trans h.1, (World.frozen?_of_block hb).trans h.2⟩
def vK : Code → Code
 | .rangeFunc _ _ _ b => b
 | .seq a b => match vK a with
  | .skip => vK b
  | c => c
 | .block _ b => vK b
 | _ => .skip
noncomputable def bodyC : Code := vK EX
theorem MK : CodeOk Tryz.prog C 141 21 bodyC := eG (yJ _) mixed (by decide +kernel)
noncomputable def ou (b : ByteArray) : ByteArray := ⟨(norm b.data.toList).toArray⟩
def qh (key s v : ByteArray) : Nat → R := fun t => if t = 3 then .box 0 [.str key.data.toList] else if t = 5 then .box 1 [.str s.data.toList, .str v.data.toList] else .val .undef
theorem Gt (b : ByteArray) : (ou b).size ≤ b.size + 100 := by
 have := qj (t := b.data.toList)
 show (norm b.data.toList).toArray.size ≤ _
 simp
 omega
theorem IQ (key s v : ByteArray) (h1 : key.size ≤ 4398046511104) (h2 : s.size ≤ 1048576) (h3 : v.size ≤ 1048576) :
  WP C 141 bodyC ⟨qh key s v, 2, []⟩ fun ex σ' => ex = .norm ∧ σ'.regs 3 = .box 0 [.str (key ++ ((((⟨#[1]⟩ : ByteArray) ++ s) ++ (⟨#[61]⟩ : ByteArray)) ++ ou v)).data.toList] := by
 have c1 := ku (t := v.data.toList) (H := [])
 have e1 : key.data.toList.length ≤ 4398046511104 := by simpa using h1
 have e2 : s.data.toList.length ≤ 1048576 := by simpa using h2
 have e3 := qj (t := v.data.toList)
 have g1 : 1 + s.size ≤ 4611686018427387904 := by omega
 have g2 : 1 + s.size + 1 ≤ 4611686018427387904 := by omega
 have g2' : s.size + 1 + 1 ≤ 4611686018427387904 := by omega
 have g3 : s.size + 1 + 1 + (norm v.data.toList).length ≤ 4611686018427387904 := by omega
 have g4 : key.size + (s.size + ((norm v.data.toList).length + 1) + 1) ≤ 4611686018427387904 := by omega
 simp [bodyC, vK, EX, Tryz.f141, g1, g2, g2', g3, g4, qh, c1, qX, maxStr, ou, List.lookup, ag]
theorem Io (progOk : ProgOk Tryz.prog C) (a : Option Addr) (len cap : Nat) (zs : List DkE) (hlen : zs.length ≤ 1048576) (w : World) (hI : DkAt w.heap.size w (.slice a len cap) zs) :
  Calls Tryz.prog 141 #[.slice a len cap] w fun e W' => e = .returned (.string (kM ou (fU zs zs.length))) ∧ Below w.heap.size w W' := by
 refine (callsIn_wide (n := 6)).1 ?_
 refine callsIn_of_wp_marks Tryz.func141 rfl trivial ?_ rfl
 simp only [Tryz.ntmps141, List.size_toArray, List.length_cons, List.length_nil, Nat.reduceAdd, Nat.reduceSub, Array.replicate_succ, Array.replicate_zero, List.push_toArray, List.append_toArray, List.nil_append, List.cons_append]
 gi_wp2_with (refine ⟨trivial, ?_⟩; gi_at_call 226; refine (KQ _ _ _ _ _).mono ?_; rintro e w' ⟨rfl, rfl⟩)
 have bS := (Boxed.new w 9 (.string .empty)).alloc (.cells #[.slice a len cap] 23)
 have bA := Boxed.new (w.alloc (.cells #[.string .empty] 9)) 23 (.slice a len cap)
 simp only [World.size_alloc] at bS bA
 have hB0 : Below w.heap.size w ((w.alloc (.cells #[.string .empty] 9)).alloc (.cells #[.slice a len cap] 23)) := ((Below.refl _ w).alloc (Nat.le_refl _) _).alloc (by simp) _
 have hsz : ((w.alloc (.cells #[.string .empty] 9)).alloc (.cells #[.slice a len cap] 23)).heap.size = w.heap.size + 2 := by simp
 change Code.wpIn _ _ _ _ _ _ ((w.alloc (.cells #[.string .empty] 9)).alloc (.cells #[.slice a len cap] 23))
 obtain ⟨W0, hW0⟩ : ∃ W0, (w.alloc (.cells #[.string .empty] 9)).alloc (.cells #[.slice a len cap] 23) = W0 := ⟨_, rfl⟩
 rw [hW0] at bS bA hB0 hsz ⊢
 clear hW0
 refine wpIn_rangeFunc_ownH rfl (by omega) (gf := 275) (lb := #[.pointer (some ⟨w.heap.size + 1, 0, none⟩)]) rfl trivial (enters_of Tryz.func275 (by kernel_rfl) rfl)
  (JK 4 (w.heap.size + 1) w.heap.size (.slice a len cap) zs hlen W0 (by omega) (by omega) bA.cell (hI.below hB0)) DkKp.trans (MM (by omega)) (Below.refl _ _) (fun _ => rfl)
  (fun pre W => (CellS W w.heap.size (kM ou pre) ∧ Boxed W (w.heap.size + 1) 23 (.slice a len cap)) ∧ Below w.heap.size w W)
  (fun _ _ _ => False)
  (OwnFrom.and (OwnFrom.and (Own.from (fun s X Y row hs hg hr => ⟨cell_kept hs.1 hg hr, (frozen_kept hs.1 hg hr).trans hs.2⟩) _) (Own.from (boxed_own _ _ _) _)) (ownFrom_below (Nat.le_refl _) (by omega)))
  (fun _ _ _ _ _ hs _ _ => hs)
  ⟨⟨⟨bS.cell, bS.frozen⟩, bA⟩, hB0⟩
  (fun x a' W => ∃ Bx, w.heap.size + 1 < Bx ∧ Ti W Bx x.2 ∧ a' = { tmps := #[.slice a len cap, undef, .string ⟨#[]⟩, .pointer (some ⟨w.heap.size, 0, none⟩), undef, .pointer (some ⟨Bx, 0, none⟩), .slice a len cap, .func (.func 275) #[] #[.pointer (some ⟨w.heap.size + 1, 0, none⟩)], .int .i64 x.1, .agg #[.string x.2.1.1, .string x.2.1.2], undef, undef, undef, undef, undef, undef, undef, undef, undef, undef, undef], defers := [] })
  (fun x a' _ X Y row hs hg hr => by
   obtain ⟨Bx, h1, h2, h3⟩ := hs
   refine ⟨Bx, h1, (hg.block Bx (Array.getElem?_eq_some_iff.1 h2).1 fun e => ?_).trans h2, h3⟩
   obtain ⟨_, o, ho, hc⟩ := hr Bx e.symm
   rw [show X.heap[Bx]? = _ from h2] at ho
   cases ho
   cases hc)
  ?assign ?body ?done ?stop
 case assign =>
  rintro l pre x W K ⟨⟨bS1, bA1⟩, hB1⟩ hK
  obtain ⟨i, ⟨⟨s, v⟩, hs⟩⟩ := x
  dsimp only [DkE.encs] at hK ⊢
  gi_wp2
  refine hK _ _ ((KeepsOthers.alloc _ _).from _) ⟨(Below.refl _ W).alloc hB1.size _, fun u hu => (World.cell?_of_block (Below.heap_alloc W _ _ bA1.lt)).trans hu⟩ ⟨⟨bS1.block (Below.heap_alloc W _ _ bS1.lt), bA1.alloc _⟩, hB1.alloc hB1.size _⟩ ⟨W.heap.size, bA1.lt, World.alloc_heap_new W _, rfl⟩
 case body =>
  rintro l pre x a' W hl ⟨r, hr⟩ ⟨⟨bS1, bA1⟩, hB1⟩ ⟨Bx, hBx, bX, rfl⟩ hlt
  have hkz := D9 Gt pre
  obtain ⟨i, ⟨⟨s, v⟩, hs⟩⟩ := x
  dsimp only at hs bX
  have z1 : (kM ou pre).size ≤ 4398046511104 := by omega
  obtain ⟨ex, σ', hex, rfl, hr3⟩ := IQ (kM ou pre) s v z1 hs.1 hs.2
  have hBne : w.heap.size ≠ Bx := by omega
  have hBxl : Bx < W.heap.size := (Array.getElem?_eq_some_iff.1 bX).1
  have hsim : Sim (C.locs 141) ⟨qh (kM ou pre) s v, 2, []⟩ (fun _ => none) [w.heap.size, Bx] { tmps := #[.slice a len cap, undef, .string ⟨#[]⟩, .pointer (some ⟨w.heap.size, 0, none⟩), undef, .pointer (some ⟨Bx, 0, none⟩), .slice a len cap, .func (.func 275) #[] #[.pointer (some ⟨w.heap.size + 1, 0, none⟩)], .int .i64 i, .agg #[.string s, .string v], undef, undef, undef, undef, undef, undef, undef, undef, undef, undef, undef], defers := [] } W := {
   heap := ⟨fun id m h => by simp at h, fun id o h => by simp at h, fun id o m h => by simp at h, fun id id' o o' m m' _ h => by simp at h, fun id es cells m h => by simp at h⟩
   lenβ := rfl
   reg := fun t ht => by
    by_cases t3 : t = 3
    ·subst t3; exact ⟨_, rfl, rfl⟩
    by_cases t5 : t = 5
    ·subst t5; exact ⟨_, rfl, rfl⟩
    show RR _ _ _ _ (qh _ _ _ t) _
    simp only [qh, t3, t5, if_false]
    exact .undef _
   box := fun t c cells b ht h1 h2 => by
    simp only [qh] at h1
    split at h1
    ·cases h1
     simp at h2
     subst h2
     refine ⟨fun j u hj => ?_, fun o ho1 ho2 => ?_⟩
     ·match j, hj with
      | 0, hj => cases hj; exact ⟨_, bS1.1, .str _⟩
     ·have : o = 0 := by simp at ho2; omega
      subst this
      exact ⟨⟨_, bS1.1⟩, bS1.2⟩
    split at h1
    ·cases h1
     simp at h2
     subst h2
     have q0 : W.cell? ⟨Bx, 0, none⟩ = some (.string s) := by simp [World.cell?, show W.heap[Bx]? = _ from bX]
     have q1 : W.cell? ⟨Bx, 1, none⟩ = some (.string v) := by simp [World.cell?, show W.heap[Bx]? = _ from bX]
     have q2 : ∀ o, W.frozen? ⟨Bx, o, none⟩ = false := fun o => by simp [World.frozen?, show W.heap[Bx]? = _ from bX]
     refine ⟨fun j u hj => ?_, fun o ho1 ho2 => ?_⟩
     ·match j, hj with
      | 0, hj => cases hj; exact ⟨_, q0, .str _⟩
      | 1, hj => cases hj; exact ⟨_, q1, .str _⟩
     ·have : o = 0 ∨ o = 1 := by simp at ho2; omega
      rcases this with rfl | rfl
      ·exact ⟨⟨_, q0⟩, q2 _⟩
      ·exact ⟨⟨_, q1⟩, q2 _⟩
    ·cases h1
   sepβ := fun id o m b h => by simp at h
   injβ := fun c c' b h1 h2 => by
    match c, c', h1, h2 with
    | 0, 0, _, _ => rfl
    | 1, 1, _, _ => rfl
    | 0, 1, h1, h2 => simp at h1 h2; omega
    | 1, 0, h1, h2 => simp at h1 h2; omega
    | 0, _ + 2, _, h2 => simp at h2
    | 1, _ + 2, _, h2 => simp at h2
    | _ + 2, _, h1, _ => simp at h1
   ltβ := fun b hb => by
    simp at hb
    rcases hb with rfl | rfl
    ·exact bS1.lt
    ·exact hBxl
   uniq := fun t t' c cells cells' _ _ h1 h2 => by
    simp only [qh] at h1 h2
    split at h1
    ·rename_i e
     cases h1
     split at h2
     ·rename_i e'; rw [e, e']
     split at h2
     ·cases h2
     ·cases h2
    split at h1
    ·rename_i e
     cases h1
     split at h2
     ·cases h2
     split at h2
     ·rename_i e'; rw [e, e']
     ·cases h2
    ·cases h1
   loc := fun t c cells _ h1 => by
    simp only [qh] at h1
    split at h1
    ·rename_i e; subst e; simp
    split at h1
    ·rename_i e; subst e; simp
    ·cases h1
   defs := rfl }
  refine JW (ro := some l) progOk hsim MK hex fun a'' w' hl' => ?_
  obtain ⟨μ', β', k1, k2, k3, k4, k5, k6⟩ := hl'
  have hno : ∀ b, b ≠ w.heap.size → b ≠ Bx → ¬ OwnB (St.heap ⟨qh (kM ou pre) s v, 2, []⟩) (fun _ => none) [w.heap.size, Bx] b := by
   rintro b h1 h2 (⟨id, o, m, h, _⟩ | h)
   ·simp at h
   ·simp at h; omega
  have hsame : ∀ b, b < W.heap.size → b ≠ w.heap.size → b ≠ Bx → w'.heap[b]? = W.heap[b]? := fun b h h1 h2 => k5.same b h (hno b h1 h2)
  have hcell : CellS w' w.heap.size (kM ou (pre ++ [(i, ⟨(s, v), hs⟩)])) := by
   rw [BV]
   have r3 := k1.reg 3 (by rw [k4]; exact (by decide : 3 < 21))
   rw [hr3] at r3
   obtain ⟨b, hb, _⟩ := r3
   have hb0 : β'[0]? = some w.heap.size := by
    obtain ⟨ν, rfl⟩ := k3
    rfl
   rw [hb0] at hb
   cases hb
   obtain ⟨q1, q2⟩ := k1.box 3 0 _ _ (by rw [k4]; exact (by decide : 3 < 21)) hr3 hb0
   obtain ⟨u, hu1, hu2⟩ := q1 0 _ rfl
   obtain ⟨x, rfl, hx⟩ := hu2.str_inv
   refine ⟨?_, (q2 0 (Nat.le_refl _) (by simp)).2⟩
   rw [Nat.zero_add] at hu1
   rw [hu1]
   congr 2
   exact ByteArray.ext (Array.toList_inj.1 hx.symm)
  have hbl : Below w.heap.size W w' := ⟨k5.os, k5.tape, k5.output, k5.size, fun k hk => hsame k (by have := hB1.size; omega) (by omega) (by omega)⟩
  have hbA : Boxed w' (w.heap.size + 1) 23 (.slice a len cap) := (hsame _ bA1.lt (by omega) (by omega)).trans bA1
  refine ⟨⟨k5.size, fun k o hk1 hk2 hk3 => ?_⟩, ⟨hbl, fun u hu => ?_⟩, ⟨hcell, hbA⟩, hB1.trans hbl⟩
  ·by_cases e : k = Bx
   ·subst e
    rw [show W.heap[k]? = _ from bX] at hk2
    cases hk2
    cases hk3
   ·rw [hsame k (Array.getElem?_eq_some_iff.1 hk2).1 (by omega) e]
    exact hk2
  ·rw [bA1.cell] at hu
   cases hu
   exact hbA.cell
 case done =>
  rintro D ys W hD rfl ⟨⟨bS1, bA1⟩, hB1⟩ hK
  have cS := bS1.1
  gi_wp2
  refine ⟨by simp, .inl ⟨_, _, rfl, run_takeDeferred hK, ?_⟩⟩
  exact ⟨_, results_tmp rfl _ _ _, rfl, hB1.trans (belowK_b (w := w) (Nat.le_refl _) W D _ _ (by omega) hK rfl rfl)⟩
 case stop =>
  rintro D c pre W _ _ h _
  exact h.elim
theorem wG {H : List Ob} {μ : Mu} {w w' : World} (h : HSim H μ w) (hb : Below w.heap.size w w') : HGoes H μ w H μ w' :=
 ⟨h.world (fun id o m h1 h2 h3 => .of_heap (hb.block _ (jG h id o m h1 h2 h3))) hb.size, μ.le_refl, ⟨hb.size, fun b hb' _ => hb.block b hb', fun b h => .inl h, hb.os, hb.tape, hb.output, fun h => (show False from h).elim⟩, Lives.refl _ _ _⟩
noncomputable def qM (p : Str × Str) : DkE := if h : p.1.length ≤ 1048576 ∧ p.2.length ≤ 1048576 then ⟨(⟨p.1.toArray⟩, ⟨p.2.toArray⟩), by simpa [ByteArray.size] using h⟩ else default
theorem Bf {p : Str × Str} (h : p.1.length ≤ 1048576 ∧ p.2.length ≤ 1048576) : (qM p).1 = (⟨p.1.toArray⟩, ⟨p.2.toArray⟩) := by unfold qM; rw [dif_pos h]
theorem xM : ∀ {cs : List V} {l : List (Str × Str)}, mg cs = some l → ∀ (j : Nat) p, l[j]? = some p → cs[j * 2]? = some (.str p.1) ∧ cs[j * 2 + 1]? = some (.str p.2)
 | cs, l, h, j, p, hp => by
  unfold mg at h
  split at h
  ·cases h; cases hp
  ·rename_i a v rest
   split at h
   ·rename_i l' hl'
    cases h
    cases j with
    | zero => cases hp; exact ⟨rfl, rfl⟩
    | succ j =>
     have ih := xM hl' j p (by simpa using hp)
     rw [show (j + 1) * 2 = j * 2 + 1 + 1 by omega]
     simpa using ih
   ·cases h
  ·cases h
theorem CB (zs : List DkE) : (fU zs zs.length).map Prod.snd = zs.reverse := by
 apply List.ext_getElem
 ·simp [fU]
 ·intro i h1 h2
  simp only [List.length_reverse] at h2
  simp only [fU, List.map_map, List.getElem_map, List.getElem_range, Function.comp, List.getElem_reverse]
  rw [getElem!_pos]
theorem AB : ∀ (l : List (Str × Str)) (s : ByteArray), rV l = true → ((l.map qM).foldl (fun s z => mf ou s (0, z)) s).data.toList = l.foldl fG s.data.toList
 | [], s, _ => rfl
 | p :: l, s, h => by
  simp only [rV, List.all_cons, Bool.and_eq_true, decide_eq_true_eq] at h
  have ih := AB l (mf ou s (0, qM p)) (by simpa [rV] using h.2)
  rw [List.map_cons, List.foldl_cons, List.foldl_cons, ih]
  congr 1
  simp only [mf, Bf h.1, fG, ou]
  simp
theorem Nr {l : List (Str × Str)} (h : rV l = true) : (kM ou (fU (l.map qM) (l.map qM).length)).data.toList = KC l := by
 have e : kM ou (fU (l.map qM) (l.map qM).length) = ((fU (l.map qM) (l.map qM).length).map Prod.snd).foldl (fun s z => mf ou s (0, z)) .empty := by
  rw [List.foldl_map]
  rfl
 rw [e, CB, ← List.map_reverse, AB _ _ (by unfold rV at h ⊢; rw [List.all_reverse]; exact h)]
 rfl
theorem dkPrim_ok (progOk : ProgOk Tryz.prog C) : jB Tryz.prog 141 oW := by
 intro args H r H' h μ w us hs hv
 have hent : ∀ us w, (callFunc 141 us).run Tryz.prog w = .ok (.enter 141 us) w := enters_of Tryz.func141 (by kernel_rfl) rfl
 unfold oW at h
 split at h
 case h_2 => cases h
 rename_i p n
 obtain ⟨u, rfl, hu⟩ := hv.one
 refine .inr ⟨hent _ _, ?_⟩
 split at h
 ·rename_i hn
  subst hn
  cases h
  have : ∃ q c, u = .slice q 0 c := by
   cases p with
   | none => obtain ⟨rfl, _⟩ := hu.slcN_inv; exact ⟨_, _, rfl⟩
   | some p =>
    obtain ⟨id, off⟩ := p
    obtain ⟨m, _, ⟨c, _, _, _, rfl⟩ | ⟨_, _, a, rfl⟩⟩ := hu.slc_inv <;> exact ⟨_, _, rfl⟩
  obtain ⟨q, c, rfl⟩ := this
  refine (Io progOk q 0 c [] (by simp) w (.inl ⟨q, c, rfl, rfl⟩)).mono ?_
  rintro e w' ⟨rfl, hb⟩
  exact ⟨_, rfl, μ, wG hs hb, VR.str .empty⟩
 rename_i hn
 split at h
 case isFalse => cases h
 rename_i hn1
 split at h
 case h_2 => cases h
 rename_i id off
 split at h
 case h_2 => cases h
 rename_i own cells ho
 split at h
 case isFalse => cases h
 rename_i hlen
 split at h
 case h_2 => cases h
 rename_i l hl
 split at h
 case isFalse => cases h
 rename_i hf
 obtain ⟨hf, hln⟩ := hf
 cases h
 obtain ⟨m, hm, ⟨c, hc1, hc2, hc3, rfl⟩ | ⟨h0, _⟩⟩ := hu.slc_inv
 rotate_left
 ·exact absurd h0 hn
 obtain ⟨g1, g2, g3, g4, g5, g6⟩ := hs.obj id _ m ho hm
 have hfit : ∀ p ∈ l, p.1.length ≤ 1048576 ∧ p.2.length ≤ 1048576 := fun p hp => by
  have := List.all_eq_true.1 hf p hp
  simpa using this
 have hI : DkAt w.heap.size w (.slice (some ⟨m.blk, m.base + off, none⟩) n c) (l.map qM) := by
  refine .inr ⟨m.blk, m.base + off, c, by rw [List.length_map, hln], g5, fun j hj => ?_⟩
  rw [List.length_map] at hj
  have hpj : l[j]? = some l[j] := List.getElem?_eq_getElem hj
  obtain ⟨q1, q2⟩ := xM hl j _ hpj
  have hget : ∀ k, k < n * 2 → ((cells.drop off).take (n * 2))[k]? = cells[off + k]? := fun k hk => by rw [List.getElem?_take_of_lt hk, List.getElem?_drop]
  rw [hget _ (by omega)] at q1 q2
  obtain ⟨u1, a1, a2⟩ := g4 _ _ q1
  obtain ⟨u2, b1, b2⟩ := g4 _ _ q2
  obtain ⟨x1, rfl, ex1⟩ := a2.str_inv
  obtain ⟨x2, rfl, ex2⟩ := b2.str_inv
  have hz : (l.map qM)[j]! = qM l[j] := by rw [getElem!_pos _ _ (by simpa using hj)]; simp
  rw [hz, Bf (hfit _ (List.getElem_mem hj))]
  have e1 : x1 = ⟨(l[j]).1.toArray⟩ := ByteArray.ext (by simp [ex1])
  have e2 : x2 = ⟨(l[j]).2.toArray⟩ := ByteArray.ext (by simp [ex2])
  rw [← Nat.add_assoc] at a1 b1
  rw [← Nat.add_assoc] at b1
  rw [a1, b1, e1, e2]
  exact ⟨rfl, rfl⟩
 refine (Io progOk _ n c (l.map qM) (by rw [List.length_map]; omega) w hI).mono ?_
 rintro e w' ⟨rfl, hb⟩
 refine ⟨_, rfl, μ, wG hs hb, ?_⟩
 rw [← Nr hf]
 exact .str _
end Go.Proofs.Try0
end
section
namespace Go.Proofs.Try1
open Go Go.Lite
theorem ND : jB Tryz.prog 141 oW := Try0.dkPrim_ok EH
end Go.Proofs.Try1
end
section
namespace Go.Lite
open Go
section
variable [Draws]
theorem Gj (hO : Sort.SWO lu) (l : List Str) : (dB l).length = l.length := by
 have h := (Sort.pdq_sorts lu hO l.toArray 0 l.length (Lib.bitLen l.length) true true (Nat.zero_le _) (by simp) (Or.inl rfl)).1.1
 simpa [dB] using h
theorem wV {P : Program} {g gb : Nat} (hO : Sort.SWO lu) (hcall : ∀ us w, (callFunc g us).run P w = .ok (.enter g us) w)
  (hsort : ∀ (blk off cap : Nat) (zs : List (List UInt8)) (w : World), Sort.Holds Go.Proofs.encStr w blk off zs.toArray → blk < w.heap.size → zs.length < 4611686018427387904 → Calls P g #[.slice (some ⟨blk, off, none⟩) zs.length cap, .func (.func gb) #[] #[]] w fun e w' =>
   e = .returned (.tuple #[]) ∧ ∃ n os, w' = Sort.grow (Sort.putRow Go.Proofs.encStr (Sort.ahead w n) blk off (dB zs).toArray) os)
  (hnone : ∀ (p : Option Addr) (cap : Nat) (w : World), Calls P g #[.slice p 0 cap, .func (.func gb) #[] #[]] w fun e w' => e = .returned (.tuple #[]) ∧ w' = w) : jB P g (fP gb) := by
 intro args H r H' h μ w us hs hv
 have htup : ∀ μ : Mu, VR μ (.tup []) (.tuple #[]) := fun μ => VR.tup [] #[] rfl (fun i v u h _ => by simp at h)
 unfold fP at h
 split at h
 case h_2 => cases h
 rename_i p n g'
 obtain ⟨u, u', rfl, hu, hfn⟩ := hv.two
 split at h
 case isFalse => cases h
 rename_i hg
 subst hg
 obtain ⟨xs, ys, rfl, hx, _, hy, _⟩ := hfn.fn_inv
 obtain rfl : xs = #[] := Array.size_eq_zero_iff.1 (by simpa using hx.symm)
 obtain rfl : ys = #[] := Array.size_eq_zero_iff.1 (by simpa using hy.symm)
 refine .inr ⟨hcall _ _, ?_⟩
 split at h
 ·rename_i hn
  subst hn
  cases h
  have : ∃ q c, u = .slice q 0 c := by
   cases p with
   | none => obtain ⟨rfl, _⟩ := hu.slcN_inv; exact ⟨_, _, rfl⟩
   | some p =>
    obtain ⟨id, off⟩ := p
    obtain ⟨m, _, ⟨c, _, _, _, rfl⟩ | ⟨_, _, a, rfl⟩⟩ := hu.slc_inv <;> exact ⟨_, _, rfl⟩
  obtain ⟨q, c, rfl⟩ := this
  refine (hnone q c w).mono ?_
  rintro e w' ⟨rfl, rfl⟩
  exact ⟨_, rfl, μ, .refl hs, htup μ⟩
 ·rename_i hn
  split at h
  case h_2 => cases h
  rename_i id off
  split at h
  case h_2 => cases h
  rename_i es cells ho
  split at h
  case isFalse => cases h
  rename_i hc
  obtain ⟨rfl, hlen, hmax⟩ := hc
  split at h
  case h_2 => cases h
  rename_i ss hss
  cases h
  have hcs := uJ hss
  have hssl : ss.length = n := by
   have := congrArg List.length hcs
   simp at this
   omega
  obtain ⟨m, hm, ⟨c, hc1, hc2, hc3, rfl⟩ | ⟨h0, _⟩⟩ := hu.slc_inv
  rotate_left
  ·exact absurd h0 hn
  obtain ⟨g1, g2, g3, g4, g5, g6⟩ := hs.obj id _ m ho hm
  obtain ⟨g6, g7⟩ := g6 rfl
  have hget : ∀ j, j < ss.length → cells[off + j]? = some (.str ss[j]!) := fun j hj => by
   rw [D7 hcs (show j < n by omega), List.getElem?_map, List.getElem?_eq_getElem hj]
   simp [hj]
  have hH : Sort.Holds Go.Proofs.encStr w m.blk (m.base + off) ss.toArray := fun j hj => by
   simp only [List.size_toArray] at hj
   obtain ⟨u, hu1, hu2⟩ := g4 (off + j) _ (hget j hj)
   obtain ⟨b, rfl, hb⟩ := hu2.str_inv
   have hbe : Value.string b = Go.Proofs.encStr ss[j]! := by
    show _ = Value.string ⟨ss[j]!.toArray⟩
    rw [hb]
   refine ⟨?_, ?_⟩
   ·rw [Nat.add_assoc, hu1, hbe]
    congr 2
    simp [hj]
   ·exact (g7 (m.base + off + j) (by omega) (by omega)).2
  have hsort' := hsort m.blk (m.base + off) c ss w hH g5 (by omega)
  rw [hssl] at hsort'
  refine hsort'.mono ?_
  rintro e w' ⟨rfl, k, os, rfl⟩
  refine ⟨_, rfl, μ, ?_, htup μ⟩
  have hlen2 : (dB ss).length = ss.length := Gj hO ss
  have hwr := yZ (d' := (dB ss).toArray) hH (by simp [hlen2])
  have hvl : VL μ ((dB ss).map V.str) (((dB ss).toArray).toList.map Go.Proofs.encStr) := by
   refine VL.of_get (by simp) fun i v u h1 h2 => ?_
   simp only [List.getElem?_map] at h1 h2
   cases hx : (dB ss)[i]? with
   | none => rw [hx] at h1; cases h1
   | some s =>
    rw [hx] at h1 h2
    cases h1
    cases h2
    exact VR.str ⟨s.toArray⟩
  have hgo := HGoes.write hs ho hm hwr hvl (by rw [List.length_map, hlen2]; omega)
  rw [Sort.putRow_ahead]
  exact hgo.trans (HGoes.garbage hgo.sim k os)
end
section
attribute [local instance] yz
theorem IA {P : Program} {gb : Nat} (heb : ∀ us w, (callFunc gb us).run P w = .ok (.enter gb us) w) {callf : bJ} (hC : gU P callf) (cf : Str → Str → Int) (hcf : ∀ x y, ∃ H', callf gb [.str x, .str y] [] = some (.int .i64 (cf x y), H'))
  (x y : Str) (w : World) : Calls P gb #[Go.Proofs.encStr x, Go.Proofs.encStr y] w fun e w' => e = .returned (.int .i64 (cf x y)) ∧ ∃ q os', w' = Sort.grow (w.drewN q) os' := by
 have hs : HSim [] (fun _ => none) w := zZ
 have hv : VL (fun _ => none) [.str x, .str y] (#[Go.Proofs.encStr x, Go.Proofs.encStr y] : Array Value).toList :=
  .cons (VR.str ⟨x.toArray⟩) (.cons (VR.str ⟨y.toArray⟩) .nil)
 obtain ⟨H', hcf⟩ := hcf x y
 rcases hC gb _ [] _ _ hcf (fun _ => none) w _ hs hv with ⟨v, w', h1, _⟩ | ⟨_, h⟩
 ·rw [heb] at h1; cases h1
 ·refine h.mono ?_
  rintro e w' ⟨v, rfl, μ', hg, hr⟩
  obtain ⟨n, rfl⟩ := hr.int_inv
  refine ⟨rfl, w'.drawn - w.drawn, w'.heap.extract w.heap.size w'.heap.size, ?_⟩
  have hd := hg.grow.drawn trivial
  have hh : w'.heap = w.heap ++ w'.heap.extract w.heap.size w'.heap.size := by
   apply Array.ext_getElem?
   intro i
   by_cases hi : i < w.heap.size
   ·rw [Array.getElem?_append_left hi]
    exact hg.grow.same i hi (by rintro (⟨id, o, m, h, _⟩ | h) <;> simp at h)
   ·rw [Array.getElem?_append_right (by omega), Array.getElem?_extract]
    by_cases hj : i < w'.heap.size
    ·rw [if_pos (by omega)]
     congr 1
     omega
    ·rw [if_neg (by omega), Array.getElem?_eq_none (by omega)]
  obtain ⟨h', t', d', o', u'⟩ := w'
  obtain ⟨h0, t0, d0, o0, u0⟩ := w
  have e1 := hg.grow.os
  have e2 := hg.grow.tape
  have e3 := hg.grow.output
  simp only at e1 e2 e3 hd hh ⊢
  subst e1 e2 e3
  show _ = World.mk _ _ _ _ _
  congr 1
  show _ = d0 + (d' - d0)
  omega
end
end Go.Lite
end
section
namespace Go.Proofs
open Go.Shelf
def Tryz.laySortF_ren : Go.Shelf.Ren := ⟨fun | 6 => 178 | 15 => 248 | 14 => 247 | 28 => 292 | 29 => 293 | 20 => 284 | 21 => 285 | 22 => 286 | 23 => 287 | 24 => 288 | 25 => 289 | 26 => 290 | 27 => 291 | 46 => 309 | 47 => 310 | 48 => 311 | 49 => 312 | 50 => 313 | 57 => 330 | n => n, fun | 22 => 27 | 24 => 9 | 25 => 182 | 3 => 3 | 39 => 180 | 0 => 0 | 53 => 259 | 55 => 176 | 4 => 4 | 46 => 253 | 45 => 252 | 50 => 151 | 5 => 5 | 9 => 9 | 66 => 269 | 70 => 273 | 76 => 282 | 77 => 211 | n => n, fun | n => n⟩
theorem Tryz.laySortF : Go.Proofs.SlLaysF.n6 Tryz.prog Tryz.laySortF_ren := {
 mixed := by kernel_rfl
 f6 := ⟨Tryz.f178.name, by decide, Tryz.func178.trans (congrArg some (by kernel_rfl))⟩
 f14 := ⟨Tryz.f247.name, by decide, Tryz.func247.trans (congrArg some (by kernel_rfl))⟩
 f15 := Tryz.func248.trans (congrArg some (by kernel_rfl))
 f20 := ⟨Tryz.f284.name, by decide, Tryz.func284.trans (congrArg some (by kernel_rfl))⟩
 f21 := ⟨Tryz.f285.name, by decide, Tryz.func285.trans (congrArg some (by kernel_rfl))⟩
 f22 := ⟨Tryz.f286.name, by decide, Tryz.func286.trans (congrArg some (by kernel_rfl))⟩
 f23 := ⟨Tryz.f287.name, by decide, Tryz.func287.trans (congrArg some (by kernel_rfl))⟩
 f24 := ⟨Tryz.f288.name, by decide, Tryz.func288.trans (congrArg some (by kernel_rfl))⟩
 f25 := ⟨Tryz.f289.name, by decide, Tryz.func289.trans (congrArg some (by kernel_rfl))⟩
 f26 := ⟨Tryz.f290.name, by decide, Tryz.func290.trans (congrArg some (by kernel_rfl))⟩
 f27 := ⟨Tryz.f291.name, by decide, Tryz.func291.trans (congrArg some (by kernel_rfl))⟩
 f28 := Tryz.func292.trans (congrArg some (by kernel_rfl))
 f29 := Tryz.func293.trans (congrArg some (by kernel_rfl))
 f46 := ⟨Tryz.f309.name, by decide, Tryz.func309.trans (congrArg some (by kernel_rfl))⟩
 f47 := Tryz.func310.trans (congrArg some (by kernel_rfl))
 f48 := Tryz.func311.trans (congrArg some (by kernel_rfl))
 f49 := ⟨Tryz.f312.name, by decide, Tryz.func312.trans (congrArg some (by kernel_rfl))⟩
 f50 := ⟨Tryz.f313.name, by decide, Tryz.func313.trans (congrArg some (by kernel_rfl))⟩
 f57 := ⟨Tryz.f330.name, by decide, Tryz.func330.trans (congrArg some (by kernel_rfl))⟩
 t0 := Tryz.underlying0
 a0 := Tryz.isAgg0
 z0 := Tryz.sizeOf0
 v0 := Tryz.zeroValue0
 t3 := Tryz.underlying3
 a3 := Tryz.isAgg3
 z3 := Tryz.sizeOf3
 v3 := Tryz.zeroValue3
 t4 := Tryz.underlying4
 a4 := Tryz.isAgg4
 z4 := Tryz.sizeOf4
 v4 := Tryz.zeroValue4
 t5 := Tryz.underlying5
 a5 := Tryz.isAgg5
 z5 := Tryz.sizeOf5
 v5 := Tryz.zeroValue5
 t9 := Tryz.underlying9
 a9 := Tryz.isAgg9
 z9 := Tryz.sizeOf9
 v9 := Tryz.zeroValue9
 t22 := Tryz.underlying27
 a22 := Tryz.isAgg27
 z22 := Tryz.sizeOf27
 v22 := Tryz.zeroValue27
 a24 := Tryz.isAgg9
 z24 := Tryz.sizeOf9
 t25 := Tryz.underlying182
 a25 := Tryz.isAgg182
 z25 := Tryz.sizeOf182
 v25 := Tryz.zeroValue182
 t39 := Tryz.underlying180
 a39 := Tryz.isAgg180
 z39 := Tryz.sizeOf180
 v39 := Tryz.zeroValue180
 t45 := Tryz.underlying252
 a45 := Tryz.isAgg252
 z45 := Tryz.sizeOf252
 v45 := Tryz.zeroValue252
 t46 := Tryz.underlying253
 a46 := Tryz.isAgg253
 z46 := Tryz.sizeOf253
 v46 := Tryz.zeroValue253
 t50 := Tryz.underlying151
 a50 := Tryz.isAgg151
 z50 := Tryz.sizeOf151
 v50 := Tryz.zeroValue151
 t53 := Tryz.underlying259
 a53 := Tryz.isAgg259
 z53 := Tryz.sizeOf259
 v53 := Tryz.zeroValue259
 t55 := Tryz.underlying176
 a55 := Tryz.isAgg176
 z55 := Tryz.sizeOf176
 v55 := Tryz.zeroValue176
 t66 := Tryz.underlying269
 a66 := Tryz.isAgg269
 z66 := Tryz.sizeOf269
 v66 := Tryz.zeroValue269
 t70 := Tryz.underlying273
 a70 := Tryz.isAgg273
 z70 := Tryz.sizeOf273
 v70 := Tryz.zeroValue273
 t76 := Tryz.underlying282
 a76 := Tryz.isAgg282
 z76 := Tryz.sizeOf282
 v76 := Tryz.zeroValue282
 t77 := Tryz.underlying211
 a77 := Tryz.isAgg211
 z77 := Tryz.sizeOf211
 v77 := Tryz.zeroValue211 }
end Go.Proofs
end
section
namespace Go.Proofs.Try1
open Go Go.Lite
theorem FH : jB Tryz.prog 178 (fP 179) := by
 have eb := enters Tryz.func179 (by kernel_rfl) (by kernel_rfl)
 refine wV MS (enters Tryz.func178 (by kernel_rfl) (by kernel_rfl)) (fun blk off cap zs w hH hb hl => ?_)
  (fun p cap w => AnyF.slices_SortFunc_none (P := Tryz.prog) (ρ := Tryz.laySortF_ren) { Tryz.laySortF with } p cap _ w)
 exact Any.slices_SortFunc_eq Tryz.laySortF Go.Proofs.encStr (fun _ => rfl) tK MS 179 #[] blk off cap zs.toArray w eb
  (fun m os dk hs x y => IA eb (@AP yz _ _ (@EH yz)) tK (fun x y => ⟨[], Try0.i_byNorm⟩) x y _) hH hb (by simpa using hl)
end Go.Proofs.Try1
end
section
namespace Go.Lite
open Go Go.Lib Go.Shelf
variable [Draws]
theorem CellsAt.vals {μ : Mu} {w : World} {b : Nat} : ∀ {xs : List V} {o : Nat}, CellsAt μ w b o xs → ∃ us : List Value, VL μ xs us ∧ ∀ (j : Nat) (u : Value), us[j]? = some u → w.cell? ⟨b, o + j, none⟩ = some u
 | [], o, _ => ⟨[], .nil, fun j u h => by simp at h⟩
 | x :: xs, o, h => by
  obtain ⟨u, h1, h2⟩ := h 0 x rfl
  obtain ⟨us, h3, h4⟩ := CellsAt.vals (xs := xs) (o := o + 1) (fun j v hv => by
   obtain ⟨u, k1, k2⟩ := h (j + 1) v (by simpa using hv)
   exact ⟨u, by rw [← k1]; congr 2; omega, k2⟩)
  refine ⟨u :: us, .cons h2 h3, fun j u' hj => ?_⟩
  cases j with
  | zero => cases hj; exact h1
  | succ j =>
   have := h4 j u' (by simpa using hj)
   rw [← this]; congr 2; omega
theorem CellsAt.part {μ : Mu} {w : World} {b o off n : Nat} {xs : List V} (h : CellsAt μ w b o xs) : CellsAt μ w b (o + off) ((xs.drop off).take n) := by
 intro j v hv
 rw [List.getElem?_take] at hv
 split at hv
 ·rw [List.getElem?_drop] at hv
  obtain ⟨u, h1, h2⟩ := h _ v hv
  exact ⟨u, by rw [← h1, Nat.add_assoc], h2⟩
 ·cases hv
theorem fO {w : World} {b o : Nat} {us : List Value} (h : FreeAt w b o (o + us.length)) (h1 : ∀ u ∈ us, u.oneCell' = true) : Wrote w (w.setCells b o us) b o us := by
 obtain ⟨w', hr, hw⟩ := bU (P := default) b us o 0 w h1 h
 have h2 := run_storeCells_cells (P := default) b o us 0 w (fun j hj => by
  obtain ⟨⟨u, h3⟩, _⟩ := h (o + j) (by omega) (by omega)
  simp [h3]) (fun j hj => by simpa using (h (o + j) (by omega) (by omega)).2) h1
 rw [hr] at h2
 simp only [Nat.add_zero] at h2 hw
 cases h2
 exact hw
theorem Wrote.both {w w1 w2 : World} {b o : Nat} {us1 us2 : List Value} (h1 : Wrote w w1 b (o + us1.length) us2) (h2 : Wrote w1 w2 b o us1) : Wrote w w2 b o (us1 ++ us2) where
 size := h2.size.trans h1.size
 os := h2.os.trans h1.os
 tape := h2.tape.trans h1.tape
 drawn := h2.drawn.trans h1.drawn
 output := h2.output.trans h1.output
 other b' hb := (h2.other b' hb).trans (h1.other b' hb)
 frozen j := (h2.frozen j).trans (h1.frozen j)
 cell j := by
  rw [h2.cell, h1.cell, List.length_append]
  by_cases c1 : o ≤ j ∧ j < o + us1.length
  ·rw [if_pos c1, if_pos (by omega), List.getElem?_append_left (by omega)]
  ·rw [if_neg c1]
   by_cases c2 : o + us1.length ≤ j ∧ j < o + us1.length + us2.length
   ·rw [if_pos c2, if_pos (by omega), List.getElem?_append_right (by omega)]
    congr 1; omega
   ·rw [if_neg c2, if_neg (by omega)]
theorem VL.zeros {μ : Mu} {z : List V} {zV : Value} (h : VL μ z zV.cells.toList) (h0 : 0 < z.length) (n : Nat) :
  ∃ zs, VL μ zs (Builtin.zeroCells zV.cells n).toList ∧ zs.length = n * z.length := by
 have hl := h.length
 simp only [Array.length_toList] at hl
 refine ⟨(List.range (n * zV.cells.size)).map fun i => z.getD (i % zV.cells.size) .nilfn, VL.of_get (by simp [Builtin.zeroCells]) fun i v u h1 h2 => ?_, by simp [hl]⟩
 have hi : i < n * zV.cells.size := by have := (List.getElem?_eq_some_iff.1 h1).1; simpa using this
 have hm : i % zV.cells.size < zV.cells.size := Nat.mod_lt _ (by omega)
 simp only [Builtin.zeroCells] at h2
 simp [hi] at h1 h2
 subst h1; subst h2
 refine h.get (i % zV.cells.size) _ _ ?_ ?_
 ·rw [List.getElem?_eq_getElem (by omega)]; simp
 ·simp [hm]
theorem vF {w : World} {b lo hi : Nat} (h : FreeAt w b lo hi) (h1 : lo < hi) (he : EndB w b) : ∃ t k, w.shape? b = some (t, k) ∧ k ≠ 0 ∧ w.frozen? ⟨b, k, none⟩ = false := by
 obtain ⟨⟨u, hu⟩, _⟩ := h lo (Nat.le_refl _) h1
 cases ho : w.heap[b]? with
 | none => simp [World.cell?, ho] at hu
 | some o =>
  cases o <;> simp [World.cell?, ho] at hu
  rename_i cs t fz
  have hlo : lo < cs.size := by
   by_cases c : lo < cs.size
   ·exact c
   ·rw [Array.getElem?_eq_none (by omega)] at hu; cases hu
  refine ⟨t, cs.size, by simp [World.shape?, ho], by omega, he _ ?_⟩
  simp [World.cell?, ho]
theorem qZ (zV : Value) (n : Nat) : (Builtin.zeroCells zV.cells n).size = n * zV.cells.size := by
 simp [Builtin.zeroCells]
theorem EndB.free {w : World} {b lo hi : Nat} (h : FreeAt w b lo hi) : ∀ j, lo ≤ j → j < hi → (w.cell? ⟨b, j, none⟩).isSome = true ∧ w.frozen? ⟨b, j, none⟩ = false := fun j h1 h2 => by
 obtain ⟨⟨u, hu⟩, hf⟩ := h j h1 h2
 exact ⟨by rw [hu]; rfl, hf⟩
theorem wL {P : Program} {g : FuncId} {T : TypeId} {zV : Value} {z : List V} {bytes : Nat} (hz : ∀ μ, VL μ z zV.cells.toList) (hz2 : z.length = 2) (hby : bytes ≤ 1000) (hcall : ∀ us w, (callFunc g us).run P w = .ok (.enter g us) w)
  (hshift : ∀ (b off n c i vb vo vc : Nat) (cs vs : List Value) (w : World) (_ : i < n) (_ : n + 1 ≤ c) (_ : n ≤ 1000000) (_ : vb ≠ b) (_ : cs.length = n * 2) (_ : vs.length = 2)
   (_ : ∀ (j : Nat) v, cs[j]? = some v → w.cell? ⟨b, off + j, none⟩ = some v) (_ : ∀ j, j < (n + 1) * 2 → (w.cell? ⟨b, off + j, none⟩).isSome = true) (_ : ∀ j, j < (n + 1) * 2 → w.frozen? ⟨b, off + j, none⟩ = false)
   (_ : ∀ (j : Nat) v, vs[j]? = some v → w.cell? ⟨vb, vo + j, none⟩ = some v) (_ : ∀ v ∈ cs, v.oneCell' = true) (_ : ∀ v ∈ vs, v.oneCell' = true)
   (tA tB : TypeId) (kA kB : Nat) (_ : w.shape? vb = some (tA, kA)) (_ : w.shape? b = some (tB, kB)) (_ : kB ≠ 0) (_ : w.frozen? ⟨vb, vo, none⟩ = false) (_ : w.frozen? ⟨vb, kA, none⟩ = false),
   Calls P g #[.slice (some ⟨b, off, none⟩) n c, .int .i64 i, .slice (some ⟨vb, vo, none⟩) 1 vc] w fun e w' =>
    e = .returned (.slice (some ⟨b, off, none⟩) (n + 1) c) ∧ w' = (w.drew.setCells b (off + (i + 1) * 2) (cs.drop (i * 2))).setCells b (off + i * 2) vs)
  (hendR : ∀ (b off n c vb vo vc : Nat) (vs : List Value) (w : World) (_ : n + 1 ≤ c) (_ : n ≤ 1000000) (_ : vs.length = 2) (_ : ∀ j, j < 2 → (w.cell? ⟨b, off + n * 2 + j, none⟩).isSome = true) (_ : ∀ j, j < 2 → w.frozen? ⟨b, off + n * 2 + j, none⟩ = false)
   (_ : ∀ (j : Nat) v, vs[j]? = some v → w.cell? ⟨vb, vo + j, none⟩ = some v) (_ : ∀ v ∈ vs, v.oneCell' = true),
   Calls P g #[.slice (some ⟨b, off, none⟩) n c, .int .i64 n, .slice (some ⟨vb, vo, none⟩) 1 vc] w fun e w' =>
    e = .returned (.slice (some ⟨b, off, none⟩) (n + 1) c) ∧ w' = w.setCells b (off + n * 2) vs)
  (hendG : ∀ (base : Option Addr) (n c vb vo vc : Nat) (cs vs : List Value) (w : World) (_ : n ≤ c) (_ : c < n + 1) (_ : (n + 1) * bytes ≤ 140737488355328) (_ : cs.length = n * 2) (_ : vs.length = 2) (_ : base = none → n = 0)
   (_ : ∀ a, base = some a → ∀ (j : Nat) v, cs[j]? = some v → w.cell? (a.add j) = some v) (_ : ∀ (j : Nat) v, vs[j]? = some v → w.cell? ⟨vb, vo + j, none⟩ = some v) (_ : ∀ v ∈ vs, v.oneCell' = true),
   Calls P g #[.slice base n c, .int .i64 n, .slice (some ⟨vb, vo, none⟩) 1 vc] w fun e w' =>
    e = .returned (.slice (some ⟨w.heap.size, 0, none⟩) (n + 1) (grownCap w (n + 1) c T)) ∧
    w' = w.drew.alloc (.cells ((cs ++ vs).toArray ++ Builtin.zeroCells zV.cells (grownCap w (n + 1) c T - (n + 1))) T))
  (hgrow : ∀ (b off n c i vb vo vc : Nat) (cs vs : List Value) (w : World) (_ : i < n) (_ : n ≤ c) (_ : c < n + 1) (_ : (n + 1) * bytes ≤ 140737488355328) (_ : cs.length = n * 2) (_ : vs.length = 2)
   (_ : ∀ (j : Nat) v, cs[j]? = some v → w.cell? ⟨b, off + j, none⟩ = some v) (_ : ∀ (j : Nat) v, vs[j]? = some v → w.cell? ⟨vb, vo + j, none⟩ = some v) (_ : ∀ v ∈ cs, v.oneCell' = true) (_ : ∀ v ∈ vs, v.oneCell' = true),
   Calls P g #[.slice (some ⟨b, off, none⟩) n c, .int .i64 i, .slice (some ⟨vb, vo, none⟩) 1 vc] w fun e w' =>
    e = .returned (.slice (some ⟨w.heap.size, 0, none⟩) (n + 1) (grownCap w (n + 1) c T)) ∧
    w' = (((w.alloc (.cells ((cs.take (i * 2)).toArray ++ Builtin.zeroCells zV.cells (n + 1 - i) ++ Builtin.zeroCells zV.cells (grownCap w (n + 1) c T - (n + 1))) T)).drew.setCells w.heap.size (i * 2) vs).drew).setCells w.heap.size ((i + 1) * 2) (cs.drop (i * 2))) :
  jB P g (fK 2) := by
 intro args H r H' h μ w us hs hv
 refine .inr ⟨hcall _ _, ?_⟩
 unfold fK at h
 split at h
 case h_2 => cases h
 rename_i p n i idv
 split at h
 case h_2 => cases h
 rename_i es' xs hov
 split at h
 case isFalse => cases h
 rename_i hc
 obtain ⟨rfl, hxl, hi0, hin, hn, hone⟩ := hc
 obtain ⟨u, u2, u3, rfl, hu, hu2, hu3⟩ : ∃ u u2 u3, us = #[u, u2, u3] ∧ VR μ (.slc p n) u ∧ VR μ (.int .i64 i) u2 ∧ VR μ (.slc (some (idv, 0)) 1) u3 := by
  have hl := hv.length
  match us, hl, hv with
  | ⟨[a, b, c]⟩, _, hv => exact ⟨a, b, c, rfl, hv.get 0 _ _ rfl rfl, hv.get 1 _ _ rfl rfl, hv.get 2 _ _ rfl rfl⟩
 obtain ⟨i, rfl⟩ : ∃ k : Nat, i = k := ⟨i.toNat, by omega⟩
 have hin : i ≤ n := by omega
 obtain rfl : u2 = .int .i64 i := by cases hu2; rfl
 obtain ⟨mv, hmv, ⟨vc, hvc1, hvc2, hvc3, rfl⟩ | ⟨h0, _⟩⟩ := hu3.slc_inv
 rotate_left
 ·cases h0
 obtain ⟨v1, v2, v3, v4, v5, v6⟩ := hs.obj idv _ mv hov hmv
 obtain ⟨v6, v7⟩ := v6 rfl
 simp only [Nat.add_zero] at hvc2 ⊢
 obtain ⟨vs, hvl, hvs⟩ := CellsAt.vals v4
 have hvsl : vs.length = 2 := by rw [← hvl.length, hxl]
 have h1v := hvl.oneCell hone
 have hzs : zV.cells.size = 2 := by
  have := (hz μ).length
  simp at this
  omega
 have hbig : (n + 1) * bytes ≤ 140737488355328 := Nat.le_trans (Nat.mul_le_mul (show n + 1 ≤ 1000001 by omega) hby) (by decide)
 have atEnd : ∀ (base : Option Addr) (c : Nat) (ys : List V) (cs : List Value) (Hd : List Ob) (hk : HGoes H μ w Hd μ w) (hHd : Hd.length = H.length), i = n → n ≤ c → c < n + 1 → VL μ ys cs → cs.length = n * 2 → (base = none → n = 0) → (∀ a, base = some a → ∀ (j : Nat) v, cs[j]? = some v → w.cell? (a.add j) = some v) →
   Calls P g #[.slice base n c, .int .i64 i, .slice (some ⟨mv.blk, mv.base, none⟩) 1 vc] w fun e w' => ∃ u, e = .returned u ∧ ∃ μ', HGoes H μ w (Hd ++ [.mk true 2 (ys ++ xs)]) μ' w' ∧ VR μ' (.slc (some (H.length, 0)) (n + 1)) u := by
  intro base c ys cs Hd hk hHd e1 hnc hcn hyl hcl hb0 hbc
  subst e1
  refine (hendG base i c mv.blk mv.base vc cs vs w hnc hcn hbig hcl hvsl hb0 hbc hvs h1v).mono ?_
  rintro e w' ⟨rfl, rfl⟩
  have hG := grownCap_ge w (i + 1) c T
  generalize grownCap w (i + 1) c T = G at hG
  obtain ⟨US, hUS⟩ : ∃ US, US = (cs ++ vs).toArray ++ Builtin.zeroCells zV.cells (G - (i + 1)) := ⟨_, rfl⟩
  have hUSl : US.size = G * 2 := by rw [hUS, Array.size_append, qZ, hzs]; simp [hcl, hvsl]; omega
  have hyl2 := hyl.length
  have hgo := HGoes.new (es := 2) (w' := w.drew.alloc (.cells US T)) (fz := (0, 0)) hk.sim (cells := ys ++ xs) (us := US) (ty := T) (by
    have : US.toList.take (ys ++ xs).length = cs ++ vs := by
     rw [hUS, Array.toList_append, List.take_append_of_le_length (by simp; omega), List.take_of_length_le (by simp; omega)]
    rw [this]; exact hyl.append hvl) (by rw [hUSl]; simp; omega) rfl (.inr (Nat.le_refl _)) rfl rfl rfl
  rw [← hUS]
  refine ⟨_, rfl, _, hk.trans hgo, ?_⟩
  rw [hHd]
  have := VR.slc (μ := μ.add H.length ⟨w.heap.size, 0, (ys ++ xs).length, 2, US.size, true⟩) H.length 0 (i + 1) G ⟨w.heap.size, 0, (ys ++ xs).length, 2, US.size, true⟩
   (Mu.add_self _ _ _) hG (fun _ => by simp only [hUSl]; omega) (by simp only [Nat.zero_add, List.length_append]; omega)
  simpa using this
 cases p with
 | none =>
  simp only [] at h
  split at h
  case isFalse => cases h
  rename_i hn0
  subst hn0
  cases h
  obtain ⟨rfl, _⟩ := hu.slcN_inv
  exact atEnd none 0 [] [] H (.refl hs) rfl (by omega) (Nat.le_refl _) (by omega) .nil rfl (fun _ => rfl) (fun a h => by cases h)
 | some p =>
  obtain ⟨id, off⟩ := p
  simp only [] at h
  split at h
  case h_2 => cases h
  rename_i es'' cells ho
  split at h
  case isFalse => cases h
  rename_i hc
  obtain ⟨rfl, hne, hlen, honec⟩ := hc
  cases h
  obtain ⟨m, hm, hcase⟩ := hu.slc_inv
  obtain ⟨g1, g2, g3, g4, g5, g6⟩ := hs.obj id _ m ho hm
  obtain ⟨g6, g7⟩ := g6 rfl
  have hblk : m.blk ≠ mv.blk := hs.sep id idv _ _ m mv hne ho hov hm hmv rfl rfl
  obtain ⟨cs, hcl, hcs⟩ := CellsAt.vals (g4.part (off := off) (n := n * 2))
  have hDl : ((cells.drop off).take (n * 2)).length = n * 2 := by simp; omega
  have hcsl : cs.length = n * 2 := by rw [← hcl.length, hDl]
  have h1c := hcl.oneCell honec
  have hHl : (H.set id .dead).length = H.length := by simp
  have hk := HGoes.kill hs id
  obtain ⟨D, hD⟩ : ∃ D, D = (cells.drop off).take (n * 2) := ⟨_, rfl⟩
  rw [← hD] at hcl hDl
  have hDi : (cells.drop off).take (i * 2) = D.take (i * 2) := by rw [hD, List.take_take, Nat.min_eq_left (by omega)]
  rw [Int.toNat_natCast, hDi, ← hD]
  have hxs2 : D.drop (n * 2) = [] := List.drop_of_length_le (by omega)
  have hxs3 : D.take (n * 2) = D := List.take_of_length_le (by omega)
  rcases hcase with ⟨c, hnc, hr, hre, rfl⟩ | ⟨rfl, hre, ad, rfl⟩
  ·have hr := hr g1.symm
   have hr2 : m.base + off + c * 2 ≤ m.size := by rw [← g2] at hr; exact hr
   by_cases hroom : n + 1 ≤ c
   ·-- in place
    have hfree : FreeAt w m.blk (m.base + off) (m.base + off + (n + 1) * 2) := g7.mono (by omega) (by omega)
    obtain ⟨vt, vk, s1, s2, s3⟩ := vF v7 (by omega) (hs.plain _ _ _ _ hov hmv (by decide))
    obtain ⟨bt, bk, t1, t2, t3⟩ := vF hfree (by omega) (hs.plain _ _ _ _ ho hm (by decide))
    have hfr := EndB.free hfree
    have goes : ∀ (W W' : World), HGoes H μ w H μ W → (∀ x, W.cell? x = w.cell? x) → (∀ x, W.frozen? x = w.frozen? x) → W.heap.size = w.heap.size → Wrote W W' m.blk (m.base + off + i * 2) (vs ++ cs.drop (i * 2)) →
      ∃ μ', HGoes H μ w (H.set id .dead ++ [.mk true 2 (D.take (i * 2) ++ xs ++ D.drop (i * 2))]) μ' W' ∧ VR μ' (.slc (some (H.length, 0)) (n + 1)) (.slice (some ⟨m.blk, m.base + off, none⟩) (n + 1) c) := by
     intro W W' hg hWc hWf hWs hw
     have hwl : (vs ++ cs.drop (i * 2)).length = 2 + (n - i) * 2 := by simp [hvsl, hcsl]; omega
     refine ⟨μ.add H.length ⟨m.blk, m.base + off, (n + 1) * 2, 2, m.size, true⟩, hg.trans (HGoes.regrow hg.sim ho hm hw rfl ⟨rfl, rfl, ?_, ?_, by rw [hw.size, hWs]; exact g5, fun _ => ⟨?_, ?_⟩⟩), ?_⟩
     ·simp [hDl, hxl]; omega
     ·intro j v hj
      simp only
      rw [hw.cell, hwl]
      by_cases hj1 : j < i * 2
      ·rw [if_neg (by omega), hWc]
       rw [List.append_assoc, List.getElem?_append_left (by simp; omega), List.getElem?_take_of_lt hj1] at hj
       have hj2 : j < cs.length := by omega
       refine ⟨cs[j], hcs j _ (List.getElem?_eq_getElem hj2), VR.le (Mu.le_add _ hs.fresh) (hcl.get j v _ hj (List.getElem?_eq_getElem hj2))⟩
      ·have hjl : j < (D.take (i * 2) ++ xs ++ D.drop (i * 2)).length := (List.getElem?_eq_some_iff.1 hj).1
       rw [List.append_assoc, List.getElem?_append_right (by simp; omega)] at hj
       have e1 : (D.take (i * 2)).length = i * 2 := by simp; omega
       rw [e1] at hj
       have hjl2 : j < (n + 1) * 2 := by simp [hDl, hxl] at hjl; omega
       rw [if_pos (by omega)]
       have e2 : m.base + off + j - (m.base + off + i * 2) = j - i * 2 := by omega
       rw [e2]
       have hvv : VL μ (xs ++ D.drop (i * 2)) (vs ++ cs.drop (i * 2)) := hvl.append (hcl.drop _)
       have hj3 : j - i * 2 < (vs ++ cs.drop (i * 2)).length := by omega
       exact ⟨_, List.getElem?_eq_getElem hj3, VR.le (Mu.le_add _ hs.fresh) (hvv.get _ v _ hj (List.getElem?_eq_getElem hj3))⟩
     ·simp only; omega
     ·refine hw.free ?_
      intro o h1 h2
      rw [hWc, hWf]
      exact g7 o (by simp only at h1; omega) h2
     ·have := VR.slc (μ := μ.add H.length ⟨m.blk, m.base + off, (n + 1) * 2, 2, m.size, true⟩) H.length 0 (n + 1) c ⟨m.blk, m.base + off, (n + 1) * 2, 2, m.size, true⟩
       (Mu.add_self _ _ _) hroom (fun _ => by simp only [← g2] at hr ⊢; omega) (by simp only; omega)
      simpa using this
    by_cases hie : i = n
    ·subst hie
     refine (hendR m.blk (m.base + off) i c mv.blk mv.base vc vs w hroom hn hvsl (fun j hj => (hfr _ (by omega) (by omega)).1) (fun j hj => (hfr _ (by omega) (by omega)).2) hvs h1v).mono ?_
     rintro e w' ⟨rfl, rfl⟩
     have hw := fO (w := w) (b := m.blk) (o := m.base + off + i * 2) (us := vs) (hfree.mono (by omega) (by omega)) h1v
     have hcd : cs.drop (i * 2) = [] := List.drop_of_length_le (by omega)
     obtain ⟨μ', k1, k2⟩ := goes w _ (.refl hs) (fun _ => rfl) (fun _ => rfl) rfl (by rw [hcd, List.append_nil]; exact hw)
     exact ⟨_, rfl, μ', k1, k2⟩
    ·refine (hshift m.blk (m.base + off) n c i mv.blk mv.base vc cs vs w (by omega) hroom hn (fun e => hblk e.symm) hcsl hvsl hcs (fun j hj => (hfr _ (by omega) (by omega)).1) (fun j hj => (hfr _ (by omega) (by omega)).2) hvs h1c h1v vt bt vk bk s1 t1 t2 (v7 _ (by omega) (by omega)).2 s3).mono ?_
     rintro e w' ⟨rfl, rfl⟩
     have hcdl : (cs.drop (i * 2)).length = (n - i) * 2 := by simp [hcsl]; omega
     have hw1 := fO (w := w.drew) (b := m.blk) (o := m.base + off + (i + 1) * 2) (us := cs.drop (i * 2)) (fun o h1 h2 => hfree o (by omega) (by omega)) (fun v hv => h1c v (List.mem_of_mem_drop hv))
     have hw2 := fO (w := w.drew.setCells m.blk (m.base + off + (i + 1) * 2) (cs.drop (i * 2))) (b := m.blk) (o := m.base + off + i * 2) (us := vs) (hw1.free (fun o h1 h2 => hfree o (by omega) (by omega))) h1v
     have e1 : m.base + off + (i + 1) * 2 = m.base + off + i * 2 + vs.length := by omega
     rw [e1] at hw1 hw2 ⊢
     obtain ⟨μ', k1, k2⟩ := goes w.drew _ (HGoes.world hs rfl rfl rfl rfl) (fun _ => rfl) (fun _ => rfl) rfl (hw1.both hw2)
     exact ⟨_, rfl, μ', k1, k2⟩
   ·-- a new row
    by_cases hie : i = n
    ·subst hie
     rw [hxs2, hxs3, List.append_nil]
     exact atEnd (some ⟨m.blk, m.base + off, none⟩) c D cs _ hk hHl rfl hnc (by omega) hcl hcsl (fun e => by cases e) (fun a ha j v hj => by cases ha; rw [Addr.add_lit]; exact hcs j v hj)
    ·refine (hgrow m.blk (m.base + off) n c i mv.blk mv.base vc cs vs w (by omega) hnc (by omega) hbig hcsl hvsl hcs hvs h1c h1v).mono ?_
     rintro e w' ⟨rfl, rfl⟩
     have hG := grownCap_ge w (n + 1) c T
     generalize grownCap w (n + 1) c T = G at hG
     obtain ⟨zs, hzl, hzn⟩ := (hz μ).zeros (by omega) (n + 1 - i)
     have hzl2 := hzl.length
     obtain ⟨US, hUS⟩ : ∃ US, US = (cs.take (i * 2)).toArray ++ Builtin.zeroCells zV.cells (n + 1 - i) ++ Builtin.zeroCells zV.cells (G - (n + 1)) := ⟨_, rfl⟩
     have hUSl : US.size = G * 2 := by
      rw [hUS, Array.size_append, Array.size_append, qZ, qZ, hzs]
      simp [hcsl]; omega
     rw [← hUS]
     have hDt : (D.take (i * 2)).length = i * 2 := by simp; omega
     have hrl : (D.take (i * 2) ++ zs).length = (n + 1) * 2 := by rw [List.length_append, hDt, hzn, hz2]; omega
     have hn := HGoes.new (es := 2) (w' := (w.alloc (.cells US T)).drew) (fz := (0, 0)) hk.sim (cells := D.take (i * 2) ++ zs) (us := US) (ty := T) (by
       have : US.toList.take (D.take (i * 2) ++ zs).length = cs.take (i * 2) ++ (Builtin.zeroCells zV.cells (n + 1 - i)).toList := by
        rw [hUS, Array.toList_append, Array.toList_append, List.take_append_of_le_length (by rw [hrl, List.length_append, ← hzl2, hzn, hz2]; simp; omega), List.take_of_length_le (by rw [hrl, List.length_append, ← hzl2, hzn, hz2]; simp; omega)]
       rw [this]; exact (hcl.take _).append hzl) (by rw [hrl, hUSl]; omega) rfl (.inr (Nat.le_refl _)) rfl rfl rfl
     rw [hHl] at hn
     obtain ⟨M, hM⟩ : ∃ M : Mp, M = ⟨w.heap.size, 0, (D.take (i * 2) ++ zs).length, 2, US.size, true⟩ := ⟨_, rfl⟩
     rw [← hM] at hn
     have hMm : (μ.add H.length M) H.length = some M := Mu.add_self _ _ _
     have hle : μ.le (μ.add H.length M) := Mu.le_add _ hs.fresh
     have hl0 : ∀ o, (H.set id .dead ++ [o])[H.length]? = some o := fun o => by rw [← hHl]; simp
     have hfN : FreeAt (w.alloc (.cells US T)).drew w.heap.size 0 (G * 2) := by
      obtain ⟨_, q⟩ := (hn.sim.obj H.length _ M (hl0 _) hMm).2.2.2.2.2 rfl
      rw [hM] at q
      simp only [hUSl] at q
      exact q
     have hw1 := fO (w := (w.alloc (.cells US T)).drew) (b := w.heap.size) (o := i * 2) (us := vs) (hfN.mono (by omega) (by omega)) h1v
     have hp1 := HGoes.write (off := i * 2) (us := vs) hn.sim (hl0 _) hMm (by rw [hM]; simp only [Nat.zero_add]; exact hw1) (VL.le hle hvl) (by rw [hrl]; omega)
     have hd := HGoes.world (w' := ((w.alloc (.cells US T)).drew.setCells w.heap.size (i * 2) vs).drew) hp1.sim rfl rfl rfl rfl
     have hw2 := fO (w := ((w.alloc (.cells US T)).drew.setCells w.heap.size (i * 2) vs).drew) (b := w.heap.size) (o := (i + 1) * 2) (us := cs.drop (i * 2)) (fun o h1 h2 => hw1.free hfN o (by omega) (by simp [hcsl] at h2; omega)) (fun v hv => h1c v (List.mem_of_mem_drop hv))
     have hl1 : ∀ o o', ((H.set id .dead ++ [o]).set H.length o')[H.length]? = some o' := fun o o' => by rw [List.getElem?_set_self (by simp)]
     have hsl : (setRange (D.take (i * 2) ++ zs) (i * 2) xs).length = (n + 1) * 2 := by rw [jy (by rw [hrl]; omega), hrl]
     have hp2 := HGoes.write (off := (i + 1) * 2) (us := cs.drop (i * 2)) hd.sim (hl1 _ _) hMm (by rw [hM]; simp only [Nat.zero_add]; exact hw2) (VL.le hle (hcl.drop (i * 2))) (by rw [hsl]; simp [hDl]; omega)
     have hfin : setRange (setRange (D.take (i * 2) ++ zs) (i * 2) xs) ((i + 1) * 2) (D.drop (i * 2)) = D.take (i * 2) ++ xs ++ D.drop (i * 2) := by
      have e1 : setRange (D.take (i * 2) ++ zs) (i * 2) xs = D.take (i * 2) ++ xs ++ (D.take (i * 2) ++ zs).drop (i * 2 + xs.length) := by
       unfold setRange
       rw [List.take_append_of_le_length (by omega), List.take_of_length_le (by omega)]
      rw [e1]
      have e2 : (D.take (i * 2) ++ xs).length = (i + 1) * 2 := by rw [List.length_append, hDt, hxl]; omega
      unfold setRange
      rw [List.take_append_of_le_length (by omega), List.take_of_length_le (by omega), List.drop_of_length_le (l := D.take (i * 2) ++ xs ++ _) (by rw [← e1, hsl]; simp [hDl]; omega), List.append_nil]
     have hset : ((H.set id .dead ++ [Ob.mk true 2 (D.take (i * 2) ++ zs)]).set H.length (.mk true 2 (setRange (D.take (i * 2) ++ zs) (i * 2) xs))).set H.length (.mk true 2 (setRange (setRange (D.take (i * 2) ++ zs) (i * 2) xs) ((i + 1) * 2) (D.drop (i * 2)))) = H.set id .dead ++ [.mk true 2 (D.take (i * 2) ++ xs ++ D.drop (i * 2))] := by
      rw [List.set_set, hfin, ← hHl, List.set_append_right _ _ (Nat.le_refl _), Nat.sub_self]
      rfl
     rw [hset] at hp2
     refine ⟨_, rfl, _, hk.trans (hn.trans (hp1.trans (hd.trans hp2))), ?_⟩
     have := VR.slc (μ := μ.add H.length M) H.length 0 (n + 1) G M hMm hG (fun _ => by rw [hM]; simp only [hUSl]; omega) (by rw [hM]; simp only [hrl]; omega)
     rw [hM] at this
     simpa [hM] using this
  ·have hi0 : i = 0 := by omega
   subst hi0
   have hD0 : D = [] := List.length_eq_zero_iff.1 (by omega)
   rw [hD0]
   have := atEnd (some ad) 0 [] [] _ hk hHl rfl (Nat.le_refl _) (by omega) .nil rfl (fun e => by cases e) (fun a ha j v hj => by simp at hj)
   simpa using this
end Go.Lite
end
section
namespace Go.Proofs.InsAttr
open Go Go.Lib Go.RowKit Go.Shelf
abbrev zV : Value := .agg #[.string ⟨#[]⟩, .slice none 0 0]
theorem info : (Tryz.prog.info? 44).map (fun i => (i.zero, i.size, i.bytes)) = some (some zV, 2, 40) := by kernel_rfl
theorem Oo : ∀ w, (Go.sizeOf 44).run Tryz.prog w = .ok 2 w := Tryz.sizeOf44
theorem ED {P : Program} (w : World) (dT sT ty elem : TypeId) (b o dLen dCap : Nat) (a : Addr) (sLen sCap k : Nat) (cs : List Value)
  (hu : P.underlying dT = some (.slice elem)) (hs : (P.info? elem).map (·.size) = some 2) (hk : k = Nat.min sLen dLen) (hn : cs.length = k * 2)
  (hsrc : ∀ j v, cs[j]? = some v → w.cell? (a.add j) = some v) (hc : ∀ j, j < cs.length → (w.cell? ⟨b, o + j, none⟩).isSome = true) (hf : ∀ j, j < cs.length → w.frozen? ⟨b, o + j, none⟩ = false) (h1 : ∀ v ∈ cs, v.oneCell' = true) :
  (Builtin.copy_ #[dT, sT] ty #[.slice (some ⟨b, o, none⟩) dLen dCap, .slice (some a) sLen sCap]).run P w = .ok (goInt k) (w.setCells b o cs) := by
 have hl := run_loadCells_list (P := P) w a cs hsrc
 have hst := run_storeCells_cells (P := P) b o cs 0 w (by simpa using hc) (by simpa using hf) h1
 rw [hn] at hl
 cases hq : P.info? elem with
 | none => simp [hq] at hs
 | some i =>
  have hi : i.size = 2 := by simpa [hq] using hs
  simp [Builtin.copy_, run_underlying hu, Builtin.lenOf, Builtin.firstCells, sizeOf, typeInfo, hq, hi, ← hk, hl, hst]
theorem QU : (Tryz.prog.info? 44).map (·.size) = some 2 := by
 obtain ⟨i0, hi0, h0, h1, h2⟩ := info_parts info
 rw [hi0]; simp [h1]
theorem shift (b off n c i vb vo vc : Nat) (cs vs : List Value) (w : World) (hi : i < n) (hroom : n + 1 ≤ c) (hn63 : n ≤ 1000000) (hvb : vb ≠ b)
  (hcl : cs.length = n * 2) (hvl : vs.length = 2)
  (hcs : ∀ j v, cs[j]? = some v → w.cell? ⟨b, off + j, none⟩ = some v) (hsp : ∀ j, j < (n + 1) * 2 → (w.cell? ⟨b, off + j, none⟩).isSome = true) (hfz : ∀ j, j < (n + 1) * 2 → w.frozen? ⟨b, off + j, none⟩ = false)
  (hvs : ∀ j v, vs[j]? = some v → w.cell? ⟨vb, vo + j, none⟩ = some v) (h1c : ∀ v ∈ cs, v.oneCell' = true) (h1v : ∀ v ∈ vs, v.oneCell' = true)
  (tA tB : TypeId) (kA kB : Nat) (hsa : w.shape? vb = some (tA, kA)) (hsb : w.shape? b = some (tB, kB)) (hkB : kB ≠ 0) (hfa : w.frozen? ⟨vb, vo, none⟩ = false) (hfe : w.frozen? ⟨vb, kA, none⟩ = false) :
  Calls Tryz.prog 262 #[.slice (some ⟨b, off, none⟩) n c, .int .i64 i, .slice (some ⟨vb, vo, none⟩) 1 vc] w fun e w' =>
   e = .returned (.slice (some ⟨b, off, none⟩) (n + 1) c) ∧ w' = (w.drew.setCells b (off + (i + 1) * 2) (cs.drop (i * 2))).setCells b (off + i * 2) vs := by
 have hz2 : ¬ ((i : Int) = (n : Int)) := by omega
 have hov : ∀ lb cb, (callFunc 300 #[.slice (some ⟨vb, vo, none⟩) 1 vc, .slice (some ⟨b, off + (i + 1) * 2, none⟩) lb cb]).run Tryz.prog w = .ok (.value (.bool false)) w := fun lb cb => by
  rw [run_callFunc_extern Tryz.func300 (by kernel_rfl) (by kernel_rfl) (by kernel_rfl) (e := Extern.SlicesOverlaps.overlaps #[24, 24] #[4]) (by kernel_rfl),
   Lib.run_overlaps_apart w 24 4 44 Tryz.underlying24 2 Oo ⟨vb, vo, none⟩ ⟨b, off + (i + 1) * 2, none⟩ 1 vc lb cb hvb tA tB kA kB hsa hsb hkB hfa hfe]
  rfl
 have hdl : (cs.drop (i * 2)).length = (n - i) * 2 := by rw [List.length_drop, hcl]; omega
 have hw1 : IntKind.i64.wrap ((i : Int) + 1) = (i : Int) + 1 := by rw [IntKind.wrap_i64]; omega
 have hw2 : IntKind.i64.wrap ((n : Int) + 1) = (n : Int) + 1 := by rw [IntKind.wrap_i64]; omega
 have hb1 : (0 : Int) ≤ (i : Int) + 1 := by omega
 have hb0 : (0 : Int) ≤ (n : Int) + 1 := by omega
 have hin : i ≤ n := by omega
 have htn : ((i : Int) + 1).toNat = i + 1 := by omega
 have htn2 : ((n : Int) + 1).toNat = n + 1 := by omega
 have hb2 : ¬ (c = i + 1) := by omega
 have hb3 : (i : Int) ≤ (n : Int) + 1 := by omega
 have hb5 : (i : Int) + 1 ≤ (n : Int) + 1 := by omega
 have hb6 : ¬ ((c : Int) < (n : Int) + 1) := by omega
 have hb7 : (n : Int) + 1 ≤ c := by omega
 have hb4 : ¬ (c = i) := by omega
 have hcp1 : ∀ ty dc sc, (Builtin.copy_ #[24, 24] ty #[.slice (some ⟨b, off + (i + 1) * 2, none⟩) (n - i) dc, .slice (some ⟨b, off + i * 2, none⟩) (n + 1 - i) sc]).run Tryz.prog w.drew = .ok (goInt ((n - i : Nat) : Int)) (w.drew.setCells b (off + (i + 1) * 2) (cs.drop (i * 2))) := fun ty dc sc =>
  ED w.drew _ _ ty 44 b (off + (i + 1) * 2) (n - i) dc ⟨b, off + i * 2, none⟩ (n + 1 - i) sc (n - i) (cs.drop (i * 2)) Tryz.underlying24 QU (by simp only [Nat.min_def]; split <;> omega) hdl
   (fun j v hj => by rw [Addr.add_lit, Nat.add_assoc]; exact hcs (i * 2 + j) v (by rwa [List.getElem?_drop] at hj))
   (fun j hj => by rw [Nat.add_assoc]; exact hsp _ (by omega)) (fun j hj => by rw [Nat.add_assoc]; exact hfz _ (by omega)) (fun v hv => h1c v (List.mem_of_mem_drop hv))
 obtain ⟨W1, hW1⟩ : ∃ W1, W1 = w.drew.setCells b (off + (i + 1) * 2) (cs.drop (i * 2)) := ⟨_, rfl⟩
 have hsp1 : ∀ k, k < (n + 1) * 2 → (W1.cell? ⟨b, off + k, none⟩).isSome = true := fun k hk => by
  rw [hW1]
  exact isSome_setCells b _ _ _ (fun j hj => by rw [Nat.add_assoc]; exact hsp _ (by omega)) _ (hsp k hk)
 have hcp2 : ∀ (W : World), (∀ x, W.cell? x = W1.cell? x) → (∀ x, W.frozen? x = W1.frozen? x) → ∀ ty dc, (Builtin.copy_ #[24, 24] ty #[.slice (some ⟨b, off + i * 2, none⟩) (n + 1 - i) dc, .slice (some ⟨vb, vo, none⟩) 1 vc]).run Tryz.prog W = .ok (goInt 1) (W.setCells b (off + i * 2) vs) := fun W hWc hWf ty dc =>
  ED W _ _ ty 44 b (off + i * 2) (n + 1 - i) dc ⟨vb, vo, none⟩ 1 vc 1 vs Tryz.underlying24 QU (by simp only [Nat.min_def]; split <;> omega) (by omega)
   (fun j v hj => by
    rw [Addr.add_lit, hWc, hW1, World.cell?_setCells_out b _ _ _ _ (fun h _ => absurd h hvb)]
    exact hvs j v hj)
   (fun j hj => by rw [hWc, Nat.add_assoc]; exact hsp1 _ (by omega)) (fun j hj => by rw [hWf, hW1, World.frozen?_setCells, Nat.add_assoc]; exact hfz _ (by omega)) h1v
 rw [← hW1] at hcp1
 have mixed : Tryz.prog.follows .mixedOrders = true := rfl
 go_enter Tryz.func262, Tryz.ntmps262
 go_wp2_with (simp only [hov])
 go_region_law_o (refine step_copy_runI rfl _ _ 24 24 rfl _ _ (by simp [Act.eval, Act.put]) (by simp [Act.eval, Act.put]) (hcp1 _ _ _) ?_)
 go_wp2_with (at_builtin; refine wpList_copy_runI _ rfl _ _ 24 24 rfl _ _ rfl rfl (hcp2 _ (fun _ => rfl) (fun _ => rfl) _ _) ?_)
 go_ret
 first | exact ⟨rfl, rfl⟩ | exact ⟨rfl, by rw [hW1]⟩
theorem endRoom (b off n c vb vo vc : Nat) (vs : List Value) (w : World) (hroom : n + 1 ≤ c) (hn63 : n ≤ 1000000)
  (hvl : vs.length = 2) (hsp : ∀ j, j < 2 → (w.cell? ⟨b, off + n * 2 + j, none⟩).isSome = true) (hfz : ∀ j, j < 2 → w.frozen? ⟨b, off + n * 2 + j, none⟩ = false)
  (hvs : ∀ j v, vs[j]? = some v → w.cell? ⟨vb, vo + j, none⟩ = some v) (h1v : ∀ v ∈ vs, v.oneCell' = true) :
  Calls Tryz.prog 262 #[.slice (some ⟨b, off, none⟩) n c, .int .i64 n, .slice (some ⟨vb, vo, none⟩) 1 vc] w fun e w' =>
   e = .returned (.slice (some ⟨b, off, none⟩) (n + 1) c) ∧ w' = w.setCells b (off + n * 2) vs := by
 have mixed : Tryz.prog.follows .mixedOrders = true := rfl
 obtain ⟨i0, hi0, hz0, hzs, hzb⟩ := info_parts info
 have hsrc : Src Tryz.prog i0.size 24 (.slice (some ⟨vb, vo, none⟩) 1 vc) 1 vs w := by
  rw [hzs]
  exact Src.ofSlice w Tryz.underlying24 ⟨vb, vo, none⟩ 1 vc vs (by omega) (fun j u hj => by rw [Addr.add_lit]; exact hvs j u hj) h1v
 go_enter Tryz.func262, Tryz.ntmps262
 go_wp2_with (at_builtin; refine wpList_append_room_src _ rfl _ _ 24 24 rfl 44 i0 Tryz.underlying24 hi0 b off n c rfl _ rfl 1 vs hsrc hroom (by rw [hvl, hzs]; exact hsp) (by rw [hvl, hzs]; exact hfz) ?_)
 go_ret
 exact ⟨rfl, rfl⟩
theorem endGrow (base : Option Addr) (n c vb vo vc : Nat) (cs vs : List Value) (w : World) (hnc : n ≤ c) (hroom : c < n + 1) (hbig : (n + 1) * 40 ≤ 140737488355328)
  (hcl : cs.length = n * 2) (hvl : vs.length = 2) (hnil : base = none → n = 0)
  (hcs : ∀ a, base = some a → ∀ j v, cs[j]? = some v → w.cell? (a.add j) = some v)
  (hvs : ∀ j v, vs[j]? = some v → w.cell? ⟨vb, vo + j, none⟩ = some v) (h1v : ∀ v ∈ vs, v.oneCell' = true) :
  Calls Tryz.prog 262 #[.slice base n c, .int .i64 n, .slice (some ⟨vb, vo, none⟩) 1 vc] w fun e w' =>
   e = .returned (.slice (some ⟨w.heap.size, 0, none⟩) (n + 1) (grownCap w (n + 1) c 44)) ∧
   w' = w.drew.alloc (.cells ((cs ++ vs).toArray ++ Builtin.zeroCells zV.cells (grownCap w (n + 1) c 44 - (n + 1))) 44) := by
 have mixed : Tryz.prog.follows .mixedOrders = true := rfl
 obtain ⟨i0, hi0, hz0, hzs, hzb⟩ := info_parts info
 have hsrc : Src Tryz.prog i0.size 24 (.slice (some ⟨vb, vo, none⟩) 1 vc) 1 vs w := by
  rw [hzs]
  exact Src.ofSlice w Tryz.underlying24 ⟨vb, vo, none⟩ 1 vc vs (by omega) (fun j u hj => by rw [Addr.add_lit]; exact hvs j u hj) h1v
 have hold : (Builtin.firstCells i0.size n (.slice base n c)).run Tryz.prog w.drew = .ok cs.toArray w.drew := by
  rw [hzs]
  cases base with
  | none =>
   have h0 := hnil rfl
   subst h0
   rw [List.length_eq_zero_iff.1 (by omega : cs.length = 0)]
   exact run_firstCells_none w.drew 2 0 0 c
  | some a => exact run_firstCells_some w.drew 2 n a n c cs (by omega) (fun j v hj => hcs a rfl j v hj)
 have hrun : ∀ ty, (Builtin.append_ #[24, 24] ty #[.slice base n c, .slice (some ⟨vb, vo, none⟩) 1 vc]).run Tryz.prog w = _ := fun ty =>
  run_append_grow_src w 24 24 ty 44 i0 _ Tryz.underlying24 hi0 hz0 base n c cs hold _ 1 vs hsrc hroom (by omega) (by rw [hzb]; exact growslice_fits hroom hbig)
 go_enter Tryz.func262, Tryz.ntmps262
 cases base with
 | none =>
  have h0 := hnil rfl
  subst h0
  go_wp2_with (at_builtin; refine Lib.wpList_append_run _ rfl _ _ _ _ rfl _ _ rfl rfl _ _ (hrun _) ?_)
  go_ret
  exact ⟨rfl, rfl⟩
 | some a =>
  obtain ⟨ab, ao, asp⟩ := a
  go_wp2_with (at_builtin; refine Lib.wpList_append_run _ rfl _ _ _ _ rfl _ _ rfl rfl _ _ (hrun _) ?_)
  all_goals (go_ret; exact ⟨rfl, rfl⟩)
theorem grow (b off n c i vb vo vc : Nat) (cs vs : List Value) (w : World) (hi : i < n) (hnc : n ≤ c) (hroom : c < n + 1) (hbig : (n + 1) * 40 ≤ 140737488355328)
  (hcl : cs.length = n * 2) (hvl : vs.length = 2)
  (hcs : ∀ j v, cs[j]? = some v → w.cell? ⟨b, off + j, none⟩ = some v)
  (hvs : ∀ j v, vs[j]? = some v → w.cell? ⟨vb, vo + j, none⟩ = some v) (h1c : ∀ v ∈ cs, v.oneCell' = true) (h1v : ∀ v ∈ vs, v.oneCell' = true) :
  Calls Tryz.prog 262 #[.slice (some ⟨b, off, none⟩) n c, .int .i64 i, .slice (some ⟨vb, vo, none⟩) 1 vc] w fun e w' =>
   e = .returned (.slice (some ⟨w.heap.size, 0, none⟩) (n + 1) (grownCap w (n + 1) c 44)) ∧
   w' = (((w.alloc (.cells ((cs.take (i * 2)).toArray ++ Builtin.zeroCells zV.cells (n + 1 - i) ++ Builtin.zeroCells zV.cells (grownCap w (n + 1) c 44 - (n + 1))) 44)).drew.setCells w.heap.size (i * 2) vs).drew).setCells w.heap.size ((i + 1) * 2) (cs.drop (i * 2)) := by
 have mixed : Tryz.prog.follows .mixedOrders = true := rfl
 obtain ⟨i0, hi0, hz0, hzs, hzb⟩ := info_parts info
 have hz2 : ¬ ((i : Int) = (n : Int)) := by omega
 have hz3 : (c : Int) < (n : Int) + 1 := by omega
 have hbw : b < w.heap.size := block_lt_of_cell (hcs 0 _ (List.getElem?_eq_getElem (by omega)))
 have hvw : vb < w.heap.size := block_lt_of_cell (hvs 0 _ (List.getElem?_eq_getElem (by omega)))
 have hkk : (n : Int) + 1 - (i : Int) = ((n + 1 - i : Nat) : Int) := by omega
 have hik : i + (n + 1 - i) = n + 1 := by omega
 have hold : (Builtin.firstCells i0.size i (.slice (some ⟨b, off, none⟩) i c)).run Tryz.prog w.drew = .ok (cs.take (i * 2)).toArray w.drew := by
  rw [hzs]
  exact run_firstCells_some w.drew 2 i ⟨b, off, none⟩ i c (cs.take (i * 2)) (by rw [List.length_take]; omega) (fun j v hj => by
   rw [Addr.add_lit]
   rw [List.getElem?_take] at hj
   split at hj
   ·exact hcs j v hj
   ·cases hj)
 have hrz : ∀ ty, (Builtin.append_ #[24, 3] ty #[.slice (some ⟨b, off, none⟩) i c, .int .i64 ((n : Int) + 1 - (i : Int))]).run Tryz.prog w =
   .ok (.slice (some ⟨w.heap.size, 0, none⟩) (n + 1) (grownCap w (n + 1) c 44)) (w.drew.alloc (.cells ((cs.take (i * 2)).toArray ++ Builtin.zeroCells zV.cells (n + 1 - i) ++ Builtin.zeroCells zV.cells (grownCap w (n + 1) c 44 - (n + 1))) 44)) := fun ty => by
  have h := Lib.run_append_grow_zeros w 24 3 ty 44 i0 _ .i64 .i64 Tryz.underlying24 Tryz.underlying3 hi0 hz0 (some ⟨b, off, none⟩) i c (cs.take (i * 2)) hold (n + 1 - i) (by omega) (by omega) (by omega) (by omega) (by rw [hzb]; omega) (by rw [hzb, hik]; exact growslice_fits hroom hbig)
  rw [hik] at h
  rw [hkk]
  exact h
 obtain ⟨G, hG⟩ : ∃ G, G = grownCap w (n + 1) c 44 := ⟨_, rfl⟩
 obtain ⟨ROW, hROW⟩ : ∃ ROW : Array Value, ROW = (cs.take (i * 2)).toArray ++ Builtin.zeroCells zV.cells (n + 1 - i) ++ Builtin.zeroCells zV.cells (G - (n + 1)) := ⟨_, rfl⟩
 rw [← hG] at hrz ⊢
 rw [← hROW] at hrz ⊢
 have hRl : (n + 1) * 2 ≤ ROW.size := by
  rw [hROW]
  simp [Builtin.zeroCells, Value.cells]
  omega
 obtain ⟨W1, hW1⟩ : ∃ W1, W1 = w.drew.alloc (.cells ROW 44) := ⟨_, rfl⟩
 rw [← hW1] at hrz
 have hN : ∀ j, j < (n + 1) * 2 → (W1.cell? ⟨w.heap.size, j, none⟩).isSome = true := fun j hj => by
  rw [hW1, World.cell?_alloc_at (w := w.drew) ROW _ w.heap.size j rfl, Array.getElem?_eq_getElem (by omega)]; rfl
 have hNf : ∀ j, W1.frozen? ⟨w.heap.size, j, none⟩ = false := fun j => by rw [hW1]; exact World.frozen?_alloc_at (w := w.drew) ROW _ w.heap.size j rfl
 have hOb : ∀ j v, w.cell? ⟨b, j, none⟩ = some v → W1.cell? ⟨b, j, none⟩ = some v := fun j v h => by rw [hW1, World.cell?_alloc_past (w := w.drew) _ b j hbw]; exact h
 have hOv : ∀ j v, w.cell? ⟨vb, j, none⟩ = some v → W1.cell? ⟨vb, j, none⟩ = some v := fun j v h => by rw [hW1, World.cell?_alloc_past (w := w.drew) _ vb j hvw]; exact h
 have hcpA : ∀ (W : World), (∀ x, W.cell? x = W1.cell? x) → (∀ x, W.frozen? x = W1.frozen? x) → ∀ ty dc, (Builtin.copy_ #[24, 24] ty #[.slice (some ⟨w.heap.size, i * 2, none⟩) (n + 1 - i) dc, .slice (some ⟨vb, vo, none⟩) 1 vc]).run Tryz.prog W = .ok (goInt 1) (W.setCells w.heap.size (i * 2) vs) := fun W hWc hWf ty dc =>
  ED W _ _ ty 44 w.heap.size (i * 2) (n + 1 - i) dc ⟨vb, vo, none⟩ 1 vc 1 vs Tryz.underlying24 QU (by simp only [Nat.min_def]; split <;> omega) (by omega)
   (fun j v hj => by rw [Addr.add_lit, hWc]; exact hOv _ v (hvs j v hj))
   (fun j hj => by rw [hWc]; exact hN _ (by omega)) (fun j hj => by rw [hWf]; exact hNf _) h1v
 have hGn : n + 1 ≤ G := by rw [hG]; exact grownCap_ge w _ _ _
 have hG63 : G ≤ 9223372036854775807 := by
  have := grownCap_le_maxLen w (n + 1) c 44 (by unfold maxLen; omega)
  rw [← hG] at this
  unfold maxLen at this
  omega
 have hGi : ¬ (G = i) := by omega
 have hGim : ¬ (G = i + 1) := by omega
 have hci : ¬ (c = i) := by omega
 have hbN : b ≠ w.heap.size := by omega
 have hdl : (cs.drop (i * 2)).length = (n - i) * 2 := by rw [List.length_drop, hcl]; omega
 have hcpB : ∀ (W : World), (∀ x, W.cell? x = (W1.setCells w.heap.size (i * 2) vs).cell? x) → (∀ x, W.frozen? x = (W1.setCells w.heap.size (i * 2) vs).frozen? x) → ∀ ty dc sc, (Builtin.copy_ #[24, 24] ty #[.slice (some ⟨w.heap.size, (i + 1) * 2, none⟩) (n - i) dc, .slice (some ⟨b, off + i * 2, none⟩) (n - i) sc]).run Tryz.prog W = .ok (goInt ((n - i : Nat) : Int)) (W.setCells w.heap.size ((i + 1) * 2) (cs.drop (i * 2))) := fun W hWc hWf ty dc sc =>
  ED W _ _ ty 44 w.heap.size ((i + 1) * 2) (n - i) dc ⟨b, off + i * 2, none⟩ (n - i) sc (n - i) (cs.drop (i * 2)) Tryz.underlying24 QU (by simp only [Nat.min_def]; split <;> omega) hdl
   (fun j v hj => by
    rw [Addr.add_lit, hWc, World.cell?_setCells_out _ _ _ _ _ (fun h _ => absurd h hbN), Nat.add_assoc]
    exact hOb _ v (hcs (i * 2 + j) v (by rwa [List.getElem?_drop] at hj)))
   (fun j hj => by rw [hWc]; exact isSome_setCells _ _ _ _ (fun t ht => hN _ (by omega)) _ (hN _ (by omega)))
   (fun j hj => by rw [hWf, World.frozen?_setCells]; exact hNf _) (fun v hv => h1c v (List.mem_of_mem_drop hv))
 subst hW1
 have hE1 : ∀ x, ((w.alloc (.cells ROW 44)).drew).cell? x = (w.drew.alloc (.cells ROW 44)).cell? x := fun x => rfl
 have hE2 : ∀ x, ((w.alloc (.cells ROW 44)).drew).frozen? x = (w.drew.alloc (.cells ROW 44)).frozen? x := fun x => rfl
 have hF1 : ∀ x, (((w.alloc (.cells ROW 44)).drew.setCells w.heap.size (i * 2) vs).drew).cell? x = ((w.drew.alloc (.cells ROW 44)).setCells w.heap.size (i * 2) vs).cell? x := fun x => rfl
 have hF2 : ∀ x, (((w.alloc (.cells ROW 44)).drew.setCells w.heap.size (i * 2) vs).drew).frozen? x = ((w.drew.alloc (.cells ROW 44)).setCells w.heap.size (i * 2) vs).frozen? x := fun x => rfl
 have hw1 : IntKind.i64.wrap ((i : Int) + 1) = (i : Int) + 1 := by rw [IntKind.wrap_i64]; omega
 have hw2 : IntKind.i64.wrap ((n : Int) + 1) = (n : Int) + 1 := by rw [IntKind.wrap_i64]; omega
 have hw3 : IntKind.i64.wrap ((n : Int) + 1 - i) = (n : Int) + 1 - i := by rw [IntKind.wrap_i64]; omega
 have hb1 : (0 : Int) ≤ (i : Int) + 1 := by omega
 have hin : i ≤ n := by omega
 have htn : ((i : Int) + 1).toNat = i + 1 := by omega
 have hb3 : (i : Int) ≤ (n : Int) := by omega
 clear hkk hik hold hROW hG hRl
 go_enter Tryz.func262, Tryz.ntmps262
 go_wp2_with (first
  | (at_builtin; refine Lib.wpList_append_run _ rfl _ _ _ _ rfl _ _ rfl rfl _ _ (hrz _) ?_)
  | (at_builtin; refine wpList_copy_runI _ rfl _ _ 24 24 rfl _ _ rfl rfl (hcpA _ hE1 hE2 _ _) ?_)
  | (at_builtin; refine wpList_copy_runI _ rfl _ _ 24 24 rfl _ _ rfl rfl (hcpB _ (fun _ => rfl) (fun _ => rfl) _ _ _) ?_))
 go_region_law_o (refine step_copy_runI rfl _ _ 24 24 rfl (.slice (some ⟨w.heap.size, (i + 1) * 2, none⟩) (n - i) (G - (i + 1))) (.slice (some ⟨b, off + i * 2, none⟩) (n - i) (c - i)) (by simp [Act.eval, Act.put]) (by simp [Act.eval, Act.put]) (hcpB _ hF1 hF2 3 (G - (i + 1)) (c - i)) ?_)
 go_wp2
 go_ret
 exact ⟨rfl, rfl⟩
end Go.Proofs.InsAttr
end
section
namespace Go.Proofs.Try1
open Go Go.Lite
theorem C9 : jB Tryz.prog 262 (fK 2) :=
 wL (T := 44) (zV := InsAttr.zV) (z := [.str [], .slc none 0]) (bytes := 40) (fun _ => .cons (VR.str .empty) (.cons .slcN .nil)) rfl (by decide)
  (enters Tryz.func262 (by kernel_rfl) (by kernel_rfl))
  InsAttr.shift InsAttr.endRoom InsAttr.endGrow InsAttr.grow
end Go.Proofs.Try1
end
section
namespace Go.Lite
open Go
variable [Draws]
theorem Cc {P : Program} {g : FuncId} {fn : Func} (hf : P.funcs[g]? = some fn) (hname : (fn.name == "runtime.NumGoroutine") = false) (hb : fn.body.isNone = true) (hn : Extern.findNext fn = none) (he : Extern.find fn = some Extern.BytealgIndexByte.indexByte) : jB P g tZ := by
 intro args H r H' h μ w us hs hv
 unfold tZ at h
 split at h
 ·rename_i s c
  cases h
  obtain ⟨u, u', rfl, h1, h2⟩ := hv.two
  obtain ⟨x, rfl, rfl⟩ := h1.str_inv
  have h3 := h2.int_inv
  subst h3
  refine .inl ⟨.int .i64 (Lib.indexByte x.data.toList c.toNat.toUInt8), w, ?_, μ, .refl hs, .int _ _⟩
  rw [run_callFunc_extern hf hname hb hn he, Lib.run_indexByteString]
  rfl
 ·cases h
end Go.Lite
end
section
namespace Go.Proofs.Try1
open Go Go.Lite
theorem Nb : jB Tryz.prog 341 tZ :=
 Cc Tryz.func341 (by kernel_rfl) (by kernel_rfl) rfl rfl
theorem progOk : ProgOk Tryz.prog C := rY mixed ok fun g pr h => by
 change primTab g = some pr at h
 unfold primTab at h
 split at h
 ·rename_i hg; subst hg; cases h; exact ND
 split at h
 ·rename_i hg; subst hg; cases h; exact FH
 split at h
 ·rename_i hg; subst hg; cases h; exact C9
 split at h
 ·rename_i hg; subst hg; cases h; exact HY
 split at h
 ·rename_i hg; subst hg; cases h; exact Nb
 cases h
end Go.Proofs.Try1
end
