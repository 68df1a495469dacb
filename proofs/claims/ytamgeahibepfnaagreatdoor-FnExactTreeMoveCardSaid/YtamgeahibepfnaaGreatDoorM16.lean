/- Part 16 of the proof of a law: the interpreter, its soundness, and what functions of the program compute over it. Conditions: none but those that each theorem names. -/
import Derived.Test.YtamgeahibepfnaaGreatDoorM05
import Derived.Laws.Externs
import Derived.CallsIn
import Derived.Sort.EncStr
import Derived.Sort.Grow
import Derived.Test.YtamgeahibepfnaaGreatDoorM07
import Derived.WalkKit
import Derived.Test.YtamgeahibepfnaaGreatDoorM06
import Derived.Test.YtamgeahibepfnaaGreatDoorProg
import Derived.KernelRfl
import Derived.Test.YtamgeahibepfnaaGreatDoorM08
import Derived.RangeFuncNested
import Derived.RangeFuncBound
import Derived.RangeFuncCalls
import Derived.RangeFuncLeaves
import Derived.Shelf.Abstract
import Derived.Shelf.RegionOpen
import Derived.OwnWalkIn
import Derived.TacticsInMore
import Derived.LoopNIn
import Derived.LoopIn

set_option linter.all false
set_option maxRecDepth 20000
set_option maxHeartbeats 40000000
section
namespace Go.Lite
open Go
variable [Draws]
theorem VL.one {μ : Mu} {v : V} {us : Array Value} (h : VL μ [v] us.toList) : ∃ u, us = #[u] ∧ VR μ v u := by
 have hl := h.length
 match us, hl, h with
 | ⟨[u]⟩, _, h => exact ⟨u, rfl, h.get 0 v u rfl rfl⟩
theorem VL.two {μ : Mu} {v v' : V} {us : Array Value} (h : VL μ [v, v'] us.toList) : ∃ u u', us = #[u, u'] ∧ VR μ v u ∧ VR μ v' u' := by
 have hl := h.length
 match us, hl, h with
 | ⟨[u, u']⟩, _, h => exact ⟨u, u', rfl, h.get 0 v u rfl rfl, h.get 1 v' u' rfl rfl⟩
theorem JZ {P : Program} {g : FuncId} {fn : Func} (hf : P.funcs[g]? = some fn) (hname : (fn.name == "runtime.NumGoroutine") = false) (hb : fn.body.isNone = true) (hn : Extern.findNext fn = none) (he : Extern.find fn = some Extern.BytealgCompare.compare) : jT P g qg := by
 intro args H r H' h μ w us hs hv
 unfold qg at h
 split at h
 ·rename_i a b
  cases h
  obtain ⟨u, u', rfl, h1, h2⟩ := hv.two
  obtain ⟨x, rfl, rfl⟩ := h1.str_inv
  obtain ⟨y, rfl, rfl⟩ := h2.str_inv
  refine .inl ⟨.int .i64 (Lib.compareBytes x.data.toList y.data.toList), w, ?_, μ, .refl hs, .int _ _⟩
  rw [run_callFunc_extern hf hname hb hn he, Lib.run_compareString]
  rfl
 ·cases h
theorem Ig {P : Program} {g : FuncId} : jT P g Hl := by
 intro args H r H' h
 cases h
theorem ut : ∀ {cs : List V} {l : List (List UInt8)}, strsOf cs = some l → cs = l.map V.str
 | [], l, h => by cases h; rfl
 | c :: cs, l, h => by
  unfold strsOf at h
  split at h
  ·rename_i he; cases he
  ·rename_i s vs he
   cases he
   split at h
   ·rename_i l' hl
    cases h
    rw [List.map_cons, ← ut hl]
   ·cases h
  ·cases h
theorem zT {cells l : List V} {o n : Nat} (h : (cells.drop o).take n = l) {j : Nat} (hj : j < n) : cells[o + j]? = l[j]? := by
 subst h
 rw [List.getElem?_take_of_lt hj, List.getElem?_drop]
theorem HGoes.garbage {H : List Ob} {μ : Mu} {w : World} (h : HSim H μ w) (n : Nat) (os : Array Obj) : HGoes H μ w H μ (Sort.grow (Sort.ahead w n) os) := by
 have hsame : ∀ b, b < w.heap.size → (Sort.grow (Sort.ahead w n) os).heap[b]? = w.heap[b]? := fun b hb => by
  show (w.heap ++ os)[b]? = _
  rw [Array.getElem?_append_left hb]
 have hsz : w.heap.size ≤ (Sort.grow (Sort.ahead w n) os).heap.size := by
  show _ ≤ (w.heap ++ os).size
  rw [Array.size_append]; omega
 exact ⟨h.world (fun id o m h1 h2 h3 => .of_heap (hsame _ (lw h id o m h1 h2 h3))) hsz, μ.le_refl, ⟨hsz, fun b hb _ => hsame b hb, fun b hb => .inl hb, rfl, rfl, rfl, fun _ => Nat.le_add_right _ _⟩, Lives.refl _ _ _⟩
theorem uw {w : World} {blk off : Nat} {d d' : Array (List UInt8)} (h0 : Sort.Holds Go.Proofs.encStr w blk off d) (hs : d'.size = d.size) : Wrote w (Sort.putRow Go.Proofs.encStr w blk off d') blk off (d'.toList.map Go.Proofs.encStr) where
 size := by simp
 os := rfl
 tape := rfl
 drawn := rfl
 output := rfl
 other b' hb := by
  show (w.heap.modify blk _)[b']? = _
  rw [Array.getElem?_modify, if_neg (fun e => hb e.symm)]
 cell j := by
  rw [List.length_map, Array.length_toList]
  split
  ·rename_i hj
   have := Sort.cell?_putRow Go.Proofs.encStr w blk off d d' h0 hs (j - off) (by omega)
   rw [show off + (j - off) = j by omega] at this
   rw [this, List.getElem?_map, Array.getElem?_toList, Array.getElem?_eq_getElem (by omega), getElem!_pos d' (j - off) (by omega)]
   rfl
  ·rename_i hj
   exact Sort.cell?_putRow_other Go.Proofs.encStr w blk off d' ⟨blk, j, none⟩ (by simp only; omega)
 frozen j := by simp
theorem Gz {P : Program} {g : FuncId} (hcall : ∀ us w, (callFunc g us).run P w = .ok (.enter g us) w)
  (hsort : ∀ (blk off cap : Nat) (zs : List (List UInt8)) (w : World), Sort.Holds Go.Proofs.encStr w blk off zs.toArray → blk < w.heap.size → zs.length < 4611686018427387904 → Calls P g #[.slice (some ⟨blk, off, none⟩) zs.length cap] w fun e w' =>
   e = .returned (.tuple #[]) ∧ ∃ n os, w' = Sort.grow (Sort.putRow Go.Proofs.encStr (Sort.ahead w n) blk off (zs.mergeSort fun x y => decide (x ≤ y)).toArray) os)
  (hnone : ∀ (p : Option Addr) (cap : Nat) (w : World), Calls P g #[.slice p 0 cap] w fun e w' => e = .returned (.tuple #[]) ∧ w' = w) : jT P g kS := by
 intro args H r H' h μ w us hs hv
 have htup : ∀ μ : Mu, VR μ (.tup []) (.tuple #[]) := fun μ => VR.tup [] #[] rfl (fun i v u h _ => by simp at h)
 unfold kS at h
 split at h
 case h_2 => cases h
 rename_i p n
 obtain ⟨u, rfl, hu⟩ := hv.one
 refine .inr ⟨hcall _ _, ?_⟩
 split at h
 ·rename_i hn
  subst hn
  cases h
  have : ∃ q c, u = .slice q 0 c := by
   cases p with
   | none => obtain ⟨rfl, _⟩ := hu.slcN_inv; exact ⟨_, _, rfl⟩
   | some p =>
    obtain ⟨id, off⟩ := p
    obtain ⟨m, _, ⟨c, _, _, _, rfl⟩ | ⟨_, _, a, rfl⟩⟩ := hu.slc_inv <;> exact ⟨_, _, rfl⟩
  obtain ⟨q, c, rfl⟩ := this
  refine (hnone q c w).mono ?_
  rintro e w' ⟨rfl, rfl⟩
  exact ⟨_, rfl, μ, .refl hs, htup μ⟩
 ·rename_i hn
  split at h
  case h_2 => cases h
  rename_i id off
  split at h
  case h_2 => cases h
  rename_i es cells ho
  split at h
  case isFalse => cases h
  rename_i hc
  obtain ⟨rfl, hlen, hmax⟩ := hc
  split at h
  case h_2 => cases h
  rename_i ss hss
  cases h
  have hcs := ut hss
  have hssl : ss.length = n := by
   have := congrArg List.length hcs
   simp at this
   omega
  obtain ⟨m, hm, ⟨c, hc1, hc2, hc3, rfl⟩ | ⟨h0, _⟩⟩ := hu.slc_inv
  rotate_left
  ·exact absurd h0 hn
  obtain ⟨g1, g2, g3, g4, g5, g6⟩ := hs.obj id _ m ho hm
  obtain ⟨g6, g7⟩ := g6 rfl
  have hget : ∀ j, j < ss.length → cells[off + j]? = some (.str ss[j]!) := fun j hj => by
   rw [zT hcs (show j < n by omega), List.getElem?_map, List.getElem?_eq_getElem hj]
   simp [hj]
  have hH : Sort.Holds Go.Proofs.encStr w m.blk (m.base + off) ss.toArray := fun j hj => by
   simp only [List.size_toArray] at hj
   obtain ⟨u, hu1, hu2⟩ := g4 (off + j) _ (hget j hj)
   obtain ⟨b, rfl, hb⟩ := hu2.str_inv
   have hbe : Value.string b = Go.Proofs.encStr ss[j]! := by
    show _ = Value.string ⟨ss[j]!.toArray⟩
    rw [hb]
   refine ⟨?_, ?_⟩
   ·rw [Nat.add_assoc, hu1, hbe]
    congr 2
    simp [hj]
   ·exact (g7 (m.base + off + j) (by omega) (by omega)).2
  have hsort' := hsort m.blk (m.base + off) c ss w hH g5 (by omega)
  rw [hssl] at hsort'
  refine hsort'.mono ?_
  rintro e w' ⟨rfl, k, os, rfl⟩
  refine ⟨_, rfl, μ, ?_, htup μ⟩
  have hlen2 : (ss.mergeSort fun x y => decide (x ≤ y)).length = ss.length := List.length_mergeSort ss
  have hwr := uw (d' := (ss.mergeSort fun x y => decide (x ≤ y)).toArray) hH (by simp [hlen2])
  have hvl : VL μ ((ss.mergeSort fun x y => decide (x ≤ y)).map V.str) (((ss.mergeSort fun x y => decide (x ≤ y)).toArray).toList.map Go.Proofs.encStr) := by
   refine VL.of_get (by simp) fun i v u h1 h2 => ?_
   simp only [List.getElem?_map] at h1 h2
   cases hx : (ss.mergeSort fun x y => decide (x ≤ y))[i]? with
   | none => rw [hx] at h1; cases h1
   | some s =>
    rw [hx] at h1 h2
    cases h1
    cases h2
    exact VR.str ⟨s.toArray⟩
  have hgo := HGoes.write hs ho hm hwr hvl (by rw [List.length_map, hlen2]; omega)
  rw [Sort.putRow_ahead]
  exact hgo.trans (HGoes.garbage hgo.sim k os)
end Go.Lite
end
section
namespace Go.Proofs.Try1
open Go Go.Lite
theorem xU {L : List Nat} {n : Nat} {P : Program} {f : FuncId} {args : Array Value} {w : World} {R : Ending → World → Prop} (h : ∀ D, CallsIn (Fence.list L (some D)) n P f args w R) : Calls P f args w R := fun cs =>
 let ⟨e, w', fr, r, s, x⟩ := (h (cs.length + 1 + n)).2 cs (fun d hd => by cases hd; omega)
 ⟨e, w', fr, r, s.comes, x⟩
theorem Ry [Draws] : jT Tryz.prog 382 qg :=
 JZ Tryz.func382 (by kernel_rfl) (by kernel_rfl) rfl rfl
theorem enters {g : Nat} {fn : Func} (h1 : Tryz.prog.funcs[g]? = some fn) (h2 : (fn.name == "runtime.NumGoroutine") = false) (h3 : fn.body.isNone = false) (us : Array Value) (w : World) : (callFunc g us).run Tryz.prog w = .ok (.enter g us) w := by
 simp [callFunc, h1, (by simpa using h2 : ¬ fn.name = "runtime.NumGoroutine")]
 intro hb
 rw [hb] at h3
 cases h3
end Go.Proofs.Try1
end
section
namespace Go.Proofs.Try0
open Go Go.Lite
def locTab : List (Nat × List Nat) := [(170, [3, 5])]
def ordTab : List (Nat × List (Nat × Hint)) := [(170, [(4, ⟨[0, 1, 2, 3, 4, 5, 6, 7, 8, 9, 10], [], [], [(0, 3), (2, 5), (6, 5), (10, 3)], [], []⟩)])]
def fids : List Nat := [77, 184, 207, 211, 238, 250, 289, 290, 313, 324, 338, 349, 359]
noncomputable def primTab : Nat → Option (List V → List Ob → Option (V × List Ob)) := fun f => if f = 382 then some qg else none
noncomputable def tabs : Tabs := { locs := fun f => (locTab.lookup f).getD [], ord := fun f id => ((ordTab.lookup f).getD []).lookup id, prim := primTab, fids := fids }
theorem mixed : Tryz.prog.follows .mixedOrders = true := rfl
theorem ok : Pg Tryz.prog tabs = true := by decide +kernel
noncomputable def C : Ctx := ctxOf Tryz.prog tabs
@[simp] theorem ty3 : C.ty 3 = ⟨.int .i64, 1, 8, [.int .i64 0]⟩ := by kernel_rfl
@[simp] theorem ty4 : C.ty 4 = ⟨.bool, 1, 1, [.bool false]⟩ := by kernel_rfl
@[simp] theorem ty5 : C.ty 5 = ⟨.int .u8, 1, 1, [.int .u8 0]⟩ := by kernel_rfl
@[simp] theorem ty9 : C.ty 9 = ⟨.str, 1, 16, [.str []]⟩ := by kernel_rfl
@[simp] theorem Vj : C.ty 35 = ⟨.slice 102, 1, 24, [.slc none 0]⟩ := by kernel_rfl
@[simp] theorem Gm : C.ty 102 = ⟨.struct [(0, 9), (1, 9)], 2, 32, [.str [], .str []]⟩ := by kernel_rfl
@[simp] theorem acJ : C.ty 242 = ⟨.slice 5, 1, 24, [.slc none 0]⟩ := by kernel_rfl
noncomputable def lY : Code := match Tryz.f77.body with | some c => c | none => .skip
theorem UO : C.fids 77 = true := by kernel_rfl
theorem Vr : Tryz.f77.body = some lY := rfl
theorem Vl : C.prim 77 = none := rfl
theorem Vo : C.funcs 77 = some Tryz.f77 := Tryz.func77
theorem Vm {a : List V} {H : List Ob} {R : V → List Ob → Prop} : Ret C 77 a H R ↔ WP C 77 lY ⟨af a, 0, H⟩ (aF C Tryz.f77 H R) := ah Vl UO Vo Vr
@[simp] theorem UR : C.locs 77 = [] := by kernel_rfl
noncomputable def je : Code := match Tryz.f184.body with | some c => c | none => .skip
theorem Si : C.fids 184 = true := by kernel_rfl
theorem Qe : Tryz.f184.body = some je := rfl
theorem OM : C.prim 184 = none := rfl
theorem Px : C.funcs 184 = some Tryz.f184 := Tryz.func184
theorem Pv {a : List V} {H : List Ob} {R : V → List Ob → Prop} : Ret C 184 a H R ↔ WP C 184 je ⟨af a, 0, H⟩ (aF C Tryz.f184 H R) := ah OM Si Px Qe
@[simp] theorem Ul : C.locs 184 = [] := by kernel_rfl
noncomputable def jc : Code := match Tryz.f207.body with | some c => c | none => .skip
theorem Qw : C.fids 207 = true := by kernel_rfl
theorem QB : Tryz.f207.body = some jc := rfl
theorem RZ : C.prim 207 = none := rfl
theorem QA : C.funcs 207 = some Tryz.f207 := Tryz.func207
theorem PO {a : List V} {H : List Ob} {R : V → List Ob → Prop} : Ret C 207 a H R ↔ WP C 207 jc ⟨af a, 0, H⟩ (aF C Tryz.f207 H R) := ah RZ Qw QA QB
@[simp] theorem Tt : C.locs 207 = [] := by kernel_rfl
noncomputable def jV : Code := match Tryz.f211.body with | some c => c | none => .skip
theorem Qv : C.fids 211 = true := by kernel_rfl
theorem PS : Tryz.f211.body = some jV := rfl
theorem RH : C.prim 211 = none := rfl
theorem SA : C.funcs 211 = some Tryz.f211 := Tryz.func211
theorem RY {a : List V} {H : List Ob} {R : V → List Ob → Prop} : Ret C 211 a H R ↔ WP C 211 jV ⟨af a, 0, H⟩ (aF C Tryz.f211 H R) := ah RH Qv SA PS
@[simp] theorem Tj : C.locs 211 = [] := by kernel_rfl
noncomputable def pW : Code := match Tryz.f238.body with | some c => c | none => .skip
theorem QV : C.fids 238 = true := by kernel_rfl
theorem OE : Tryz.f238.body = some pW := rfl
theorem O4 : C.prim 238 = none := rfl
theorem QW : C.funcs 238 = some Tryz.f238 := Tryz.func238
theorem RJ {a : List V} {H : List Ob} {R : V → List Ob → Prop} : Ret C 238 a H R ↔ WP C 238 pW ⟨af a, 0, H⟩ (aF C Tryz.f238 H R) := ah O4 QV QW OE
@[simp] theorem TR : C.locs 238 = [] := by kernel_rfl
noncomputable def jQ : Code := match Tryz.f250.body with | some c => c | none => .skip
theorem QF : C.fids 250 = true := by kernel_rfl
theorem OG : Tryz.f250.body = some jQ := rfl
theorem PK : C.prim 250 = none := rfl
theorem Q4 : C.funcs 250 = some Tryz.f250 := Tryz.func250
theorem O3 {a : List V} {H : List Ob} {R : V → List Ob → Prop} : Ret C 250 a H R ↔ WP C 250 jQ ⟨af a, 0, H⟩ (aF C Tryz.f250 H R) := ah PK QF Q4 OG
@[simp] theorem TM : C.locs 250 = [] := by kernel_rfl
noncomputable def oD : Code := match Tryz.f289.body with | some c => c | none => .skip
theorem QS : C.fids 289 = true := by kernel_rfl
theorem Qm : Tryz.f289.body = some oD := rfl
theorem O8 : C.prim 289 = none := rfl
theorem PW : C.funcs 289 = some Tryz.f289 := Tryz.func289
theorem Rf {a : List V} {H : List Ob} {R : V → List Ob → Prop} : Ret C 289 a H R ↔ WP C 289 oD ⟨af a, 0, H⟩ (aF C Tryz.f289 H R) := ah O8 QS PW Qm
@[simp] theorem Td : C.locs 289 = [] := by kernel_rfl
noncomputable def qh : Code := match Tryz.f290.body with | some c => c | none => .skip
theorem Qr : C.fids 290 = true := by kernel_rfl
theorem RX : Tryz.f290.body = some qh := rfl
theorem QM : C.prim 290 = none := rfl
theorem QQ : C.funcs 290 = some Tryz.f290 := Tryz.func290
theorem PT {a : List V} {H : List Ob} {R : V → List Ob → Prop} : Ret C 290 a H R ↔ WP C 290 qh ⟨af a, 0, H⟩ (aF C Tryz.f290 H R) := ah QM Qr QQ RX
@[simp] theorem Ux : C.locs 290 = [] := by kernel_rfl
noncomputable def pJ : Code := match Tryz.f313.body with | some c => c | none => .skip
theorem RN : C.fids 313 = true := by kernel_rfl
theorem QR : Tryz.f313.body = some pJ := rfl
theorem Ql : C.prim 313 = none := rfl
theorem Qk : C.funcs 313 = some Tryz.f313 := Tryz.func313
theorem Rq {a : List V} {H : List Ob} {R : V → List Ob → Prop} : Ret C 313 a H R ↔ WP C 313 pJ ⟨af a, 0, H⟩ (aF C Tryz.f313 H R) := ah Ql RN Qk QR
@[simp] theorem SS : C.locs 313 = [] := by kernel_rfl
noncomputable def pU : Code := match Tryz.f324.body with | some c => c | none => .skip
theorem Ph : C.fids 324 = true := by kernel_rfl
theorem Qi : Tryz.f324.body = some pU := rfl
theorem Qg : C.prim 324 = none := rfl
theorem OX : C.funcs 324 = some Tryz.f324 := Tryz.func324
theorem PP {a : List V} {H : List Ob} {R : V → List Ob → Prop} : Ret C 324 a H R ↔ WP C 324 pU ⟨af a, 0, H⟩ (aF C Tryz.f324 H R) := ah Qg Ph OX Qi
@[simp] theorem Uo : C.locs 324 = [] := by kernel_rfl
noncomputable def lC : Code := match Tryz.f338.body with | some c => c | none => .skip
theorem PR : C.fids 338 = true := by kernel_rfl
theorem O1 : Tryz.f338.body = some lC := rfl
theorem Rt : C.prim 338 = none := rfl
theorem Rx : C.funcs 338 = some Tryz.f338 := Tryz.func338
theorem Rl {a : List V} {H : List Ob} {R : V → List Ob → Prop} : Ret C 338 a H R ↔ WP C 338 lC ⟨af a, 0, H⟩ (aF C Tryz.f338 H R) := ah Rt PR Rx O1
@[simp] theorem Um : C.locs 338 = [] := by kernel_rfl
noncomputable def pG : Code := match Tryz.f349.body with | some c => c | none => .skip
theorem Q5 : C.fids 349 = true := by kernel_rfl
theorem Qd : Tryz.f349.body = some pG := rfl
theorem Rh : C.prim 349 = none := rfl
theorem Qb : C.funcs 349 = some Tryz.f349 := Tryz.func349
theorem QN {a : List V} {H : List Ob} {R : V → List Ob → Prop} : Ret C 349 a H R ↔ WP C 349 pG ⟨af a, 0, H⟩ (aF C Tryz.f349 H R) := ah Rh Q5 Qb Qd
@[simp] theorem SI : C.locs 349 = [] := by kernel_rfl
noncomputable def jW : Code := match Tryz.f359.body with | some c => c | none => .skip
theorem QZ : C.fids 359 = true := by kernel_rfl
theorem Sr : Tryz.f359.body = some jW := rfl
theorem RF : C.prim 359 = none := rfl
theorem O7 : C.funcs 359 = some Tryz.f359 := Tryz.func359
theorem Pz {a : List V} {H : List Ob} {R : V → List Ob → Prop} : Ret C 359 a H R ↔ WP C 359 jW ⟨af a, 0, H⟩ (aF C Tryz.f359 H R) := ah RF QZ O7 Sr
@[simp] theorem Uw : C.locs 359 = [] := by kernel_rfl
noncomputable def LG : Code := match Tryz.f170.body with | some c => c | none => .skip
@[simp] theorem ahp : C.locs 170 = [3, 5] := by kernel_rfl
@[simp] theorem Xk : C.ord 170 4 = some ⟨[0, 1, 2, 3, 4, 5, 6, 7, 8, 9, 10], [], [], [(0, 3), (2, 5), (6, 5), (10, 3)], [], []⟩ := by kernel_rfl
theorem EG {t : Str} {H : List Ob} (ht : t.length ≤ 1000) : callW C 324 [.str t] H = some (.bool (dec (Plain t)), H) := by
 apply Ret.dec
 rw [PP]
 simp [pU, Tryz.f324]
 refine aB (fun k σ => ∃ (i : Nat) (r : Nat → R), i + k = t.length ∧ σ = ⟨r, 0, H⟩ ∧ r 0 = .val (.str t) ∧ r 3 = .val (.int .i64 i) ∧ ∀ j, j < i → ∀ c, t[j]? = some c → kY c) ?_ t.length _ ⟨0, _, by simp, rfl, by simp, by simp, by simp⟩
 rintro k σ ⟨i, r, hik, rfl, r0, r3, hall⟩
 cases k with
 | zero =>
  have hi : i = t.length := by omega
  subst hi
  simp [r0, r3]
  intro j c hc
  exact hall j (List.getElem?_eq_some_iff.1 hc).1 c hc
 | succ k =>
  have hi : i < t.length := by omega
  obtain ⟨c, hc⟩ : ∃ c, t[i]? = some c := ⟨t[i], by simp [hi]⟩
  have hc' : t[i] = c := (List.getElem?_eq_some_iff.1 hc).2
  have hw : IntKind.i64.wrap ((i : Int) + 1) = ((i : Int) + 1) := wrap_i64 (by omega) (by omega)
  by_cases h1 : (c.toNat : Int) < 32
  ·simp [r0, r3, hi, hc', h1]
   intro hp
   have := (hp i c hc).1
   omega
  ·by_cases h2 : (c.toNat : Int) > 126
   ·simp [r0, r3, hi, hc', h1, h2]
    intro hp
    have := (hp i c hc).2
    omega
   ·simp [r0, r3, hi, hc', h1, h2, hw]
    exact ⟨k, by omega, i + 1, by omega, by omega, nS (P := fun _ c => kY c) hall hc ⟨by omega, by omega⟩⟩
theorem DF {t : Str} {H : List Ob} (ht : t.length ≤ 1000) : callW C 289 [.str t] H = some (.bool (dec (Plain t)), H) := by
 apply Ret.dec
 rw [Rf]
 simp [oD, Tryz.f289]
 refine aB (fun k σ => ∃ (i : Nat) (r : Nat → R), i + k = t.length ∧ σ = ⟨r, 0, H⟩ ∧ r 0 = .val (.str t) ∧ r 5 = .val (.int .i64 t.length) ∧ r 6 = .val (.int .i64 i) ∧ ∀ j, j < i → ∀ c, t[j]? = some c → kY c) ?_ t.length _ ⟨0, _, by simp, rfl, by simp, by simp, by simp, by simp⟩
 rintro k σ ⟨i, r, hik, rfl, r0, r5, r6, hall⟩
 cases k with
 | zero =>
  have hi : i = t.length := by omega
  subst hi
  simp [r0, r5, r6]
  intro j c hc
  exact hall j (List.getElem?_eq_some_iff.1 hc).1 c hc
 | succ k =>
  have hi : i < t.length := by omega
  obtain ⟨c, hc⟩ : ∃ c, t[i]? = some c := ⟨t[i], by simp [hi]⟩
  have hc' : t[i] = c := (List.getElem?_eq_some_iff.1 hc).2
  have hw : IntKind.i64.wrap ((i : Int) + 1) = ((i : Int) + 1) := wrap_i64 (by omega) (by omega)
  by_cases h1 : (c.toNat : Int) < 32
  ·simp [r0, r5, r6, hi, hc', h1]
   intro hp
   have := (hp i c hc).1
   omega
  ·by_cases h2 : (c.toNat : Int) > 126
   ·simp [r0, r5, r6, hi, hc', h1, h2]
    intro hp
    have := (hp i c hc).2
    omega
   ·simp [r0, r5, r6, hi, hc', h1, h2, hw]
    exact ⟨k, by omega, i + 1, by omega, by omega, nS (P := fun _ c => kY c) hall hc ⟨by omega, by omega⟩⟩
theorem zD {t : Str} {H : List Ob} : callW C 77 [.str t] H = some (.bool (dec (aX t)), H) := by
 apply Ret.dec
 rw [Vm]
 by_cases g1 : (t.length : Int) < 1
 ·have g2 : ¬ aX t := fun h => by have := h.1; omega
  simp [lY, Tryz.f77, g1, g2]
 by_cases g2 : (t.length : Int) > 20
 ·have g3 : ¬ aX t := fun h => by have := h.2.1; omega
  simp [lY, Tryz.f77, g1, g2, g3]
 simp [lY, Tryz.f77, g1, g2]
 refine aB (fun k σ => ∃ (i : Nat) (r : Nat → R), i + k = t.length ∧ σ = ⟨r, 0, H⟩ ∧ r 0 = .val (.str t) ∧ r 3 = .val (.int .i64 i) ∧ ∀ j, j < i → ∀ c, t[j]? = some c → qP c ∨ (0 < j ∧ (qC c ∨ c.toNat = 95))) ?_ t.length _ ⟨0, _, by simp, rfl, by simp, by simp, by simp⟩
 rintro k σ ⟨i, r, hik, rfl, r0, r3, hall⟩
 cases k with
 | zero =>
  have hi : i = t.length := by omega
  subst hi
  have hok : aX t := ⟨by omega, by omega, fun j c hc => hall j (List.getElem?_eq_some_iff.1 hc).1 c hc⟩
  simp [r0, r3, hok]
 | succ k =>
  have hi : i < t.length := by omega
  obtain ⟨c, hc⟩ : ∃ c, t[i]? = some c := ⟨t[i], by simp [hi]⟩
  have hc' : t[i] = c := (List.getElem?_eq_some_iff.1 hc).2
  have hw : IntKind.i64.wrap ((i : Int) + 1) = ((i : Int) + 1) := wrap_i64 (by omega) (by omega)
  have hgo : qP c ∨ (0 < i ∧ (qC c ∨ c.toNat = 95)) → ∃ k', k' < k + 1 ∧ ∃ i', i' + k' = t.length ∧ (i : Int) + 1 = i' ∧ ∀ j, j < i' → ∀ c, t[j]? = some c → qP c ∨ (0 < j ∧ (qC c ∨ c.toNat = 95)) := fun h =>
   ⟨k, by omega, i + 1, by omega, by omega, nS (P := fun j c => qP c ∨ (0 < j ∧ (qC c ∨ c.toNat = 95))) hall hc h⟩
  by_cases h1 : qP c
  ·have h1a : (c.toNat : Int) ≥ 97 := by have := h1.1; omega
   have h1b : (c.toNat : Int) ≤ 122 := by have := h1.2; omega
   simp [r0, r3, hi, hc', h1a, h1b, hw]
   exact hgo (.inl h1)
  have hl : (¬ (c.toNat : Int) ≥ 97) ∨ ((c.toNat : Int) ≥ 97 ∧ ¬ (c.toNat : Int) ≤ 122) := by unfold qP at h1; omega
  have hno : ¬ (0 < i ∧ (qC c ∨ c.toNat = 95)) → ¬ aX t := fun h hk => (hk.2.2 i c hc).elim h1 h
  by_cases h2 : i = 0
  ·have hno := hno (by omega)
   subst h2
   rcases hl with hl | ⟨hl, hl2⟩
   ·simp [r0, r3, hi, hc', hl, hno]
   ·simp [r0, r3, hi, hc', hl, hl2, hno]
  have h2' : ¬ (i : Int) = 0 := by omega
  by_cases h3 : qC c
  ·have h3a : (c.toNat : Int) ≥ 48 := by have := h3.1; omega
   have h3b : (c.toNat : Int) ≤ 57 := by have := h3.2; omega
   have h3c : ¬ (c.toNat : Int) ≥ 97 := by omega
   simp [r0, r3, hi, hc', h2, h3a, h3b, h3c, hw]
   exact hgo (.inr ⟨by omega, .inl h3⟩)
  have hd : (¬ (c.toNat : Int) ≥ 48) ∨ ((c.toNat : Int) ≥ 48 ∧ ¬ (c.toNat : Int) ≤ 57) := by unfold qC at h3; omega
  by_cases h4 : c.toNat = 95
  ·have := hgo (.inr ⟨by omega, .inr h4⟩)
   simp [r0, r3, hi, hc', h2, h4, hw]
   exact this
  ·have h4' : ¬ (c.toNat : Int) = 95 := by omega
   have hno := hno (fun h => h.2.elim h3 h4)
   rcases hl with hl | ⟨hl, hl2⟩ <;> rcases hd with hd | ⟨hd, hd2⟩
   ·simp [r0, r3, hi, hc', h2, h4', hl, hd, hno]
   ·simp [r0, r3, hi, hc', h2, h4', hl, hd, hd2, hno]
   ·simp [r0, r3, hi, hc', h2, h4', hl, hl2, hd, hno]
   ·simp [r0, r3, hi, hc', h2, h4', hl, hl2, hd, hd2, hno]
theorem vJ {c : UInt8} (h1 : 65 ≤ c.toNat) (h2 : c.toNat ≤ 90) : IntKind.u8.wrap ((c.toNat : Int) + 32) = ((jl c).toNat : Int) := by
 have : jl c = c + 32 := by unfold jl; rw [if_pos ⟨h1, h2⟩]
 rw [this]
 unfold IntKind.wrap
 simp [IntKind.bits, IntKind.signed, UInt8.toNat_add]
theorem oh {c : UInt8} (h1 : 65 ≤ c.toNat) (h2 : c.toNat ≤ 90) : (jl c).toNat = c.toNat + 32 := by
 have : jl c = c + 32 := by unfold jl; rw [if_pos ⟨h1, h2⟩]
 rw [this, UInt8.toNat_add]
 have : c.toNat + 32 < 256 := by omega
 simp
 omega
theorem uU {c : UInt8} (h : ¬ (65 ≤ c.toNat ∧ c.toNat ≤ 90)) : jl c = c := by unfold jl; rw [if_neg h]
theorem lZ {c : UInt8} : c = 32 ↔ c.toNat = 32 := ⟨fun h => by rw [h]; rfl, fun h => UInt8.toNat_inj.1 h⟩
theorem mf {t : Str} {i : Nat} {c : UInt8} (h : t[i]? = some c) (f : Str → UInt8 → Str) (b : Str) : (t.take (i + 1)).foldl f b = f ((t.take i).foldl f b) c := by
 rw [dh h, List.foldl_append]
 rfl
theorem dZ {b : Str} {d : UInt8} (h : b.getLast? = some d) : mX b = true ↔ d = 32 := by
 unfold mX
 rw [h]
 simp
theorem kw {b : Str} (h : b ≠ []) : ∃ d, b.getLast? = some d := ⟨b.getLast h, List.getLast?_eq_some_getLast h⟩
theorem ku {t : Str} {H : List Ob} : callW C 250 [.str t] H = some (.str (norm t), H) := by
 apply Ret.eq
 rw [O3]
 by_cases g1 : (t.length : Int) > 100
 ·have : norm t = [] := by unfold norm; rw [if_neg (by omega)]
  simp [jQ, Tryz.f250, g1, this]
 have hp := EG (t := t) (H := H) (by omega)
 by_cases g2 : Plain t
 rotate_left
 ·rw [au g2] at hp
  have : norm t = [] := by unfold norm; rw [au g2]; simp
  simp [jQ, Tryz.f250, g1, hp, this]
 rw [aj g2] at hp
 have hn : norm t = lW (t.foldl bu []) := by unfold norm; rw [if_pos ⟨by omega, aj g2⟩]
 have hbz : ∀ i, ((t.take i).foldl bu []).length ≤ 100 := fun i => by
  have := lK (t.take i) []
  simp at this
  omega
 simp [jQ, Tryz.f250, g1, hp, aI, aH, ax, St.new]
 refine aB (fun k σ => ∃ (i : Nat) (r : Nat → R) (G : List Ob) (v : V), i + k = t.length ∧ σ = ⟨r, 0, G⟩ ∧ r 0 = .val (.str t) ∧ r 3 = .val v ∧ r 4 = .val (.int .i64 i) ∧ Bs H G v ((t.take i).foldl bu [])) ?_ t.length _ ⟨0, _, _, _, by simp, rfl, by simp, by simp, by simp, Bs.init⟩
 rintro k σ ⟨i, r, G, v, hik, rfl, r0, r3, r4, hB⟩
 have hbl := hbz i
 generalize hb : (t.take i).foldl bu [] = b at hB hbl
 have hw1 : IntKind.i64.wrap ((b.length : Int) - 1) = (b.length : Int) - 1 := wrap_i64 (by omega) (by omega)
 cases k with
 | zero =>
  have hi : i = t.length := by omega
  subst hi
  rw [List.take_length] at hb
  rw [hb] at hn
  obtain ⟨TT, rfl⟩ := hB.ext
  by_cases hb0 : b = []
  ·subst hb0
   obtain ⟨id, rfl, hst, hsl⟩ := hB.cut (n := 0) (Nat.le_refl _)
   simp [r0, r3, r4, hsl, isByte, jU, hn, lW, mX]
  ·obtain ⟨d, hd⟩ := kw hb0
   have hb1 : 0 < b.length := List.length_pos_iff.2 hb0
   have hb2 : 0 < (b.length : Int) := by omega
   have hb3 : (1 : Int) ≤ (b.length : Int) := by omega
   have hb5 : (b.length : Int) - 1 < (b.length : Int) := by omega
   have hb4 : ((b.length : Int) - 1).toNat = b.length - 1 := by omega
   obtain ⟨id, rfl, hld⟩ := hB.last hd
   by_cases hd32 : d = 32
   ·obtain ⟨_, hv, hst, hsl⟩ := hB.cut (n := b.length - 1) (by omega)
    cases hv
    have he : lW b = b.take (b.length - 1) := by unfold lW; rw [if_pos ((dZ hd).2 hd32), List.dropLast_eq_take]
    have hd' : (d.toNat : Int) = 32 := by rw [hd32]; rfl
    simp [r0, r3, r4, hb0, hb1, hb2, hb3, hb4, hb5, hw1, hld, hd', hst, hsl, isByte, jU, hn, he]
   ·obtain ⟨_, hv, hst, hsl⟩ := hB.cut (n := b.length) (Nat.le_refl _)
    cases hv
    have he : lW b = b := by unfold lW; rw [if_neg (fun h => hd32 ((dZ hd).1 h))]
    have hd' : ¬ (d.toNat : Int) = 32 := by have := mt lZ.2 hd32; omega
    rw [List.take_length] at hsl
    simp [r0, r3, r4, hb0, hb1, hb2, hb3, hb4, hb5, hw1, hld, hd', hst, hsl, isByte, jU, hn, he]
 | succ k =>
  have hi : i < t.length := by omega
  obtain ⟨c, hc⟩ : ∃ c, t[i]? = some c := ⟨t[i], by simp [hi]⟩
  have hc' : t[i] = c := (List.getElem?_eq_some_iff.1 hc).2
  have hw : IntKind.i64.wrap ((i : Int) + 1) = ((i : Int) + 1) := wrap_i64 (by omega) (by omega)
  have hfs := mf hc bu []
  rw [hb] at hfs
  have hgo : ∀ G' v', Bs H G' v' (bu b c) → ∃ k', k' < k + 1 ∧ ∃ i', i' + k' = t.length ∧ (i : Int) + 1 = i' ∧ Bs H G' v' ((t.take i').foldl bu []) := fun G' v' h =>
   ⟨k, by omega, i + 1, by omega, by omega, by rw [hfs]; exact h⟩
  by_cases hup : 65 ≤ c.toNat ∧ c.toNat ≤ 90
  ·have hu1 : (c.toNat : Int) ≥ 65 := by omega
   have hu2 : (c.toNat : Int) ≤ 90 := by omega
   have hlw := vJ hup.1 hup.2
   have hl32 : ¬ ((jl c).toNat : Int) = 32 := by rw [oh hup.1 hup.2]; omega
   have hns : bu b c = b ++ [jl c] := by unfold bu; rw [if_neg (fun h => hl32 (by rw [lZ.1 h.1]; rfl))]
   obtain ⟨v', G', ha, hB'⟩ := hB.push (by omega) (c := jl c) (d := .int .u8) (z := [.int .u8 0]) rfl
   rw [← hns] at hB'
   simp [r0, r3, r4, hi, hc', hu1, hu2, hlw, hl32, aI, aH, ax, St.new, gy, ha, hw]
   obtain ⟨k', q1, i', q2, q3, q4⟩ := hgo G' v' hB'
   exact ⟨k', q1, i', q2, _, _, ⟨rfl, rfl⟩, by simp [r0], _, by simp [r3], by simp [q3], q4⟩
  have hlc := uU hup
  have hu : (¬ (c.toNat : Int) ≥ 65) ∨ ((c.toNat : Int) ≥ 65 ∧ ¬ (c.toNat : Int) ≤ 90) := by omega
  by_cases h32 : c = 32
  ·have h32' : (c.toNat : Int) = 32 := by rw [h32]; rfl
   have hu1 : ¬ (c.toNat : Int) ≥ 65 := by omega
   by_cases hb0 : b = []
   ·have hns : bu b c = b := by unfold bu; rw [if_pos ⟨by rw [hlc, h32], .inl hb0⟩]
    rw [hns] at hgo
    have hbl0 : b.length = 0 := by rw [hb0]; rfl
    have := hgo G v hB
    simp [r0, r3, r4, hi, hc', h32', hB.len, hbl0, hw]
    obtain ⟨k', q1, i', q2, q3, q4⟩ := this
    exact ⟨k', q1, i', q2, _, _, ⟨rfl, rfl⟩, by simp [r0], _, by simp [r3], by simp [q3], q4⟩
   ·obtain ⟨d, hd⟩ := kw hb0
    have hb1 : 0 < b.length := List.length_pos_iff.2 hb0
    have hb3 : (1 : Int) ≤ (b.length : Int) := by omega
    have hb5 : (b.length : Int) - 1 < (b.length : Int) := by omega
    have hb4 : ((b.length : Int) - 1).toNat = b.length - 1 := by omega
    obtain ⟨id, hv, hld⟩ := hB.last hd
    have hB0 := hB
    subst hv
    by_cases hd32 : d = 32
    ·have hns : bu b c = b := by unfold bu; rw [if_pos ⟨by rw [hlc, h32], .inr ((dZ hd).2 hd32)⟩]
     rw [hns] at hgo
     have hd' : (d.toNat : Int) = 32 := by rw [hd32]; rfl
     have := hgo G _ hB
     simp [r0, r3, r4, hi, hc', h32', hb0, hb1, hb3, hb4, hb5, hw1, hld, hd', hw]
     obtain ⟨k', q1, i', q2, q3, q4⟩ := this
     exact ⟨k', q1, i', q2, _, _, ⟨rfl, rfl⟩, by simp [r0], _, by simp [r3], by simp [q3], q4⟩
    ·have hns : bu b c = b ++ [c] := by unfold bu; rw [if_neg (fun h => h.2.elim hb0 (fun h => hd32 ((dZ hd).1 h))), hlc]
     have hd' : ¬ (d.toNat : Int) = 32 := by have := mt lZ.2 hd32; omega
     obtain ⟨v', G', ha, hB'⟩ := hB.push (by omega) (c := c) (d := .int .u8) (z := [.int .u8 0]) rfl
     rw [← hns] at hB'
     rw [h32'] at ha
     simp [r0, r3, r4, hi, hc', h32', hb0, hb1, hb3, hb4, hb5, hw1, hld, hd', aI, aH, ax, St.new, gy, ha, hw]
     obtain ⟨k', q1, i', q2, q3, q4⟩ := hgo G' v' hB'
     exact ⟨k', q1, i', q2, _, _, ⟨rfl, rfl⟩, by simp [r0], _, by simp [r3], by simp [q3], q4⟩
  ·have h32' : ¬ (c.toNat : Int) = 32 := by have := mt lZ.2 h32; omega
   have hns : bu b c = b ++ [c] := by unfold bu; rw [if_neg (fun h => h32 (hlc ▸ h.1)), hlc]
   obtain ⟨v', G', ha, hB'⟩ := hB.push (by omega) (c := c) (d := .int .u8) (z := [.int .u8 0]) rfl
   rw [← hns] at hB'
   have := hgo G' v' hB'
   rcases hu with hu | ⟨hu, hu2⟩
   ·simp [r0, r3, r4, hi, hc', hu, h32', aI, aH, ax, St.new, gy, ha, hw]
    obtain ⟨k', q1, i', q2, q3, q4⟩ := this
    exact ⟨k', q1, i', q2, _, _, ⟨rfl, rfl⟩, by simp [r0], _, by simp [r3], by simp [q3], q4⟩
   ·simp [r0, r3, r4, hi, hc', hu, hu2, h32', aI, aH, ax, St.new, gy, ha, hw]
    obtain ⟨k', q1, i', q2, q3, q4⟩ := this
    exact ⟨k', q1, i', q2, _, _, ⟨rfl, rfl⟩, by simp [r0], _, by simp [r3], by simp [q3], q4⟩
def eH (s w : Str) : Prop := w.length ≤ s.length ∧ s.drop (s.length - w.length) = w
theorem hasSuffix {s w : Str} {H : List Ob} (hs : s.length ≤ 1000000) (hw : w.length ≤ 1000000) : callW C 359 [.str s, .str w] H = some (.bool (dec (eH s w)), H) := by
 apply Ret.dec
 rw [Pz]
 by_cases h1 : (s.length : Int) ≥ w.length
 ·have hw1 : IntKind.i64.wrap ((s.length : Int) - w.length) = (s.length : Int) - w.length := wrap_i64 (by omega) (by omega)
  have h2 : (w.length : Int) ≤ (s.length : Int) := h1
  have h3 : ((s.length : Int) - w.length).toNat = s.length - w.length := by omega
  have h4 : (0 : Int) ≤ (s.length : Int) - w.length := by omega
  have h5 : w.length ≤ s.length := by omega
  by_cases h6 : s.drop (s.length - w.length) = w
  ·have hn : eH s w := ⟨h5, h6⟩
   simp [jW, Tryz.f359, h1, h2, h3, h4, h5, hw1, h6, hn]
  ·have hn : ¬ eH s w := fun h => h6 h.2
   simp [jW, Tryz.f359, h1, h2, h3, h4, h5, hw1, h6, hn]
 ·have hn : ¬ eH s w := fun h => h1 (by have := h.1; omega)
  simp [jW, Tryz.f359, h1, hn]
noncomputable def gV (s w : Str) : Str := if dec (eH s w) = true then s.take (s.length - w.length) else s
theorem ru {s w : Str} {H : List Ob} (hs : s.length ≤ 1000000) (hw : w.length ≤ 1000000) : callW C 338 [.str s, .str w] H = some (.str (gV s w), H) := by
 apply Ret.eq
 rw [Rl]
 have hc := hasSuffix (H := H) hs hw
 by_cases h : eH s w
 ·rw [aj h] at hc
  have h0 := h.1
  have hw1 : IntKind.i64.wrap ((s.length : Int) - w.length) = (s.length : Int) - w.length := wrap_i64 (by omega) (by omega)
  have h2 : (w.length : Int) ≤ (s.length : Int) := by omega
  have h3 : ((s.length : Int) - w.length).toNat = s.length - w.length := by omega
  have ht : gV s w = s.take (s.length - w.length) := by unfold gV; rw [aj h]; rfl
  simp [lC, Tryz.f338, hc, hw1, h2, h3, ht]
 ·rw [au h] at hc
  have ht : gV s w = s := by unfold gV; rw [au h]; rfl
  simp [lC, Tryz.f338, hc, ht]
theorem uk {s : Str} : gV s [32] = lW s := by
 have he : eH s [32] ↔ mX s = true := by
  unfold eH mX
  cases hl : s.getLast? with
  | none =>
   have : s = [] := by simpa using hl
   subst this
   simp
  | some d =>
   have hne : s ≠ [] := by rintro rfl; simp at hl
   have h1 : 1 ≤ s.length := List.length_pos_iff.2 hne
   rw [List.getLast?_eq_getElem?] at hl
   have h2 : s.drop (s.length - 1) = [d] := by
    apply List.ext_getElem?
    intro j
    rw [List.getElem?_drop]
    cases j with
    | zero => simpa using hl
    | succ j => simp; omega
   simp [h1, h2]
 unfold gV lW
 by_cases h : mX s = true
 ·rw [aj (he.2 h), if_pos rfl, if_pos h, List.dropLast_eq_take]
  rfl
 ·rw [au (mt he.1 h), if_neg (by simp), if_neg h]
theorem Jl {s : Str} {H : List Ob} (hs : s.length ≤ 1000000) : callW C 290 [.str s, .str [32]] H = some (.str (lW s), H) := by
 apply Ret.eq
 rw [PT]
 have hc := ru (H := H) hs (w := [32]) (by simp)
 rw [uk] at hc
 simp [qh, Tryz.f290, hc]
theorem kC {t : Str} {H : List Ob} : callW C 211 [.str t] H = some (.str (norm t), H) := by
 apply Ret.eq
 rw [RY]
 by_cases g1 : (t.length : Int) > 100
 ·have : norm t = [] := by unfold norm; rw [if_neg (by omega)]
  simp [jV, Tryz.f211, g1, this]
 have hp := DF (t := t) (H := H) (by omega)
 by_cases g2 : Plain t
 rotate_left
 ·rw [au g2] at hp
  have : norm t = [] := by unfold norm; rw [au g2]; simp
  simp [jV, Tryz.f211, g1, hp, this]
 rw [aj g2] at hp
 have hn : norm t = lW (t.foldl bu []) := by unfold norm; rw [if_pos ⟨by omega, aj g2⟩]
 have hbz : ∀ i, ((t.take i).foldl bu []).length ≤ 100 := fun i => by
  have := lK (t.take i) []
  simp at this
  omega
 simp [jV, Tryz.f211, g1, hp, aI, aH, ax, St.new]
 refine aB (fun k σ => ∃ (i : Nat) (r : Nat → R) (G : List Ob) (v : V), i + k = t.length ∧ σ = ⟨r, 0, G⟩ ∧ r 0 = .val (.str t) ∧ r 3 = .val v ∧ r 16 = .val (.int .i64 t.length) ∧ r 17 = .val (.int .i64 i) ∧ Bs H G v ((t.take i).foldl bu [])) ?_ t.length _ ⟨0, _, _, _, by simp, rfl, by simp, by simp, by simp, by simp, Bs.init⟩
 rintro k σ ⟨i, r, G, v, hik, rfl, r0, r3, r16, r17, hB⟩
 have hbl := hbz i
 generalize hb : (t.take i).foldl bu [] = b at hB hbl
 have hw1 : IntKind.i64.wrap ((b.length : Int) - 1) = (b.length : Int) - 1 := wrap_i64 (by omega) (by omega)
 cases k with
 | zero =>
  have hi : i = t.length := by omega
  subst hi
  rw [List.take_length] at hb
  rw [hb] at hn
  obtain ⟨TT, rfl⟩ := hB.ext
  obtain ⟨id, rfl, hst, hsl⟩ := hB.cut (n := b.length) (Nat.le_refl _)
  rw [List.take_length] at hsl
  have hts := Jl (s := b) (H := H ++ TT) (by omega)
  simp [r0, r3, r16, r17, hsl, isByte, jU, hn, hts]
 | succ k =>
  have hi : i < t.length := by omega
  obtain ⟨c, hc⟩ : ∃ c, t[i]? = some c := ⟨t[i], by simp [hi]⟩
  have hc' : t[i] = c := (List.getElem?_eq_some_iff.1 hc).2
  have hw : IntKind.i64.wrap ((i : Int) + 1) = ((i : Int) + 1) := wrap_i64 (by omega) (by omega)
  have hfs := mf hc bu []
  rw [hb] at hfs
  have hgo : ∀ G' v', Bs H G' v' (bu b c) → ∃ k', k' < k + 1 ∧ ∃ i', i' + k' = t.length ∧ (i : Int) + 1 = i' ∧ Bs H G' v' ((t.take i').foldl bu []) := fun G' v' h =>
   ⟨k, by omega, i + 1, by omega, by omega, by rw [hfs]; exact h⟩
  by_cases hup : 65 ≤ c.toNat ∧ c.toNat ≤ 90
  ·have hu1 : (c.toNat : Int) ≥ 65 := by omega
   have hu2 : (c.toNat : Int) ≤ 90 := by omega
   have hlw := vJ hup.1 hup.2
   have hl32 : ¬ ((jl c).toNat : Int) = 32 := by rw [oh hup.1 hup.2]; omega
   have hns : bu b c = b ++ [jl c] := by unfold bu; rw [if_neg (fun h => hl32 (by rw [lZ.1 h.1]; rfl))]
   obtain ⟨v', G', ha, hB'⟩ := hB.push (by omega) (c := jl c) (d := .int .u8) (z := [.int .u8 0]) rfl
   rw [← hns] at hB'
   simp [r0, r3, r16, r17, hi, hc', hu1, hu2, hlw, hl32, aI, aH, ax, St.new, gy, ha, hw]
   obtain ⟨k', q1, i', q2, q3, q4⟩ := hgo G' v' hB'
   exact ⟨k', q1, i', q2, _, _, ⟨rfl, rfl⟩, by simp [r0], _, by simp [r3], by simp [r16], by simp [q3], q4⟩
  have hlc := uU hup
  have hu : (¬ (c.toNat : Int) ≥ 65) ∨ ((c.toNat : Int) ≥ 65 ∧ ¬ (c.toNat : Int) ≤ 90) := by omega
  by_cases h32 : c = 32
  ·have h32' : (c.toNat : Int) = 32 := by rw [h32]; rfl
   have hu1 : ¬ (c.toNat : Int) ≥ 65 := by omega
   by_cases hb0 : b = []
   ·have hns : bu b c = b := by unfold bu; rw [if_pos ⟨by rw [hlc, h32], .inl hb0⟩]
    rw [hns] at hgo
    have hbl0 : b.length = 0 := by rw [hb0]; rfl
    simp [r0, r3, r16, r17, hi, hc', h32', hB.len, hbl0, hw]
    obtain ⟨k', q1, i', q2, q3, q4⟩ := hgo G v hB
    exact ⟨k', q1, i', q2, _, _, ⟨rfl, rfl⟩, by simp [r0], _, by simp [r3], by simp [r16], by simp [q3], q4⟩
   ·obtain ⟨d, hd⟩ := kw hb0
    have hb1 : 0 < b.length := List.length_pos_iff.2 hb0
    have hb3 : (1 : Int) ≤ (b.length : Int) := by omega
    have hb5 : (b.length : Int) - 1 < (b.length : Int) := by omega
    have hb4 : ((b.length : Int) - 1).toNat = b.length - 1 := by omega
    obtain ⟨id, hv, hld⟩ := hB.last hd
    subst hv
    by_cases hd32 : d = 32
    ·have hns : bu b c = b := by unfold bu; rw [if_pos ⟨by rw [hlc, h32], .inr ((dZ hd).2 hd32)⟩]
     rw [hns] at hgo
     have hd' : (d.toNat : Int) = 32 := by rw [hd32]; rfl
     simp [r0, r3, r16, r17, hi, hc', h32', hb0, hb1, hb3, hb4, hb5, hw1, hld, hd', hw]
     obtain ⟨k', q1, i', q2, q3, q4⟩ := hgo G _ hB
     exact ⟨k', q1, i', q2, _, _, ⟨rfl, rfl⟩, by simp [r0], _, by simp [r3], by simp [r16], by simp [q3], q4⟩
    ·have hns : bu b c = b ++ [c] := by unfold bu; rw [if_neg (fun h => h.2.elim hb0 (fun h => hd32 ((dZ hd).1 h))), hlc]
     have hd' : ¬ (d.toNat : Int) = 32 := by have := mt lZ.2 hd32; omega
     obtain ⟨v', G', ha, hB'⟩ := hB.push (by omega) (c := c) (d := .int .u8) (z := [.int .u8 0]) rfl
     rw [← hns] at hB'
     rw [h32'] at ha
     simp [r0, r3, r16, r17, hi, hc', h32', hb0, hb1, hb3, hb4, hb5, hw1, hld, hd', aI, aH, ax, St.new, gy, ha, hw]
     obtain ⟨k', q1, i', q2, q3, q4⟩ := hgo G' v' hB'
     exact ⟨k', q1, i', q2, _, _, ⟨rfl, rfl⟩, by simp [r0], _, by simp [r3], by simp [r16], by simp [q3], q4⟩
  ·have h32' : ¬ (c.toNat : Int) = 32 := by have := mt lZ.2 h32; omega
   have hns : bu b c = b ++ [c] := by unfold bu; rw [if_neg (fun h => h32 (hlc ▸ h.1)), hlc]
   obtain ⟨v', G', ha, hB'⟩ := hB.push (by omega) (c := c) (d := .int .u8) (z := [.int .u8 0]) rfl
   rw [← hns] at hB'
   obtain ⟨k', q1, i', q2, q3, q4⟩ := hgo G' v' hB'
   rcases hu with hu | ⟨hu, hu2⟩
   ·simp [r0, r3, r16, r17, hi, hc', hu, h32', aI, aH, ax, St.new, gy, ha, hw]
    exact ⟨k', q1, i', q2, _, _, ⟨rfl, rfl⟩, by simp [r0], _, by simp [r3], by simp [r16], by simp [q3], q4⟩
   ·simp [r0, r3, r16, r17, hi, hc', hu, hu2, h32', aI, aH, ax, St.new, gy, ha, hw]
    exact ⟨k', q1, i', q2, _, _, ⟨rfl, rfl⟩, by simp [r0], _, by simp [r3], by simp [r16], by simp [q3], q4⟩
theorem EU {t : Str} {H : List Ob} : callW C 184 [.str t] H = some (.bool (dec (bf t)), H) := by
 apply Ret.dec
 rw [Pv]
 have hn := ku (t := t) (H := H)
 by_cases g1 : (t.length : Int) ≥ 1
 ·by_cases g2 : (t.length : Int) ≤ 40
  ·by_cases g3 : norm t = []
   ·have hv : ¬ bf t := fun h => h.2.2 g3
    simp [je, Tryz.f184, g1, g2, hn, g3, hv]
   ·have hv : bf t := ⟨by omega, by omega, g3⟩
    simp [je, Tryz.f184, g1, g2, hn, g3, hv]
  ·have : ¬ bf t := fun h => by have := h.2.1; omega
   simp [je, Tryz.f184, g1, g2, this]
 ·have : ¬ bf t := fun h => by have := h.1; omega
  simp [je, Tryz.f184, g1, this]
theorem DD {t : Str} {H : List Ob} : callW C 207 [.str t] H = some (.bool (dec (bf t)), H) := by
 apply Ret.dec
 rw [PO]
 have hn := kC (t := t) (H := H)
 by_cases g1 : (t.length : Int) ≥ 1
 ·by_cases g2 : (t.length : Int) ≤ 40
  ·by_cases g3 : norm t = []
   ·have hv : ¬ bf t := fun h => h.2.2 g3
    simp [jc, Tryz.f207, g1, g2, hn, g3, hv]
   ·have hv : bf t := ⟨by omega, by omega, g3⟩
    simp [jc, Tryz.f207, g1, g2, hn, g3, hv]
  ·have : ¬ bf t := fun h => by have := h.2.1; omega
   simp [jc, Tryz.f207, g1, g2, this]
 ·have : ¬ bf t := fun h => by have := h.1; omega
  simp [jc, Tryz.f207, g1, this]
theorem zq {a b : Str} {H : List Ob} : callW C 382 [.str a, .str b] H = some (.int .i64 (Lib.compareBytes a b), H) :=
 gX (pr := qg) rfl
theorem kV {a b : Str} {H : List Ob} : callW C 349 [.str a, .str b] H = some (.int .i64 (Lib.compareBytes a b), H) := by
 apply Ret.eq
 rw [QN]
 simp [pG, Tryz.f349, zq]
theorem xw {a b : Str} {H : List Ob} : callW C 313 [.str a, .str b] H = some (.int .i64 (Lib.compareBytes a b), H) := by
 apply Ret.eq
 rw [Rq]
 simp [pJ, Tryz.f313, kV]
theorem i_byNorm {a b : Str} {H : List Ob} : callW C 238 [.str a, .str b] H = some (.int .i64 (Lib.compareBytes (norm a) (norm b)), H) := by
 apply Ret.eq
 rw [RJ]
 have c1 := kC (t := a) (H := H)
 have c2 := kC (t := b) (H := H)
 simp [pW, Tryz.f238, c1, c2, xw]
end Go.Proofs.Try0
end
section
namespace Go.Proofs.Try1
open Go Go.Lite
theorem Lr [Draws] : ProgOk Tryz.prog Try0.C := xW Try0.mixed Try0.ok fun g pr h => by
 change Try0.primTab g = some pr at h
 unfold Try0.primTab at h
 split at h
 ·rename_i hg; subst hg; cases h; exact Ry
 ·cases h
end Go.Proofs.Try1
end
section
namespace Go.Lite
open Go
variable [Draws]
theorem KF {ro : Option Nat} {n m : Nat} {P : Program} {c : Code} {Q : Exit → Act → World → Prop} {a : Act} {w : World} (h : c.wpIn (rf ro) n P Q a w) : c.wpIn (rf ro) m P Q a w :=
 fun b k cs h1 h2 _ => h b k cs h1 h2 (fun d hd => by cases hd)
theorem P9 {P : Program} {C : Ctx} (hp : ProgOk P C) {f : Nat} {c : Code} {σ σ' : St} {μ : Mu} {β : List Nat} {a : Act} {w : World} {ex : Ex} {Q : Exit → Act → World → Prop} {ro : Option Nat} {n : Nat}
  (hs : Sim (C.locs f) σ μ β a w) (hc : CodeOk P C f a.tmps.size c) (h : iU C f c σ = some (ex, σ')) (hq : ∀ a' w', Leads (C.locs f) σ μ β a w σ' a' w' → Q (tH ex) a' w') : c.wpIn (rf ro) n P Q a w := by
 obtain ⟨m, hm⟩ := execW_iff.1 h
 exact KF (tX hp.ty (II hp m) c hs hc hm hq)
end Go.Lite
end
section
namespace Go.Proofs.Try0
open Go Go.Lite Go.RowKit Go.Shelf
attribute [local go_sem] Oper.semAt_some
abbrev DkE := { p : ByteArray × ByteArray // p.1.size ≤ 1048576 ∧ p.2.size ≤ 1048576 }
def DkE.encs (x : Int × DkE) : Array Value := #[.int .i64 x.1, .agg #[.string x.2.1.1, .string x.2.1.2]]
instance : Inhabited DkE := ⟨⟨(.empty, .empty), by decide, by decide⟩⟩
def iQ (zs : List DkE) (k : Nat) : List (Int × DkE) := (List.range k).map fun j => (((zs.length - 1 - j : Nat) : Int), zs[zs.length - 1 - j]!)
theorem IB (zs : List DkE) (k : Nat) : iQ zs (k + 1) = iQ zs k ++ [(((zs.length - 1 - k : Nat) : Int), zs[zs.length - 1 - k]!)] := by simp [iQ, List.range_succ]
theorem Bc (zs : List DkE) (k : Nat) : (iQ zs k).length = k := by simp [iQ]
def DkKp (n₀ Bs : Nat) (A B : World) : Prop := Below n₀ A B ∧ ∀ v, A.cell? ⟨Bs, 0, none⟩ = some v → B.cell? ⟨Bs, 0, none⟩ = some v
theorem DkKp.refl (n₀ Bs : Nat) (A : World) : DkKp n₀ Bs A A := ⟨Below.refl _ _, fun _ h => h⟩
theorem DkKp.trans {n₀ Bs : Nat} {A B C : World} (h : DkKp n₀ Bs A B) (k : DkKp n₀ Bs B C) : DkKp n₀ Bs A C := ⟨h.1.trans k.1, fun v e => k.2 v (h.2 v e)⟩
theorem UZ {n₀ Bs : Nat} {w : World} (hn : n₀ ≤ w.heap.size) (W : World) (l : Nat) (o o' : Obj) (hl : w.heap.size ≤ l) (h : W.heap[l]? = some o) (hc : o.isCells = false) (hw : o.isWalk = false) : DkKp n₀ Bs W (W.putObj l o') :=
 ⟨belowK_b hn W l o o' hl h hc hw, fun v hv => by
  by_cases e : Bs = l
  ·subst e
   simp only [World.cell?] at hv
   rw [h] at hv
   cases o <;> simp_all [Obj.isCells]
  ·rw [← hv]
   exact World.cell?_of_block (World.putObj_heap_other (by simpa using e))⟩
theorem Qo (l Bs n₀ b off cap : Nat) (zs : List DkE) (hlen : zs.length ≤ 1048576) (hb : b < n₀) (J Jx : List (Int × DkE) → World → Prop) (n : Nat)
  (hY : ∀ pre x W, J pre W → pre.length < zs.length → YieldAt Fence.wide n Tryz.prog l (DkE.encs x) W fun e W' =>
   (e = .returned (.bool true) ∧ J (pre ++ [x]) W' ∧ DkKp n₀ Bs W W') ∨ (e = .returned (.bool false) ∧ Jx (pre ++ [x]) W'))
  (W : World) (hBs : W.cell? ⟨Bs, 0, none⟩ = some (.slice (some ⟨b, off, none⟩) zs.length cap))
  (hc : ∀ j, j < zs.length → W.cell? ⟨b, off + j * 2, none⟩ = some (.string zs[j]!.1.1) ∧ W.cell? ⟨b, off + j * 2 + 1, none⟩ = some (.string zs[j]!.1.2)) (h0 : J [] W) :
  CallsIn Fence.wide (n + 1) Tryz.prog 326 #[.func (.yield l) #[] #[], .pointer (some ⟨Bs, 0, none⟩)] W fun e W' => (∃ v, e = .returned v) ∧
   ((∃ ys, ys = iQ zs zs.length ∧ J ys W') ∨ (∃ pre, (∃ k, k ≤ zs.length ∧ pre = iQ zs k) ∧ Jx pre W')) := by
 refine callsIn_of_wp Tryz.func326 rfl trivial ?_ rfl
 simp only [Tryz.ntmps326, List.size_toArray, List.length_cons, List.length_nil, Nat.reduceAdd, Nat.reduceSub, Array.replicate_succ, Array.replicate_zero, List.push_toArray, List.append_toArray, List.nil_append, List.cons_append]
 gi_wp2
 gi_loopw [3] (fun i wr => ∃ k : Nat, k ≤ zs.length ∧ i = .int .i64 ((zs.length : Int) - 1 - k) ∧ J (iQ zs k) wr ∧ DkKp n₀ Bs W wr)
  (fun i _ => (intOf i + 1).toNat)
 case atStart => exact ⟨0, Nat.zero_le _, by simp, h0, DkKp.refl _ _ _⟩
 case round =>
  obtain ⟨k, hk, rfl, hJs, hnx⟩ := hrel
  have hBx : wr.cell? ⟨Bs, 0, none⟩ = some (.slice (some ⟨b, off, none⟩) zs.length cap) := hnx.2 _ hBs
  by_cases hlt : k < zs.length
  ·obtain ⟨q, hqk⟩ : ∃ q : Nat, q + k + 1 = zs.length := ⟨zs.length - 1 - k, by omega⟩
   have hqz : zs.length - 1 - k = q := by omega
   have hUs := IB zs k
   rw [hqz] at hUs
   obtain ⟨hc1, hc2⟩ := hc q (by omega)
   generalize zs[q]! = z at hUs hc1 hc2
   obtain ⟨fn, tmps, assign, body, hy, hR⟩ := hY _ ((q : Int), z) wr hJs (by rw [Bc]; exact hlt)
   replace hc1 := (hnx.1.cell (p := ⟨b, off + q * 2, none⟩) hb).trans hc1
   replace hc2 := (hnx.1.cell (p := ⟨b, off + q * 2 + 1, none⟩) hb).trans hc2
   dsimp only [DkE.encs] at hy
   rw [show ((zs.length : Int) - 1 - k) = (q : Int) by omega]
   have hq1 : q < zs.length := by omega
   clear hqz hlt
   gi_wp2
   refine hR.mono ?_
   rintro e W3 (⟨rfl, hJ3, hk3⟩ | ⟨rfl, hJx3⟩)
   ·gi_wp2
    go_roundw
    case rel => exact ⟨k + 1, by omega, by congr 1; omega, by rw [hUs]; exact hJ3, hnx.trans hk3⟩
    case measure => simp [intOf]
   ·gi_wp2
    refine bodyPost_ret (results_none rfl _ _ _) rfl ?_
    exact ⟨⟨_, rfl⟩, .inr ⟨_, ⟨k + 1, by omega, hUs.symm⟩, hJx3⟩⟩
  ·obtain rfl : k = zs.length := by omega
   rw [show ((zs.length : Int) - 1 - (zs.length : Nat)) = -1 by omega]
   gi_wp2
   go_end0
   exact ⟨⟨_, rfl⟩, .inl ⟨_, rfl, hJs⟩⟩
theorem Fh (l Bs cap : Nat) (p : Option Addr) (J : List (Int × DkE) → World → Prop) (n : Nat) (W : World) (hBs : W.cell? ⟨Bs, 0, none⟩ = some (.slice p 0 cap)) (h0 : J [] W) :
  CallsIn Fence.wide (n + 1) Tryz.prog 326 #[.func (.yield l) #[] #[], .pointer (some ⟨Bs, 0, none⟩)] W fun e W' => (∃ v, e = .returned v) ∧ J [] W' := by
 refine callsIn_of_wp Tryz.func326 rfl trivial ?_ rfl
 simp only [Tryz.ntmps326, List.size_toArray, List.length_cons, List.length_nil, Nat.reduceAdd, Nat.reduceSub, Array.replicate_succ, Array.replicate_zero, List.push_toArray, List.append_toArray, List.nil_append, List.cons_append]
 gi_wp2
 gi_loopw [3] (fun i wr => i = .int .i64 (-1) ∧ J [] wr) (fun _ _ => 0)
 case atStart => exact ⟨rfl, h0⟩
 case round =>
  obtain ⟨rfl, hJs⟩ := hrel
  gi_wp2
  go_end0
  exact ⟨⟨_, rfl⟩, hJs⟩
theorem TC (n : Nat) (a : Option Addr) (len cap : Nat) (w : World) :
  CallsIn Fence.wide n Tryz.prog 258 #[.slice a len cap] w fun e w' => e = .returned (.func (.func 326) #[] #[.pointer (some ⟨w.heap.size, 0, none⟩)]) ∧ w' = w.alloc (.cells #[.slice a len cap] 35) := by
 refine callsIn_of_wp Tryz.func258 rfl trivial ?_ rfl
 simp only [Tryz.ntmps258, List.size_toArray, List.length_cons, List.length_nil, Nat.reduceAdd, Nat.reduceSub, Array.replicate_succ, Array.replicate_zero, List.push_toArray, List.append_toArray, List.nil_append, List.cons_append]
 gi_wp2
 go_ret
 exact ⟨rfl, rfl⟩
def DkAt (n₀ : Nat) (W : World) (sv : Value) (zs : List DkE) : Prop :=
 (∃ p cap, sv = .slice p 0 cap ∧ zs = []) ∨ ∃ b off cap, sv = .slice (some ⟨b, off, none⟩) zs.length cap ∧ b < n₀ ∧ ∀ j, j < zs.length → W.cell? ⟨b, off + j * 2, none⟩ = some (.string zs[j]!.1.1) ∧ W.cell? ⟨b, off + j * 2 + 1, none⟩ = some (.string zs[j]!.1.2)
theorem DkAt.below {n₀ : Nat} {A B : World} (h : Below n₀ A B) {sv : Value} {zs : List DkE} : DkAt n₀ A sv zs → DkAt n₀ B sv zs
 | .inl e => .inl e
 | .inr ⟨b, off, cap, e, hb, hc⟩ => .inr ⟨b, off, cap, e, hb, fun j hj => ⟨(h.cell (p := ⟨b, off + j * 2, none⟩) hb).trans (hc j hj).1, (h.cell (p := ⟨b, off + j * 2 + 1, none⟩) hb).trans (hc j hj).2⟩⟩
theorem Qa (n Bs n₀ : Nat) (sv : Value) (zs : List DkE) (hlen : zs.length ≤ 1048576) (w : World) (hBs : Bs < w.heap.size) (hn₀ : n₀ ≤ w.heap.size)
  (hc : w.cell? ⟨Bs, 0, none⟩ = some sv) (hI : DkAt n₀ w sv zs) :
  SeqStopsK Fence.wide (n + 1) Tryz.prog 326 #[.pointer (some ⟨Bs, 0, none⟩)] DkE.encs (DkKp n₀ Bs) (fun ys => ys = iQ zs zs.length) (fun pre => ∃ k, k ≤ zs.length ∧ pre = iQ zs k) zs.length w := fun l J Jx W hW _ _ hY h0 => by
 have hc' := (hW.cell (p := ⟨Bs, 0, none⟩) hBs).trans hc
 rcases hI.below (hW.mono hn₀) with ⟨p, cap, rfl, rfl⟩ | ⟨b, off, cap, rfl, hb, hcs⟩
 ·exact (Fh l Bs cap p J n W hc' h0).mono fun e W' ⟨he, hj⟩ => ⟨he, .inl ⟨_, rfl, hj⟩⟩
 ·refine (Qo l Bs n₀ b off cap zs hlen hb J Jx n hY W hc' hcs h0).mono ?_
  rintro e W' ⟨he, h⟩
  exact ⟨he, h⟩
def oO (nb : ByteArray → ByteArray) (s : ByteArray) (x : Int × DkE) : ByteArray := s ++ ((((⟨#[1]⟩ : ByteArray) ++ x.2.1.1) ++ (⟨#[61]⟩ : ByteArray)) ++ nb x.2.1.2)
def ni (nb : ByteArray → ByteArray) (l : List (Int × DkE)) : ByteArray := l.foldl (oO nb) .empty
theorem Js (nb : ByteArray → ByteArray) (l : List (Int × DkE)) (x : Int × DkE) : ni nb (l ++ [x]) = oO nb (ni nb l) x := by simp [ni]
theorem Hy {nb : ByteArray → ByteArray} (hn : ∀ b, (nb b).size ≤ b.size + 100) : ∀ (l : List (Int × DkE)) (s : ByteArray), (l.foldl (oO nb) s).size ≤ s.size + l.length * 4194304 := by
 intro l
 induction l with
 | nil => intro s; simp
 | cons x l ih =>
  intro s
  have h := ih (oO nb s x)
  have h1 := x.2.2.1
  have h2 := x.2.2.2
  have h3 := hn x.2.1.2
  have e1 : (⟨#[1]⟩ : ByteArray).size = 1 := rfl
  have e2 : (⟨#[61]⟩ : ByteArray).size = 1 := rfl
  simp only [List.foldl_cons, List.length_cons]
  simp only [oO, ByteArray.size_append] at h ⊢
  omega
theorem Jp {nb : ByteArray → ByteArray} (hn : ∀ b, (nb b).size ≤ b.size + 100) (l : List (Int × DkE)) : (ni nb l).size ≤ l.length * 4194304 := by
 have h := Hy hn l .empty
 have e : (ByteArray.empty).size = 0 := rfl
 rw [e] at h
 rw [ni]
 omega
def alU (W : World) (B : Nat) (x : DkE) : Prop := W.heap[B]? = some (.cells #[.string x.1.1, .string x.1.2] 102 (0, 0))
def CellS (W : World) (B : Nat) (k : ByteArray) : Prop := W.cell? ⟨B, 0, none⟩ = some (.string k) ∧ W.frozen? ⟨B, 0, none⟩ = false
theorem CellS.lt {W : World} {B : Nat} {k : ByteArray} (h : CellS W B k) : B < W.heap.size := by
 have := h.1
 simp only [World.cell?] at this
 cases e : W.heap[B]? with
 | none => rw [e] at this; cases this
 | some o => exact (Array.getElem?_eq_some_iff.1 e).1
theorem CellS.block {W W' : World} {B : Nat} {k : ByteArray} (h : CellS W B k) (hb : W'.heap[B]? = W.heap[B]?) : CellS W' B k := ⟨(World.cell?_of_block hb).trans h.1, (World.frozen?_of_block hb).trans h.2⟩
def zk : Code → Code
 | .rangeFunc _ _ _ b => b
 | .seq a b => match zk a with
  | .skip => zk b
  | c => c
 | .block _ b => zk b
 | _ => .skip
noncomputable def bodyC : Code := zk LG
theorem VB : CodeOk Tryz.prog C 170 21 bodyC := gU (FK _) mixed (by decide +kernel)
noncomputable def sH (b : ByteArray) : ByteArray := ⟨(norm b.data.toList).toArray⟩
def wB (key s v : ByteArray) : Nat → R := fun t => if t = 3 then .box 0 [.str key.data.toList] else if t = 5 then .box 1 [.str s.data.toList, .str v.data.toList] else .val .undef
theorem Oy (b : ByteArray) : (sH b).size ≤ b.size + 100 := by
 have := uT (t := b.data.toList)
 show (norm b.data.toList).toArray.size ≤ _
 simp
 omega
theorem QD (key s v : ByteArray) (h1 : key.size ≤ 4398046511104) (h2 : s.size ≤ 1048576) (h3 : v.size ≤ 1048576) :
  WP C 170 bodyC ⟨wB key s v, 2, []⟩ fun ex σ' => ex = .norm ∧ σ'.regs 3 = .box 0 [.str (key ++ ((((⟨#[1]⟩ : ByteArray) ++ s) ++ (⟨#[61]⟩ : ByteArray)) ++ sH v)).data.toList] := by
 have c1 := kC (t := v.data.toList) (H := [])
 have e1 : key.data.toList.length ≤ 4398046511104 := by simpa using h1
 have e2 : s.data.toList.length ≤ 1048576 := by simpa using h2
 have e3 := uT (t := v.data.toList)
 have g1 : 1 + s.size ≤ 4611686018427387904 := by omega
 have g2 : 1 + s.size + 1 ≤ 4611686018427387904 := by omega
 have g2' : s.size + 1 + 1 ≤ 4611686018427387904 := by omega
 have g3 : s.size + 1 + 1 + (norm v.data.toList).length ≤ 4611686018427387904 := by omega
 have g4 : key.size + (s.size + ((norm v.data.toList).length + 1) + 1) ≤ 4611686018427387904 := by omega
 simp [bodyC, zk, LG, Tryz.f170, g1, g2, g2', g3, g4, wB, c1, xu, maxStr, sH, List.lookup, ag]
theorem RU (progOk : ProgOk Tryz.prog C) (a : Option Addr) (len cap : Nat) (zs : List DkE) (hlen : zs.length ≤ 1048576) (w : World) (hI : DkAt w.heap.size w (.slice a len cap) zs) :
  Calls Tryz.prog 170 #[.slice a len cap] w fun e W' => e = .returned (.string (ni sH (iQ zs zs.length))) ∧ Below w.heap.size w W' := by
 refine (callsIn_wide (n := 6)).1 ?_
 refine callsIn_of_wp_marks Tryz.func170 rfl trivial ?_ rfl
 simp only [Tryz.ntmps170, List.size_toArray, List.length_cons, List.length_nil, Nat.reduceAdd, Nat.reduceSub, Array.replicate_succ, Array.replicate_zero, List.push_toArray, List.append_toArray, List.nil_append, List.cons_append]
 gi_wp2_with (refine ⟨trivial, ?_⟩; gi_at_call 258; refine (TC _ _ _ _ _).mono ?_; rintro e w' ⟨rfl, rfl⟩)
 have bS := (Boxed.new w 9 (.string .empty)).alloc (.cells #[.slice a len cap] 35)
 have bA := Boxed.new (w.alloc (.cells #[.string .empty] 9)) 35 (.slice a len cap)
 simp only [World.size_alloc] at bS bA
 have hB0 : Below w.heap.size w ((w.alloc (.cells #[.string .empty] 9)).alloc (.cells #[.slice a len cap] 35)) := ((Below.refl _ w).alloc (Nat.le_refl _) _).alloc (by simp) _
 have hsz : ((w.alloc (.cells #[.string .empty] 9)).alloc (.cells #[.slice a len cap] 35)).heap.size = w.heap.size + 2 := by simp
 change Code.wpIn _ _ _ _ _ _ ((w.alloc (.cells #[.string .empty] 9)).alloc (.cells #[.slice a len cap] 35))
 obtain ⟨W0, hW0⟩ : ∃ W0, (w.alloc (.cells #[.string .empty] 9)).alloc (.cells #[.slice a len cap] 35) = W0 := ⟨_, rfl⟩
 rw [hW0] at bS bA hB0 hsz ⊢
 clear hW0
 refine wpIn_rangeFunc_ownH rfl (by omega) (gf := 326) (lb := #[.pointer (some ⟨w.heap.size + 1, 0, none⟩)]) rfl trivial (enters_of Tryz.func326 (by kernel_rfl) rfl)
  (Qa 4 (w.heap.size + 1) w.heap.size (.slice a len cap) zs hlen W0 (by omega) (by omega) bA.cell (hI.below hB0)) DkKp.trans (UZ (by omega)) (Below.refl _ _) (fun _ => rfl)
  (fun pre W => (CellS W w.heap.size (ni sH pre) ∧ Boxed W (w.heap.size + 1) 35 (.slice a len cap)) ∧ Below w.heap.size w W)
  (fun _ _ _ => False)
  (OwnFrom.and (OwnFrom.and (Own.from (fun s X Y row hs hg hr => ⟨cell_kept hs.1 hg hr, (frozen_kept hs.1 hg hr).trans hs.2⟩) _) (Own.from (boxed_own _ _ _) _)) (ownFrom_below (Nat.le_refl _) (by omega)))
  (fun _ _ _ _ _ hs _ _ => hs)
  ⟨⟨⟨bS.cell, bS.frozen⟩, bA⟩, hB0⟩
  (fun x a' W => ∃ Bx, w.heap.size + 1 < Bx ∧ alU W Bx x.2 ∧ a' = { tmps := #[.slice a len cap, undef, .string ⟨#[]⟩, .pointer (some ⟨w.heap.size, 0, none⟩), undef, .pointer (some ⟨Bx, 0, none⟩), .slice a len cap, .func (.func 326) #[] #[.pointer (some ⟨w.heap.size + 1, 0, none⟩)], .int .i64 x.1, .agg #[.string x.2.1.1, .string x.2.1.2], undef, undef, undef, undef, undef, undef, undef, undef, undef, undef, undef], defers := [] })
  (fun x a' _ X Y row hs hg hr => by
   obtain ⟨Bx, h1, h2, h3⟩ := hs
   refine ⟨Bx, h1, (hg.block Bx (Array.getElem?_eq_some_iff.1 h2).1 fun e => ?_).trans h2, h3⟩
   obtain ⟨_, o, ho, hc⟩ := hr Bx e.symm
   rw [show X.heap[Bx]? = _ from h2] at ho
   cases ho
   cases hc)
  ?assign ?body ?done ?stop
 case assign =>
  rintro l pre x W K ⟨⟨bS1, bA1⟩, hB1⟩ hK
  obtain ⟨i, ⟨⟨s, v⟩, hs⟩⟩ := x
  dsimp only [DkE.encs] at hK ⊢
  gi_wp2
  refine hK _ _ ((KeepsOthers.alloc _ _).from _) ⟨(Below.refl _ W).alloc hB1.size _, fun u hu => (World.cell?_of_block (Below.heap_alloc W _ _ bA1.lt)).trans hu⟩ ⟨⟨bS1.block (Below.heap_alloc W _ _ bS1.lt), bA1.alloc _⟩, hB1.alloc hB1.size _⟩ ⟨W.heap.size, bA1.lt, World.alloc_heap_new W _, rfl⟩
 case body =>
  rintro l pre x a' W hl ⟨r, hr⟩ ⟨⟨bS1, bA1⟩, hB1⟩ ⟨Bx, hBx, bX, rfl⟩ hlt
  have hkz := Jp Oy pre
  obtain ⟨i, ⟨⟨s, v⟩, hs⟩⟩ := x
  dsimp only at hs bX
  have z1 : (ni sH pre).size ≤ 4398046511104 := by omega
  obtain ⟨ex, σ', hex, rfl, hr3⟩ := QD (ni sH pre) s v z1 hs.1 hs.2
  have hBne : w.heap.size ≠ Bx := by omega
  have hBxl : Bx < W.heap.size := (Array.getElem?_eq_some_iff.1 bX).1
  have hsim : Sim (C.locs 170) ⟨wB (ni sH pre) s v, 2, []⟩ (fun _ => none) [w.heap.size, Bx] { tmps := #[.slice a len cap, undef, .string ⟨#[]⟩, .pointer (some ⟨w.heap.size, 0, none⟩), undef, .pointer (some ⟨Bx, 0, none⟩), .slice a len cap, .func (.func 326) #[] #[.pointer (some ⟨w.heap.size + 1, 0, none⟩)], .int .i64 i, .agg #[.string s, .string v], undef, undef, undef, undef, undef, undef, undef, undef, undef, undef, undef], defers := [] } W := {
   heap := ⟨fun id m h => by simp at h, fun id o h => by simp at h, fun id o m h => by simp at h, fun id id' o o' m m' _ h => by simp at h, fun id es cells m h => by simp at h⟩
   lenβ := rfl
   reg := fun t ht => by
    by_cases t3 : t = 3
    ·subst t3; exact ⟨_, rfl, rfl⟩
    by_cases t5 : t = 5
    ·subst t5; exact ⟨_, rfl, rfl⟩
    show RR _ _ _ _ (wB _ _ _ t) _
    simp only [wB, t3, t5, if_false]
    exact .undef _
   box := fun t c cells b ht h1 h2 => by
    simp only [wB] at h1
    split at h1
    ·cases h1
     simp at h2
     subst h2
     refine ⟨fun j u hj => ?_, fun o ho1 ho2 => ?_⟩
     ·match j, hj with
      | 0, hj => cases hj; exact ⟨_, bS1.1, .str _⟩
     ·have : o = 0 := by simp at ho2; omega
      subst this
      exact ⟨⟨_, bS1.1⟩, bS1.2⟩
    split at h1
    ·cases h1
     simp at h2
     subst h2
     have q0 : W.cell? ⟨Bx, 0, none⟩ = some (.string s) := by simp [World.cell?, show W.heap[Bx]? = _ from bX]
     have q1 : W.cell? ⟨Bx, 1, none⟩ = some (.string v) := by simp [World.cell?, show W.heap[Bx]? = _ from bX]
     have q2 : ∀ o, W.frozen? ⟨Bx, o, none⟩ = false := fun o => by simp [World.frozen?, show W.heap[Bx]? = _ from bX]
     refine ⟨fun j u hj => ?_, fun o ho1 ho2 => ?_⟩
     ·match j, hj with
      | 0, hj => cases hj; exact ⟨_, q0, .str _⟩
      | 1, hj => cases hj; exact ⟨_, q1, .str _⟩
     ·have : o = 0 ∨ o = 1 := by simp at ho2; omega
      rcases this with rfl | rfl
      ·exact ⟨⟨_, q0⟩, q2 _⟩
      ·exact ⟨⟨_, q1⟩, q2 _⟩
    ·cases h1
   sepβ := fun id o m b h => by simp at h
   injβ := fun c c' b h1 h2 => by
    match c, c', h1, h2 with
    | 0, 0, _, _ => rfl
    | 1, 1, _, _ => rfl
    | 0, 1, h1, h2 => simp at h1 h2; omega
    | 1, 0, h1, h2 => simp at h1 h2; omega
    | 0, _ + 2, _, h2 => simp at h2
    | 1, _ + 2, _, h2 => simp at h2
    | _ + 2, _, h1, _ => simp at h1
   ltβ := fun b hb => by
    simp at hb
    rcases hb with rfl | rfl
    ·exact bS1.lt
    ·exact hBxl
   uniq := fun t t' c cells cells' _ _ h1 h2 => by
    simp only [wB] at h1 h2
    split at h1
    ·rename_i e
     cases h1
     split at h2
     ·rename_i e'; rw [e, e']
     split at h2
     ·cases h2
     ·cases h2
    split at h1
    ·rename_i e
     cases h1
     split at h2
     ·cases h2
     split at h2
     ·rename_i e'; rw [e, e']
     ·cases h2
    ·cases h1
   loc := fun t c cells _ h1 => by
    simp only [wB] at h1
    split at h1
    ·rename_i e; subst e; simp
    split at h1
    ·rename_i e; subst e; simp
    ·cases h1
   defs := rfl }
  refine P9 (ro := some l) progOk hsim VB hex fun a'' w' hl' => ?_
  obtain ⟨μ', β', k1, k2, k3, k4, k5, k6⟩ := hl'
  have hno : ∀ b, b ≠ w.heap.size → b ≠ Bx → ¬ OwnB (St.heap ⟨wB (ni sH pre) s v, 2, []⟩) (fun _ => none) [w.heap.size, Bx] b := by
   rintro b h1 h2 (⟨id, o, m, h, _⟩ | h)
   ·simp at h
   ·simp at h; omega
  have hsame : ∀ b, b < W.heap.size → b ≠ w.heap.size → b ≠ Bx → w'.heap[b]? = W.heap[b]? := fun b h h1 h2 => k5.same b h (hno b h1 h2)
  have hcell : CellS w' w.heap.size (ni sH (pre ++ [(i, ⟨(s, v), hs⟩)])) := by
   rw [Js]
   have r3 := k1.reg 3 (by rw [k4]; exact (by decide : 3 < 21))
   rw [hr3] at r3
   obtain ⟨b, hb, _⟩ := r3
   have hb0 : β'[0]? = some w.heap.size := by
    obtain ⟨ν, rfl⟩ := k3
    rfl
   rw [hb0] at hb
   cases hb
   obtain ⟨q1, q2⟩ := k1.box 3 0 _ _ (by rw [k4]; exact (by decide : 3 < 21)) hr3 hb0
   obtain ⟨u, hu1, hu2⟩ := q1 0 _ rfl
   obtain ⟨x, rfl, hx⟩ := hu2.str_inv
   refine ⟨?_, (q2 0 (Nat.le_refl _) (by simp)).2⟩
   rw [Nat.zero_add] at hu1
   rw [hu1]
   congr 2
   exact ByteArray.ext (Array.toList_inj.1 hx.symm)
  have hbl : Below w.heap.size W w' := ⟨k5.os, k5.tape, k5.output, k5.size, fun k hk => hsame k (by have := hB1.size; omega) (by omega) (by omega)⟩
  have hbA : Boxed w' (w.heap.size + 1) 35 (.slice a len cap) := (hsame _ bA1.lt (by omega) (by omega)).trans bA1
  refine ⟨⟨k5.size, fun k o hk1 hk2 hk3 => ?_⟩, ⟨hbl, fun u hu => ?_⟩, ⟨hcell, hbA⟩, hB1.trans hbl⟩
  ·by_cases e : k = Bx
   ·subst e
    rw [show W.heap[k]? = _ from bX] at hk2
    cases hk2
    cases hk3
   ·rw [hsame k (Array.getElem?_eq_some_iff.1 hk2).1 (by omega) e]
    exact hk2
  ·rw [bA1.cell] at hu
   cases hu
   exact hbA.cell
 case done =>
  rintro D ys W hD rfl ⟨⟨bS1, bA1⟩, hB1⟩ hK
  have cS := bS1.1
  gi_wp2
  refine ⟨by simp, .inl ⟨_, _, rfl, run_takeDeferred hK, ?_⟩⟩
  exact ⟨_, results_tmp rfl _ _ _, rfl, hB1.trans (belowK_b (w := w) (Nat.le_refl _) W D _ _ (by omega) hK rfl rfl)⟩
 case stop =>
  rintro D c pre W _ _ h _
  exact h.elim
theorem Ak {H : List Ob} {μ : Mu} {w w' : World} (h : HSim H μ w) (hb : Below w.heap.size w w') : HGoes H μ w H μ w' :=
 ⟨h.world (fun id o m h1 h2 h3 => .of_heap (hb.block _ (lw h id o m h1 h2 h3))) hb.size, μ.le_refl, ⟨hb.size, fun b hb' _ => hb.block b hb', fun b h => .inl h, hb.os, hb.tape, hb.output, fun h => (show False from h).elim⟩, Lives.refl _ _ _⟩
noncomputable def uS (p : Str × Str) : DkE := if h : p.1.length ≤ 1048576 ∧ p.2.length ≤ 1048576 then ⟨(⟨p.1.toArray⟩, ⟨p.2.toArray⟩), by simpa [ByteArray.size] using h⟩ else default
theorem Iy {p : Str × Str} (h : p.1.length ≤ 1048576 ∧ p.2.length ≤ 1048576) : (uS p).1 = (⟨p.1.toArray⟩, ⟨p.2.toArray⟩) := by unfold uS; rw [dif_pos h]
theorem BJ : ∀ {cs : List V} {l : List (Str × Str)}, qp cs = some l → ∀ (j : Nat) p, l[j]? = some p → cs[j * 2]? = some (.str p.1) ∧ cs[j * 2 + 1]? = some (.str p.2)
 | cs, l, h, j, p, hp => by
  unfold qp at h
  split at h
  ·cases h; cases hp
  ·rename_i a v rest
   split at h
   ·rename_i l' hl'
    cases h
    cases j with
    | zero => cases hp; exact ⟨rfl, rfl⟩
    | succ j =>
     have ih := BJ hl' j p (by simpa using hp)
     rw [show (j + 1) * 2 = j * 2 + 1 + 1 by omega]
     simpa using ih
   ·cases h
  ·cases h
theorem J8 (zs : List DkE) : (iQ zs zs.length).map Prod.snd = zs.reverse := by
 apply List.ext_getElem
 ·simp [iQ]
 ·intro i h1 h2
  simp only [List.length_reverse] at h2
  simp only [iQ, List.map_map, List.getElem_map, List.getElem_range, Function.comp, List.getElem_reverse]
  rw [getElem!_pos]
theorem GG : ∀ (l : List (Str × Str)) (s : ByteArray), yc l = true → ((l.map uS).foldl (fun s z => oO sH s (0, z)) s).data.toList = l.foldl iL s.data.toList
 | [], s, _ => rfl
 | p :: l, s, h => by
  simp only [yc, List.all_cons, Bool.and_eq_true, decide_eq_true_eq] at h
  have ih := GG l (oO sH s (0, uS p)) (by simpa [yc] using h.2)
  rw [List.map_cons, List.foldl_cons, List.foldl_cons, ih]
  congr 1
  simp only [oO, Iy h.1, iL, sH]
  simp
theorem Vs {l : List (Str × Str)} (h : yc l = true) : (ni sH (iQ (l.map uS) (l.map uS).length)).data.toList = Uk l := by
 have e : ni sH (iQ (l.map uS) (l.map uS).length) = ((iQ (l.map uS) (l.map uS).length).map Prod.snd).foldl (fun s z => oO sH s (0, z)) .empty := by
  rw [List.foldl_map]
  rfl
 rw [e, J8, ← List.map_reverse, GG _ _ (by unfold yc at h ⊢; rw [List.all_reverse]; exact h)]
 rfl
theorem dkPrim_ok (progOk : ProgOk Tryz.prog C) : jT Tryz.prog 170 uf := by
 intro args H r H' h μ w us hs hv
 have hent : ∀ us w, (callFunc 170 us).run Tryz.prog w = .ok (.enter 170 us) w := enters_of Tryz.func170 (by kernel_rfl) rfl
 unfold uf at h
 split at h
 case h_2 => cases h
 rename_i p n
 obtain ⟨u, rfl, hu⟩ := hv.one
 refine .inr ⟨hent _ _, ?_⟩
 split at h
 ·rename_i hn
  subst hn
  cases h
  have : ∃ q c, u = .slice q 0 c := by
   cases p with
   | none => obtain ⟨rfl, _⟩ := hu.slcN_inv; exact ⟨_, _, rfl⟩
   | some p =>
    obtain ⟨id, off⟩ := p
    obtain ⟨m, _, ⟨c, _, _, _, rfl⟩ | ⟨_, _, a, rfl⟩⟩ := hu.slc_inv <;> exact ⟨_, _, rfl⟩
  obtain ⟨q, c, rfl⟩ := this
  refine (RU progOk q 0 c [] (by simp) w (.inl ⟨q, c, rfl, rfl⟩)).mono ?_
  rintro e w' ⟨rfl, hb⟩
  exact ⟨_, rfl, μ, Ak hs hb, VR.str .empty⟩
 rename_i hn
 split at h
 case isFalse => cases h
 rename_i hn1
 split at h
 case h_2 => cases h
 rename_i id off
 split at h
 case h_2 => cases h
 rename_i own cells ho
 split at h
 case isFalse => cases h
 rename_i hlen
 split at h
 case h_2 => cases h
 rename_i l hl
 split at h
 case isFalse => cases h
 rename_i hf
 obtain ⟨hf, hln⟩ := hf
 cases h
 obtain ⟨m, hm, ⟨c, hc1, hc2, hc3, rfl⟩ | ⟨h0, _⟩⟩ := hu.slc_inv
 rotate_left
 ·exact absurd h0 hn
 obtain ⟨g1, g2, g3, g4, g5, g6⟩ := hs.obj id _ m ho hm
 have hfit : ∀ p ∈ l, p.1.length ≤ 1048576 ∧ p.2.length ≤ 1048576 := fun p hp => by
  have := List.all_eq_true.1 hf p hp
  simpa using this
 have hI : DkAt w.heap.size w (.slice (some ⟨m.blk, m.base + off, none⟩) n c) (l.map uS) := by
  refine .inr ⟨m.blk, m.base + off, c, by rw [List.length_map, hln], g5, fun j hj => ?_⟩
  rw [List.length_map] at hj
  have hpj : l[j]? = some l[j] := List.getElem?_eq_getElem hj
  obtain ⟨q1, q2⟩ := BJ hl j _ hpj
  have hget : ∀ k, k < n * 2 → ((cells.drop off).take (n * 2))[k]? = cells[off + k]? := fun k hk => by rw [List.getElem?_take_of_lt hk, List.getElem?_drop]
  rw [hget _ (by omega)] at q1 q2
  obtain ⟨u1, a1, a2⟩ := g4 _ _ q1
  obtain ⟨u2, b1, b2⟩ := g4 _ _ q2
  obtain ⟨x1, rfl, ex1⟩ := a2.str_inv
  obtain ⟨x2, rfl, ex2⟩ := b2.str_inv
  have hz : (l.map uS)[j]! = uS l[j] := by rw [getElem!_pos _ _ (by simpa using hj)]; simp
  rw [hz, Iy (hfit _ (List.getElem_mem hj))]
  have e1 : x1 = ⟨(l[j]).1.toArray⟩ := ByteArray.ext (by simp [ex1])
  have e2 : x2 = ⟨(l[j]).2.toArray⟩ := ByteArray.ext (by simp [ex2])
  rw [← Nat.add_assoc] at a1 b1
  rw [← Nat.add_assoc] at b1
  rw [a1, b1, e1, e2]
  exact ⟨rfl, rfl⟩
 refine (RU progOk _ n c (l.map uS) (by rw [List.length_map]; omega) w hI).mono ?_
 rintro e w' ⟨rfl, hb⟩
 refine ⟨_, rfl, μ, Ak hs hb, ?_⟩
 rw [← Vs hf]
 exact .str _
end Go.Proofs.Try0
end
section
namespace Go.Proofs.Try1
open Go Go.Lite
theorem ae6 : jT Tryz.prog 170 uf := Try0.dkPrim_ok Lr
end Go.Proofs.Try1
end
