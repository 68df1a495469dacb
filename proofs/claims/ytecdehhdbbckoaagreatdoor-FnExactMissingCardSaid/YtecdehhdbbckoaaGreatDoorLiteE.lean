/- Two functions of the library that are given by what they do. Conditions: none but those that each theorem names. -/
import Derived.Test.YtecdehhdbbckoaaGreatDoorLiteA
import Derived.Lib.Bytealg
import Derived.Test.YtecdehhdbbckoaaGreatDoorLiteC
import Derived.Laws.Externs
import Derived.CallsIn
import Derived.Sort.EncStr
import Derived.Sort.Grow

namespace Go.Lite
open Go

/-- Two texts are compared. -/
def cmpPrim : List V → List Ob → Option (V × List Ob)
  | [.str a, .str b], H => some (.int .i64 (Lib.compareBytes a b), H)
  | _, _ => none

/-- Cells that hold texts. -/
def strsOf : List V → Option (List (List UInt8))
  | [] => some []
  | .str s :: vs => match strsOf vs with
    | some l => some (s :: l)
    | none => none
  | _ => none

/-- A slice of texts is sorted where it stands. -/
def sortPrim : List V → List Ob → Option (V × List Ob)
  | [.slc p n], H => if n = 0 then some (.tup [], H) else match p with
    | some (id, off) => (match H[id]? with
      | some (.mk true es cells) => if es = 1 ∧ off + n ≤ cells.length ∧ n ≤ 1000000 then (match strsOf ((cells.drop off).take n) with
        | some ss => some (.tup [], H.set id (.mk true es (setRange cells off ((ss.mergeSort fun x y => decide (x ≤ y)).map V.str))))
        | none => none) else none
      | _ => none)
    | none => none
  | _, _ => none
end Go.Lite

namespace Go.Lite
open Go
set_option linter.unusedSimpArgs false
set_option linter.unusedVariables false

theorem VL.one {μ : Mu} {v : V} {us : Array Value} (h : VL μ [v] us.toList) : ∃ u, us = #[u] ∧ VR μ v u := by
  have hl := h.length
  match us, hl, h with
  | ⟨[u]⟩, _, h => exact ⟨u, rfl, h.get 0 v u rfl rfl⟩
theorem VL.two {μ : Mu} {v v' : V} {us : Array Value} (h : VL μ [v, v'] us.toList) : ∃ u u', us = #[u, u'] ∧ VR μ v u ∧ VR μ v' u' := by
  have hl := h.length
  match us, hl, h with
  | ⟨[u, u']⟩, _, h => exact ⟨u, u', rfl, h.get 0 v u rfl rfl, h.get 1 v' u' rfl rfl⟩

theorem cmpPrim_ok {P : Program} {g : FuncId} {fn : Func} (hf : P.funcs[g]? = some fn) (hname : (fn.name == "runtime.NumGoroutine") = false) (hb : fn.body.isNone = true) (hn : Extern.findNext fn = none) (he : Extern.find fn = some Extern.BytealgCompare.compare) : PrimOk P g cmpPrim := by
  intro args H r H' h μ w us hs hv
  unfold cmpPrim at h
  split at h
  · rename_i a b
    cases h
    obtain ⟨u, u', rfl, h1, h2⟩ := hv.two
    obtain ⟨x, rfl, rfl⟩ := h1.str_inv
    obtain ⟨y, rfl, rfl⟩ := h2.str_inv
    refine .inl ⟨.int .i64 (Lib.compareBytes x.data.toList y.data.toList), w, ?_, μ, .refl hs, .int _ _⟩
    rw [run_callFunc_extern hf hname hb hn he, Lib.run_compareString]
    rfl
  · cases h

theorem strsOf_get : ∀ {cs : List V} {l : List (List UInt8)}, strsOf cs = some l → cs = l.map V.str
  | [], l, h => by cases h; rfl
  | c :: cs, l, h => by
    unfold strsOf at h
    split at h
    · rename_i he; cases he
    · rename_i s vs he
      cases he
      split at h
      · rename_i l' hl
        cases h
        rw [List.map_cons, ← strsOf_get hl]
      · cases h
    · cases h

theorem cells_get' {cells l : List V} {o n : Nat} (h : (cells.drop o).take n = l) {j : Nat} (hj : j < n) : cells[o + j]? = l[j]? := by
  subst h
  rw [List.getElem?_take_of_lt hj, List.getElem?_drop]

theorem HGoes.garbage {H : List Ob} {μ : Mu} {w : World} (h : HSim H μ w) (n : Nat) (os : Array Obj) : HGoes H μ w H μ (Sort.grow (Sort.ahead w n) os) := by
  have hsame : ∀ b, b < w.heap.size → (Sort.grow (Sort.ahead w n) os).heap[b]? = w.heap[b]? := fun b hb => by
    show (w.heap ++ os)[b]? = _
    rw [Array.getElem?_append_left hb]
  have hsz : w.heap.size ≤ (Sort.grow (Sort.ahead w n) os).heap.size := by
    show _ ≤ (w.heap ++ os).size
    rw [Array.size_append]; omega
  exact ⟨h.world (fun id o m h1 h2 h3 => .of_heap (hsame _ (live_lt h id o m h1 h2 h3))) hsz, μ.le_refl, ⟨hsz, fun b hb _ => hsame b hb, fun b hb => .inl hb, rfl, rfl, rfl⟩, Lives.refl _ _ _⟩

theorem putRow_wrote {w : World} {blk off : Nat} {d d' : Array (List UInt8)} (h0 : Sort.Holds Go.Proofs.encStr w blk off d) (hs : d'.size = d.size) : Wrote w (Sort.putRow Go.Proofs.encStr w blk off d') blk off (d'.toList.map Go.Proofs.encStr) where
  size := by simp
  os := rfl
  tape := rfl
  drawn := rfl
  output := rfl
  other b' hb := by
    show (w.heap.modify blk _)[b']? = _
    rw [Array.getElem?_modify, if_neg (fun e => hb e.symm)]
  cell j := by
    rw [List.length_map, Array.length_toList]
    split
    · rename_i hj
      have := Sort.cell?_putRow Go.Proofs.encStr w blk off d d' h0 hs (j - off) (by omega)
      rw [show off + (j - off) = j by omega] at this
      rw [this, List.getElem?_map, Array.getElem?_toList, Array.getElem?_eq_getElem (by omega), getElem!_pos d' (j - off) (by omega)]
      rfl
    · rename_i hj
      exact Sort.cell?_putRow_other Go.Proofs.encStr w blk off d' ⟨blk, j, none⟩ (by simp only; omega)
  frozen j := by simp

theorem sortPrim_ok {P : Program} {g : FuncId} (hcall : ∀ us w, (callFunc g us).run P w = .ok (.enter g us) w)
    (hsort : ∀ (blk off cap : Nat) (zs : List (List UInt8)) (w : World), Sort.Holds Go.Proofs.encStr w blk off zs.toArray → blk < w.heap.size → zs.length < 4611686018427387904 → Calls P g #[.slice (some ⟨blk, off, none⟩) zs.length cap] w fun e w' =>
      e = .returned (.tuple #[]) ∧ ∃ n os, w' = Sort.grow (Sort.putRow Go.Proofs.encStr (Sort.ahead w n) blk off (zs.mergeSort fun x y => decide (x ≤ y)).toArray) os)
    (hnone : ∀ (p : Option Addr) (cap : Nat) (w : World), Calls P g #[.slice p 0 cap] w fun e w' => e = .returned (.tuple #[]) ∧ w' = w) : PrimOk P g sortPrim := by
  intro args H r H' h μ w us hs hv
  have htup : ∀ μ : Mu, VR μ (.tup []) (.tuple #[]) := fun μ => VR.tup [] #[] rfl (fun i v u h _ => by simp at h)
  unfold sortPrim at h
  split at h
  case h_2 => cases h
  rename_i p n
  obtain ⟨u, rfl, hu⟩ := hv.one
  refine .inr ⟨hcall _ _, ?_⟩
  split at h
  · rename_i hn
    subst hn
    cases h
    have : ∃ q c, u = .slice q 0 c := by
      cases p with
      | none => obtain ⟨rfl, _⟩ := hu.slcN_inv; exact ⟨_, _, rfl⟩
      | some p =>
        obtain ⟨id, off⟩ := p
        obtain ⟨m, _, ⟨c, _, _, _, rfl⟩ | ⟨_, _, a, rfl⟩⟩ := hu.slc_inv <;> exact ⟨_, _, rfl⟩
    obtain ⟨q, c, rfl⟩ := this
    refine (hnone q c w).mono ?_
    rintro e w' ⟨rfl, rfl⟩
    exact ⟨_, rfl, μ, .refl hs, htup μ⟩
  · rename_i hn
    split at h
    case h_2 => cases h
    rename_i id off
    split at h
    case h_2 => cases h
    rename_i es cells ho
    split at h
    case isFalse => cases h
    rename_i hc
    obtain ⟨rfl, hlen, hmax⟩ := hc
    split at h
    case h_2 => cases h
    rename_i ss hss
    cases h
    have hcs := strsOf_get hss
    have hssl : ss.length = n := by
      have := congrArg List.length hcs
      simp at this
      omega
    obtain ⟨m, hm, ⟨c, hc1, hc2, hc3, rfl⟩ | ⟨h0, _⟩⟩ := hu.slc_inv
    rotate_left
    · exact absurd h0 hn
    obtain ⟨g1, g2, g3, g4, g5, g6⟩ := hs.obj id _ m ho hm
    obtain ⟨g6, g7⟩ := g6 rfl
    have hget : ∀ j, j < ss.length → cells[off + j]? = some (.str ss[j]!) := fun j hj => by
      rw [cells_get' hcs (show j < n by omega), List.getElem?_map, List.getElem?_eq_getElem hj]
      simp [hj]
    have hH : Sort.Holds Go.Proofs.encStr w m.blk (m.base + off) ss.toArray := fun j hj => by
      simp only [List.size_toArray] at hj
      obtain ⟨u, hu1, hu2⟩ := g4 (off + j) _ (hget j hj)
      obtain ⟨b, rfl, hb⟩ := hu2.str_inv
      have hbe : Value.string b = Go.Proofs.encStr ss[j]! := by
        show _ = Value.string ⟨ss[j]!.toArray⟩
        rw [hb]
      refine ⟨?_, ?_⟩
      · rw [Nat.add_assoc, hu1, hbe]
        congr 2
        simp [hj]
      · exact (g7 (m.base + off + j) (by omega) (by omega)).2
    have hsort' := hsort m.blk (m.base + off) c ss w hH g5 (by omega)
    rw [hssl] at hsort'
    refine hsort'.mono ?_
    rintro e w' ⟨rfl, k, os, rfl⟩
    refine ⟨_, rfl, μ, ?_, htup μ⟩
    have hlen2 : (ss.mergeSort fun x y => decide (x ≤ y)).length = ss.length := List.length_mergeSort ss
    have hwr := putRow_wrote (d' := (ss.mergeSort fun x y => decide (x ≤ y)).toArray) hH (by simp [hlen2])
    have hvl : VL μ ((ss.mergeSort fun x y => decide (x ≤ y)).map V.str) (((ss.mergeSort fun x y => decide (x ≤ y)).toArray).toList.map Go.Proofs.encStr) := by
      refine VL.of_get (by simp) fun i v u h1 h2 => ?_
      simp only [List.getElem?_map] at h1 h2
      cases hx : (ss.mergeSort fun x y => decide (x ≤ y))[i]? with
      | none => rw [hx] at h1; cases h1
      | some s =>
        rw [hx] at h1 h2
        cases h1
        cases h2
        exact VR.str ⟨s.toArray⟩
    have hgo := HGoes.write hs ho hm hwr hvl (by rw [List.length_map, hlen2]; omega)
    rw [Sort.putRow_ahead]
    exact hgo.trans (HGoes.garbage hgo.sim k os)
end Go.Lite
