/- Part 03 of the proof of a law: the interpreter, its soundness, and what functions of the program compute over it. Conditions: none but those that each theorem names. -/
import Derived.Test.YtdkbgdjfmbppfaaGreatDoorE02
import Derived.CallsIn
import Derived.ControlIn
import Derived.LoopNIn
import Derived.OrdersIn
import Derived.RangeFuncCalls
import Derived.Orders

set_option linter.all false
set_option maxRecDepth 20000
set_option maxHeartbeats 40000000
section
namespace Go.Lite
open Go
variable [Draws]
section
variable {P : Program} {L : List Nat} {σ σ' : St} {μ : Mu} {β : List Nat} {a : Act} {w w' : World}
abbrev rf (ro : Option Nat) : Fence := { Fence.wide with round := ro }
theorem ve {o : Oper} {ρ : Operand → Value} {u : Value} (h : (execOp ρ o).run P w = .ok (.value u) w') : ∀ c, o.op ≠ .defer c := by
 intro c hc
 unfold execOp at h
 rw [hc] at h
 simp only [Sem.run_bind] at h
 cases hr : (resolve ρ c o.type).run P w with
 | ok d w1 => rw [hr] at h; simp [Result.andThen] at h
 | halt x w1 => rw [hr] at h; simp [Result.andThen] at h
theorem xI {o : Oper} {ρ : Operand → Value} (h : (execOp ρ o).run P w = .ok .skip w') : ∀ c, o.op ≠ .defer c := by
 intro c hc
 unfold execOp at h
 rw [hc] at h
 simp only [Sem.run_bind] at h
 cases hr : (resolve ρ c o.type).run P w with
 | ok d w1 => rw [hr] at h; simp [Result.andThen] at h
 | halt x w1 => rw [hr] at h; simp [Result.andThen] at h
theorem DF {ro : Option Nat} {n : Nat} {f : FuncId} {args : Array Value} {R : Ending → World → Prop} (h : Calls P f args w R) : CallsIn (rf ro) n P f args w R := by
 cases ro with
 | none => exact callsIn_wide.2 h
 | some l => exact CallsIn.inRound l (callsIn_wide.2 h)
def zh (N : Nat → Prop) (P : Program) (L : List Nat) (o : Oper) (σ : St) (μ : Mu) (β : List Nat) (a : Act) (w : World) (σ' : St) : Prop :=
 ∀ (ro : Option Nat) (next : Act → World → Prop) (Q : Exit → Act → World → Prop), (∀ a' w', LeadsB N L σ μ β a w σ' a' w' → next a' w') → o.wpIn (rf ro) 0 P a w next Q
abbrev OpGoes (P : Program) (L : List Nat) (o : Oper) (σ : St) (μ : Mu) (β : List Nat) (a : Act) (w : World) (σ' : St) : Prop := zh (fun id => σ.heap.length ≤ id) P L o σ μ β a w σ'
theorem OpGoes.value {N : Nat → Prop} {o : Oper} {u : Value} (h : (execOp a.eval o).run P w = .ok (.value u) w') (hl : LeadsB N L σ μ β a w σ' (a.put o.dst u) w') : zh N P L o σ μ β a w σ' := by
 intro ro next Q hn
 refine ⟨fun _ _ => trivial, ?_⟩
 rw [Oper.semAt_eq _ _ _ (ve h), h, Oper.uponIn_value]
 exact hn _ _ hl
theorem OpGoes.skip {o : Oper} (h : (execOp a.eval o).run P w = .ok .skip w') (hl : Leads L σ μ β a w σ' (a.put o.dst undef) w') : OpGoes P L o σ μ β a w σ' := by
 intro ro next Q hn
 refine ⟨fun _ _ => trivial, ?_⟩
 rw [Oper.semAt_eq _ _ _ (xI h), h, Oper.uponIn_skip]
 exact hn _ _ hl
theorem Sim.newbox (hs : Sim L σ μ β a w) {d : Nat} (hd : d < a.tmps.size) (hL : d ∈ L) {t : TypeId} {cells : List V} {us : Array Value} (hc : VL μ cells us.toList) :
  Leads L σ μ β a w { σ with cnt := σ.cnt + 1, regs := upd σ.regs d (.box σ.cnt cells) } (a.put (some d) (.pointer (some ⟨w.heap.size, 0, none⟩))) (w.alloc (.cells us t)) := by
 have old : ∀ b, b < w.heap.size → SameBlk w (w.alloc (.cells us t)) b := fun b hb => .alloc _ hb
 have hsz : (w.alloc (.cells us t)).heap.size = w.heap.size + 1 := by simp
 have hβ : ∀ c b, (β ++ [w.heap.size])[c]? = some b → (β[c]? = some b ∧ c < σ.cnt) ∨ (c = σ.cnt ∧ b = w.heap.size) := by
  intro c b h
  have hl := hs.lenβ
  by_cases hcl : c < β.length
  ·rw [List.getElem?_append_left hcl] at h; exact .inl ⟨h, by omega⟩
  ·have : c < (β ++ [w.heap.size]).length := (List.getElem?_eq_some_iff.1 h).1
   simp at this
   have e : c = β.length := by omega
   subst e
   rw [List.getElem?_append_right (Nat.le_refl _)] at h
   simp at h
   exact .inr ⟨hl, h.symm⟩
 have mem : ∀ b, b ∈ β ++ [w.heap.size] → b ∈ β ∨ b = w.heap.size := fun b h => by simpa using h
 have hnew : (β ++ [w.heap.size])[σ.cnt]? = some w.heap.size := by rw [← hs.lenβ]; simp
 have nb : ∀ t' c' cells', upd σ.regs d (.box σ.cnt cells) t' = .box c' cells' → (t' = d ∧ c' = σ.cnt ∧ cells' = cells) ∨ (t' ≠ d ∧ σ.regs t' = .box c' cells') := by
  intro t' c' cells' h
  by_cases e : t' = d
  ·subst e; rw [lX] at h; cases h; exact .inl ⟨rfl, rfl, rfl⟩
  ·rw [upd_ne _ e] at h; exact .inr ⟨e, h⟩
 have stamp : ∀ t' c' cells', t' < a.tmps.size → σ.regs t' = .box c' cells' → c' < σ.cnt := by
  intro t' c' cells' ht h
  have := hs.reg t' ht
  rw [h] at this
  obtain ⟨b, hb, _⟩ := this
  rw [← hs.lenβ]
  exact (List.getElem?_eq_some_iff.1 hb).1
 have hh : HSim σ.heap μ (w.alloc (.cells us t)) := hs.heap.world (fun id o m h1 h2 h3 => old _ (kX hs.heap id o m h1 h2 h3)) (by omega)
 refine ⟨μ, β ++ [w.heap.size], ⟨hh, by simp [hs.lenβ], fun t' ht' => ?_, fun t' c' cells' b ht' h1 h2 => ?_, fun id o m b h1 h2 h3 h4 => ?_, fun c c' b h1 h2 => ?_, fun b hb => ?_, fun t1 t2 c' c1 c2 ht1 ht2 h1 h2 => ?_, fun t' c' cells' ht' h1 => ?_, by simpa [Act.put] using hs.defs⟩,
  μ.le_refl, List.prefix_append _ _, gm _ _ _, ⟨by omega, fun b h1 _ => by simp only [World.alloc]; rw [Array.getElem?_push, if_neg (by omega)], fun b hb => ?_, rfl, rfl, rfl, fun _ => Nat.le_refl _⟩, Lives.refl _ _ _⟩
 ·rw [gm] at ht' ⊢
  rw [BI a d _ hd t']
  by_cases e : t' = d
  ·subst e
   simp only [lX, if_true]
   exact ⟨_, hnew, rfl⟩
  ·simp only [upd_ne _ e, if_neg e]
   exact RR.le μ.le_refl (List.prefix_append _ _) (hs.reg t' ht')
 ·rw [gm] at ht'
  rcases nb t' c' cells' h1 with ⟨rfl, rfl, rfl⟩ | ⟨e, h3⟩
  ·rw [hnew] at h2; cases h2
   have hl := hc.length
   simp only [Array.length_toList] at hl
   refine ⟨fun j v hv => ?_, fun j h3 h4 => ?_⟩
   ·have hj : j < us.size := by have := (List.getElem?_eq_some_iff.1 hv).1; omega
    refine ⟨us[j], by simp [hj], hc.get j v _ hv (by simp [hj])⟩
   ·have hj : j < us.size := by omega
    exact ⟨⟨us[j], by simp [hj]⟩, by simp⟩
  ·rcases hβ c' b h2 with ⟨h4, _⟩ | ⟨h4, _⟩
   ·obtain ⟨k1, k2⟩ := hs.box t' c' cells' b ht' h3 h4
    have := old b (hs.ltβ b (List.mem_of_getElem? h4))
    exact ⟨k1.same this, k2.same this⟩
   ·have := stamp t' c' cells' ht' h3
    omega
 ·rcases mem b h4 with h5 | rfl
  ·exact hs.sepβ id o m b h1 h2 h3 h5
  ·exact Nat.ne_of_lt (kX hs.heap id o m h1 h2 h3)
 ·rcases hβ c b h1 with ⟨h3, h4⟩ | ⟨h3, h4⟩ <;> rcases hβ c' b h2 with ⟨h5, h6⟩ | ⟨h5, h6⟩
  ·exact hs.injβ c c' b h3 h5
  ·have := hs.ltβ b (List.mem_of_getElem? h3); omega
  ·have := hs.ltβ b (List.mem_of_getElem? h5); omega
  ·omega
 ·rcases mem b hb with h5 | rfl
  ·have := hs.ltβ b h5; omega
  ·omega
 ·rw [gm] at ht1 ht2
  rcases nb t1 c' c1 h1 with ⟨e1, e1', _⟩ | ⟨e1, g1⟩ <;> rcases nb t2 c' c2 h2 with ⟨e2, e3, _⟩ | ⟨e2, g2⟩
  ·omega
  ·have := stamp t2 _ c2 ht2 g2; omega
  ·have := stamp t1 _ c1 ht1 g1; omega
  ·exact hs.uniq t1 t2 _ c1 c2 ht1 ht2 g1 g2
 ·rw [gm] at ht'
  rcases nb t' c' cells' h1 with ⟨rfl, rfl, rfl⟩ | ⟨e, h3⟩
  ·exact hL
  ·exact hs.loc t' c' cells' ht' h3
 ·rcases hb with h1 | h1
  ·exact .inl (.inl h1)
  ·rcases mem b h1 with h2 | rfl
   ·exact .inl (.inr h2)
   ·exact .inr (Nat.le_refl _)
theorem qU {C : Ctx} {f : Nat} (hs : Sim (C.locs f) σ μ β a w) {d : Option Nat} (hd : ∀ x, d = some x → x < a.tmps.size) {t : TypeId} {cells : List V} {us : Array Value} (hc : VL μ cells us.toList)
  (h : newVar C f σ d t cells = some σ') : Leads (C.locs f) σ μ β a w σ' (a.put d (.pointer (some ⟨w.heap.size, 0, none⟩))) (w.alloc (.cells us t)) := by
 unfold newVar at h
 split at h
 ·rename_i d
  split at h
  ·rename_i hL
   cases h
   exact Sim.newbox hs (hd d rfl) (by simpa using hL) hc
  ·cases h
   have hl := hc.length
   simp only [Array.length_toList] at hl
   have hgo := HGoes.new (es := aV (C.ty t) C.ty) (w' := w.alloc (.cells us t)) (fz := (0, 0)) hs.heap (cells := cells) (us := us) (ty := t) (by rw [List.take_of_length_le (by simp; omega)]; exact hc) (by omega) rfl (.inr (Nat.le_refl _)) rfl rfl rfl
   have := Leads.heap_put hs hgo hd (d := some d) (v := .ptr (some (σ.heap.length, 0))) (VR.ptr _ _ ⟨w.heap.size, 0, cells.length, aV (C.ty t) C.ty, us.size, true⟩ (Mu.add_self _ _ _))
   simpa [St.put] using this
 ·cases h
theorem CS {C : Ctx} {f : Nat} (hty : TysOk P C.ty) (hs : Sim (C.locs f) σ μ β a w) {o : Oper} (hd : ∀ x, o.dst = some x → x < a.tmps.size) {t : TypeId} (ho : o.op = .alloc t) (hz : 0 < (C.ty t).size)
  (h : newVar C f σ o.dst t (C.ty t).zero = some σ') : OpGoes P (C.locs f) o σ μ β a w σ' := by
 obtain ⟨z, h1, h2⟩ := jw (w := w) (μ := μ) (hty.of_size (t := t) (by omega))
 refine OpGoes.value (u := .pointer (some ⟨w.heap.size, 0, none⟩)) (w' := w.alloc (.cells z.cells t)) ?_ (qU hs hd h2 h)
 unfold execOp
 rw [ho]
 simp [Instr.alloc, h1, Go.newVar, newRow]
theorem JE {C : Ctx} {f : Nat} (hs : Sim (C.locs f) σ μ β a w) {o : Oper} (hd : ∀ x, o.dst = some x → x < a.tmps.size) {t : TypeId} {x : Operand} (ho : o.op = .box t x) (hx : OpdOk a.tmps.size x)
  {v : V} {cs : List V} (h1 : ev σ x = some v) (h2 : cellsOf v = some cs) (h : newVar C f σ o.dst t cs = some σ') : OpGoes P (C.locs f) o σ μ β a w σ' := by
 have hc := jr h2 (aN hs hx h1)
 refine OpGoes.value (u := .pointer (some ⟨w.heap.size, 0, none⟩)) (w' := w.alloc (.cells (a.eval x).cells t)) ?_ (qU hs hd hc h)
 unfold execOp
 rw [ho]
 simp [Instr.box, Go.newVar, newRow]
theorem lD (hs : Sim L σ μ β a w) {p : Pl} {b o : Nat} (hp : (∃ t c off, p = .loc t c off ∧ t < a.tmps.size ∧ β[c]? = some b ∧ o = 0 + off) ∨ (∃ id off m, p = .hp id off ∧ μ id = some m ∧ m.blk = b ∧ o = m.base + off))
  {xs : List V} {us : List Value} (hx : VL μ xs us) (hone : xs.all aJ = true) (h : dB σ p xs = some σ') :
  ∃ w', (storeCells ⟨b, o, none⟩ us).run P w = .ok () w' ∧ Leads L σ μ β a w σ' a w' := by
 have hul := hx.length
 rcases hp with ⟨t, c, off, rfl, ht, hb, rfl⟩ | ⟨id, off, m, rfl, hm, rfl, rfl⟩
 ·simp only [dB] at h
  split at h
  ·rename_i c' cells hq
   split at h
   ·rename_i hcc
    obtain ⟨rfl, hl⟩ := hcc
    cases h
    obtain ⟨_, hf⟩ := hs.box t c' cells b ht hq hb
    obtain ⟨w', h1, h2⟩ := dQ (P := P) b us (0 + off) 0 w (hx.oneCell hone) (hf.mono (by omega) (by omega))
    exact ⟨w', h1, hs.wbox ht hq hb hx hl (by simpa using h2)⟩
   ·cases h
  ·cases h
 ·simp only [dB] at h
  split at h
  ·rename_i es cells hq
   split at h
   ·rename_i hl
    cases h
    obtain ⟨o1, o2, o3, o4, o5, o6⟩ := hs.heap.obj id _ m hq hm
    obtain ⟨o6, o7⟩ := o6 rfl
    obtain ⟨w', h1, h2⟩ := dQ (P := P) m.blk us (m.base + off) 0 w (hx.oneCell hone) (o7.mono (by omega) (by omega))
    exact ⟨w', h1, Leads.of_heap hs (HGoes.write hs.heap hq hm (by simpa using h2) hx hl)⟩
   ·cases h
  ·cases h
theorem Ij (hs : Sim L σ μ β a w) {r : R} {u : Value} (hr : RR L a.tmps.size μ β r u) {p : Pl} (hp : lG r = some p) :
  ∃ b o, u = .pointer (some ⟨b, o, none⟩) ∧ ((∃ t c off, p = .loc t c off ∧ t < a.tmps.size ∧ β[c]? = some b ∧ o = 0 + off) ∨ (∃ id off m, p = .hp id off ∧ μ id = some m ∧ m.blk = b ∧ o = m.base + off)) := by
 rcases vk hp with ⟨t, c, off, rfl, rfl⟩ | ⟨id, off, rfl, rfl⟩
 ·obtain ⟨ht, _, b, hb, rfl⟩ := hr
  exact ⟨b, 0 + off, by simp, .inl ⟨t, c, off, rfl, ht, hb, rfl⟩⟩
 ·obtain ⟨m, hm, rfl⟩ := VR.ptr_inv hr
  exact ⟨m.blk, m.base + off, rfl, .inr ⟨id, off, m, rfl, hm, rfl, rfl⟩⟩
theorem D8 {C : Ctx} {f : Nat} (hty : TysOk P C.ty) (hs : Sim (C.locs f) σ μ β a w) {o : Oper} (hd : ∀ x, o.dst = some x → x < a.tmps.size) {t : TypeId} {x y : Operand} (ho : o.op = .store t x y)
  (hx : OpdOk a.tmps.size x) (hy : OpdOk a.tmps.size y) {r : R} {v : V} {p : Pl} {σ1 : St} (h1 : iU σ x = some r) (h2 : ev σ y = some v) (h3 : lG r = some p) (h4 : storeAt (C.ty t) σ p v = some σ1) :
  OpGoes P (C.locs f) o σ μ β a w (σ1.put o.dst (.val .undef)) := by
 unfold storeAt at h4
 split at h4
 ·rename_i xs hc
  split at h4
  ·rename_i hb
   obtain ⟨hz, hl, hone⟩ := hb
   obtain ⟨b, off, hu, hp⟩ := Ij hs (fE hs hx h1) h3
   have hv := jr hc (aN hs hy h2)
   obtain ⟨w', h5, h6⟩ := lD (P := P) hs hp hv hone h4
   have hsz := aS (hty.of_size (t := t) (by omega)) w
   have hvl := hv.length
   simp only [Array.length_toList] at hvl
   refine OpGoes.skip (w' := w') ?_ (h6.trans fun μ' β' hs' => Leads.put hs' ?_ (r := .val .undef) (.undef _) trivial)
   ·unfold execOp
    rw [ho]
    simp [Instr.storeAt, hu, Instr.sureAddr, storeVar, hsz, h5, show (a.eval y).cells.size = (C.ty t).size by omega]
   ·intro x hx'
    exact hd x hx'
  ·cases h4
 ·cases h4
end
section
variable {P : Program} {L : List Nat} {σ σ' : St} {μ : Mu} {β : List Nat} {a : Act} {w w' : World}
theorem Fp {α : Type} (l : List α) : ∀ (n i : Nat), (List.replicate n l).flatten[i]? = if i < n * l.length then l[i % l.length]? else none
 | 0, i => by simp
 | n + 1, i => by
  rw [List.replicate_succ, List.flatten_cons]
  by_cases h : i < l.length
  ·rw [List.getElem?_append_left h, if_pos (by rw [Nat.add_mul]; omega), Nat.mod_eq_of_lt h]
  ·rw [List.getElem?_append_right (by omega), Fp l n]
   by_cases h2 : i - l.length < n * l.length
   ·rw [if_pos h2, if_pos (by rw [Nat.add_mul]; omega), ← Nat.mod_eq_sub_mod (by omega)]
   ·rw [if_neg h2, if_neg (by rw [Nat.add_mul]; omega)]
theorem lS {E : LT} {z : Value} (hz : VL μ E.zero z.cells.toList) (n : Nat) (h0 : 0 < E.zero.length) :
  VL μ (ah E n) ((Array.range (n * E.zero.length)).map (fun i => z.cells[i % z.cells.size]!)).toList := by
 have hl := hz.length
 simp only [Array.length_toList] at hl
 refine VL.of_get (by simp [ah]) fun i v u hv hu => ?_
 unfold ah at hv
 rw [Fp] at hv
 split at hv
 ·rename_i hi
  simp [hi] at hu
  have hm : i % z.cells.size < z.cells.size := Nat.mod_lt _ (by omega)
  rw [hl] at hv
  refine hz.get _ v u hv ?_
  rw [← hu]
  simp [hm]
 ·cases hv
theorem uf {C : Ctx} {f : Nat} (hty : TysOk P C.ty) (hs : Sim (C.locs f) σ μ β a w) {o : Oper} (hd : ∀ x, o.dst = some x → x < a.tmps.size) {t e n : Nat} {parts : Array (Nat × Operand)} (ho : o.op = .buildSlice t n parts)
  (hx : ∀ x ∈ parts.toList, OpdOk a.tmps.size x.2) {ps : List (Nat × V)} {cs : List V} (he : (C.ty t).desc = .slice e) (h1 : ik σ parts.toList = some ps)
  (hE : 0 < (C.ty e).size ∧ (C.ty e).zero.length = (C.ty e).size ∧ n * (C.ty e).size ≤ 16777216) (h2 : ax (fun i => some (i * (C.ty e).size, (C.ty e).size)) (ah (C.ty e) n) ps = some cs) :
  OpGoes P (C.locs f) o σ μ β a w ((σ.new (.mk true (C.ty e).size cs)).put o.dst (.val (.slc (some (σ.heap.length, 0)) n))) := by
 obtain ⟨g1, g2, g3⟩ := hE
 have hTE := hty.of_size (t := e) (by omega)
 have ht := (hty.of_desc (t := t) (by rw [he]; simp)).desc
 rw [he] at ht
 obtain ⟨z, hz, hzv⟩ := jw (w := w) (μ := μ) hTE
 have hps := jy hs hx h1
 have hz0 := lS hzv n (by omega)
 rw [g2] at hz0
 obtain ⟨c', h3, h4, h5⟩ := kJ (pl' := fun i => some (i * (C.ty e).size, (C.ty e).size)) (fun i x hx => hx) hps hz0 h2
 have hl := h4.length
 simp only [Array.length_toList] at hl
 have h5' : c'.size = n * (C.ty e).size := by rw [h5]; simp
 have hgo := HGoes.new (es := (C.ty e).size) (w' := w.alloc (.cells c' e)) (fz := (0, 0)) hs.heap (cells := cs) (us := c') (ty := e) (by rw [List.take_of_length_le (by simp; omega)]; exact h4) (by omega) rfl (.inr (Nat.le_refl _)) rfl rfl rfl
 have hv := VR.slc (μ := μ.add σ.heap.length ⟨w.heap.size, 0, cs.length, (C.ty e).size, c'.size, true⟩) σ.heap.length 0 n n ⟨w.heap.size, 0, cs.length, (C.ty e).size, c'.size, true⟩
  (Mu.add_self _ _ _) (Nat.le_refl _) (fun _ => by simp only [h5']; omega) (by simp only; omega)
 refine OpGoes.value (u := .slice (some ⟨w.heap.size, 0, none⟩) n n) (w' := w.alloc (.cells c' e)) ?_ (Leads.heap_put hs hgo hd (by simpa using hv))
 unfold execOp
 rw [ho]
 have hsz := aS hTE w
 have hmap : (parts.map fun (i, x) => (i, a.eval x)).toList = parts.toList.map fun (i, x) => (i, a.eval x) := by simp
 simp only [Sem.run_bind, Instr.buildSlice, run_underlying ht, Result.andThen_ok, hsz, Sem.run_ite]
 rw [if_neg (by omega)]
 by_cases hn0 : n * (C.ty e).size = 0
 ·have hc0 : c' = #[] := Array.eq_empty_of_size_eq_zero (by omega)
  subst hc0
  have hr : (Array.range (n * (C.ty e).size)).map (fun i => z.cells[i % z.cells.size]!) = #[] := by rw [hn0, Array.range_zero', Array.map_empty]
  rw [hr] at h3
  simp only [hn0, if_true, Sem.run_pure, Result.andThen_ok, Array.range_zero', Array.map_empty, hmap]
  simp [h3, newRow]
 ·simp only [hn0, if_false, Sem.run_pure, Result.andThen_ok, hz, hmap, Sem.run_bind, h3]
  simp [newRow]
theorem wB {C : Ctx} {f : Nat} (hty : TysOk P C.ty) (hs : Sim (C.locs f) σ μ β a w) {o : Oper} (hd : ∀ x, o.dst = some x → x < a.tmps.size) {t e : Nat} {xl xc : Operand} (ho : o.op = .makeSlice t xl xc)
  (hx : OpdOk a.tmps.size xl) (hy : OpdOk a.tmps.size xc) {l c : Int} (he : (C.ty t).desc = .slice e) (h1 : ev σ xl = some (.int .i64 l)) (h2 : ev σ xc = some (.int .i64 c))
  (hE : 0 < (C.ty e).size ∧ (C.ty e).zero.length = (C.ty e).size ∧ 0 ≤ l ∧ l ≤ c ∧ c * (C.ty e).bytes ≤ aB ∧ c ≤ aB) :
  OpGoes P (C.locs f) o σ μ β a w ((σ.new (.mk true (C.ty e).size (ah (C.ty e) c.toNat))).put o.dst (.val (.slc (some (σ.heap.length, 0)) l.toNat))) := by
 obtain ⟨g1, g2, g3, g4, g5, g6⟩ := hE
 have hTE := hty.of_size (t := e) (by omega)
 have ht := (hty.of_desc (t := t) (by rw [he]; simp)).desc
 rw [he] at ht
 obtain ⟨z, hz, hzv⟩ := jw (w := w) (μ := μ) hTE
 obtain ⟨i, z', i1, i2, i3, i4, i5⟩ := hTE.info
 have hti : (typeInfo e).run P w = .ok i w := by simp [typeInfo, i1]
 have hz0 := lS hzv c.toNat (by omega)
 rw [g2] at hz0
 have hl := hz0.length
 simp only [Array.length_toList] at hl
 have e1 := (aN hs hx h1).int_inv
 have e2 := (aN hs hy h2).int_inv
 obtain ⟨C', rfl⟩ : ∃ n : Nat, c = n := ⟨c.toNat, by omega⟩
 obtain ⟨L', rfl⟩ : ∃ n : Nat, l = n := ⟨l.toNat, by omega⟩
 simp only [Int.toNat_natCast] at *
 generalize hus : (Array.range (C' * (C.ty e).size)).map (fun i => z.cells[i % z.cells.size]!) = us at hz0 hl
 have husz : us.size = C' * (C.ty e).size := by rw [← hus]; simp
 have hgo := HGoes.new (es := (C.ty e).size) (w' := w.alloc (.cells us e)) (fz := (0, 0)) hs.heap (cells := ah (C.ty e) C') (us := us) (ty := e) (by rw [List.take_of_length_le (by simp; omega)]; exact hz0) (by omega) rfl (.inr (Nat.le_refl _)) rfl rfl rfl
 have hv := VR.slc (μ := μ.add σ.heap.length ⟨w.heap.size, 0, (ah (C.ty e) C').length, (C.ty e).size, us.size, true⟩) σ.heap.length 0 L' C' ⟨w.heap.size, 0, (ah (C.ty e) C').length, (C.ty e).size, us.size, true⟩
  (Mu.add_self _ _ _) (by omega) (fun _ => by simp only; omega) (by simp only; omega)
 refine OpGoes.value (u := .slice (some ⟨w.heap.size, 0, none⟩) L' C') (w' := w.alloc (.cells us e)) ?_ (Leads.heap_put hs hgo hd (by simpa using hv))
 unfold execOp
 rw [ho]
 have hsz := aS hTE w
 unfold aB at g5 g6
 have w1 : IntKind.i64.wrap (L' : Int) = L' := by
  simp only [IntKind.wrap, IntKind.bits, IntKind.signed]; simp; omega
 have w2 : IntKind.i64.wrap (C' : Int) = C' := by
  simp only [IntKind.wrap, IntKind.bits, IntKind.signed]; simp; omega
 have n1 : ¬ ((C' : Int) < 0) := by omega
 have n2 : ¬ ((i.bytes : Int) * (C' : Int) > 2 ^ 48) := by
  rw [i3, Int.mul_comm]
  omega
 have n3 : ¬ ((L' : Int) < 0) := by omega
 have n4 : ¬ ((L' : Int) > C') := by omega
 simp only [Sem.run_bind, Instr.makeSlice, run_underlying ht, Result.andThen_ok, e1, e2, asInt, asIntOf, Sem.run_pure, hti, w1, w2, n1, n2, n3, n4, decide_false, Bool.or_false, Bool.false_eq_true, if_false, run_askRoom, hsz, Sem.run_ite, Int.toNat_natCast]
 by_cases hn0 : C' * (C.ty e).size = 0
 ·have hc0 : us = #[] := Array.eq_empty_of_size_eq_zero (by omega)
  subst hc0
  simp [hn0, newRow, Array.range_zero']
 ·simp [hn0, hz, hus, newRow]
theorem Ah {C : Ctx} {f : Nat} (hty : TysOk P C.ty) (hs : Sim (C.locs f) σ μ β a w) {o : Oper} (hd : ∀ x, o.dst = some x → x < a.tmps.size) {s t e : Nat} {x : Operand} (ho : o.op = .convert s t x)
  (hx : OpdOk a.tmps.size x) (hs' : (C.ty s).desc = .str) (he : (C.ty t).desc = .slice e) (he' : (C.ty e).desc = .int .u8) {b : List UInt8} (h1 : ev σ x = some (.str b)) :
  OpGoes P (C.locs f) o σ μ β a w ((σ.new (.mk true 1 (b.map (fun c => .int .u8 c.toNat)))).put o.dst (.val (.slc (some (σ.heap.length, 0)) b.length))) := by
 have h2 := (hty.of_desc (t := s) (by rw [hs']; simp)).desc
 have h3 := (hty.of_desc (t := t) (by rw [he]; simp)).desc
 have h4 := (hty.of_desc (t := e) (by rw [he']; simp)).desc
 rw [hs'] at h2; rw [he] at h3; rw [he'] at h4
 obtain ⟨bs, hb, rfl⟩ := (aN hs hx h1).str_inv
 have hcap : bs.size ≤ grownCap w bs.size 0 e := by simp only [grownCap, Question.cut]; omega
 have husz : (Lib.bytesCells w e bs).size = grownCap w bs.size 0 e := by simp [Lib.bytesCells]; omega
 have hheap : (Lib.bytesWorld w e bs).heap = w.heap.push (.cells (Lib.bytesCells w e bs) e ((Lib.bytesCells w e bs).size, (Lib.bytesCells w e bs).size + 1)) := by
  apply Array.ext_getElem?
  intro i
  rw [Array.getElem?_push]
  by_cases hi : i = w.heap.size
  ·subst hi; rw [if_pos rfl, Lib.bytesWorld_at_new]
  ·rw [if_neg hi]
   by_cases hi2 : i < w.heap.size
   ·exact Lib.bytesWorld_at_old w e bs i hi2
   ·rw [Array.getElem?_eq_none (by rw [Lib.bytesWorld_size]; omega), Array.getElem?_eq_none (by omega)]
 have hvl : VL μ (bs.data.toList.map fun c => V.int .u8 c.toNat) ((Lib.bytesCells w e bs).toList.take (bs.data.toList.map fun c => V.int .u8 c.toNat).length) := by
  have : (Lib.bytesCells w e bs).toList.take (bs.data.toList.map fun c => V.int .u8 c.toNat).length = bs.data.toList.map fun b => Value.int .u8 b.toNat := by
   simp only [Lib.bytesCells, Array.toList_append, Array.toList_map, List.length_map]
   rw [List.take_append_of_le_length (by simp), List.take_of_length_le (by simp)]
  rw [this]
  refine VL.of_get (by simp) fun i v u hv hu => ?_
  rw [List.getElem?_map] at hv hu
  cases hx : bs.data.toList[i]? with
  | none => rw [hx] at hv; cases hv
  | some x => rw [hx] at hv hu; cases hv; cases hu; exact .int _ _
 have hgo := HGoes.new (es := 1) (w' := Lib.bytesWorld w e bs) hs.heap hvl (by simp; omega) hheap (.inl (Nat.le_refl _)) rfl rfl rfl
 have hv := VR.slc (μ := μ.add σ.heap.length ⟨w.heap.size, 0, (bs.data.toList.map fun c => V.int .u8 c.toNat).length, 1, (Lib.bytesCells w e bs).size, true⟩) σ.heap.length 0 bs.data.toList.length (grownCap w bs.size 0 e)
  ⟨w.heap.size, 0, (bs.data.toList.map fun c => V.int .u8 c.toNat).length, 1, (Lib.bytesCells w e bs).size, true⟩
  (Mu.add_self _ _ _) (by simpa using hcap) (fun _ => by simp only; omega) (by simp; omega)
 refine OpGoes.value (u := .slice (some ⟨w.heap.size, 0, none⟩) bs.size (grownCap w bs.size 0 e)) (w' := Lib.bytesWorld w e bs) ?_ (Leads.heap_put hs hgo hd (by simpa using hv))
 unfold execOp
 rw [ho]
 simp [hb, Lib.run_convert_string_bytes w s t e bs h2 h3 h4]
end
def CallTo (P : Program) (g : FuncId) (us : Array Value) (w : World) (R : Value → World → Prop) : Prop :=
 (∃ v w', (callFunc g us).run P w = .ok (.value v) w' ∧ R v w') ∨
 ((callFunc g us).run P w = .ok (.enter g us) w ∧ Calls P g us w fun e w' => ∃ v, e = .returned v ∧ R v w')
theorem CallTo.mono {P : Program} {g : FuncId} {us : Array Value} {w : World} {R R' : Value → World → Prop} (h : CallTo P g us w R) (hr : ∀ v w', R v w' → R' v w') : CallTo P g us w R' := by
 rcases h with ⟨v, w', h1, h2⟩ | ⟨h1, h2⟩
 ·exact .inl ⟨v, w', h1, hr _ _ h2⟩
 ·exact .inr ⟨h1, h2.mono fun e w' ⟨v, h3, h4⟩ => ⟨v, h3, hr _ _ h4⟩⟩
def iD (P : Program) (callf : bU) : Prop :=
 ∀ (g : Nat) (args : List V) (H : List Ob) (r : V) (H' : List Ob), callf g args H = some (r, H') → ∀ (μ : Mu) (w : World) (us : Array Value), HSim H μ w → VL μ args us.toList →
  CallTo P g us w fun v w' => ∃ μ', HGoes H μ w H' μ' w' ∧ VR μ' r v
section
variable {P : Program} {L : List Nat} {σ σ' : St} {μ : Mu} {β : List Nat} {a : Act} {w w' : World}
theorem AA {C : Ctx} {f : Nat} (hty : TysOk P C.ty) (hs : Sim (C.locs f) σ μ β a w) {o : Oper} (hd : ∀ x, o.dst = some x → x < a.tmps.size) {xs xx : Operand} {t tx e : TypeId}
  (ho : o.op = .call { callee := .builtin .append, args := #[xs, xx], argTypes := #[t, tx] }) (hx : OpdOk a.tmps.size xs) (hy : OpdOk a.tmps.size xx) (he : (C.ty t).desc = .slice e)
  (hx1 : ∀ k, (C.ty tx).desc ≠ .int k) (hx2 : (C.ty tx).desc ≠ .other) {s x v : V} {H' : List Ob} (h1 : ev σ xs = some s) (h2 : ev σ xx = some x) (h : aT (C.ty e) σ.heap s x = some (v, H')) :
  OpGoes P (C.locs f) o σ μ β a w (({ σ with heap := H' } : St).put o.dst (.val v)) := by
 obtain ⟨r, w', μ', h3, h4, h5⟩ := zA (rt := o.type) hty hs.heap he hx1 hx2 h (aN hs hx h1) (aN hs hy h2)
 refine OpGoes.value (u := r) (w' := w') ?_ (Leads.heap_put hs h4 hd h5)
 unfold execOp
 rw [ho]
 simp [resolve, invoke, builtin, h3]
theorem xw {ty : Nat → LT} (hty : TysOk P ty) {H : List Ob} (hs : HSim H μ w) {t tx rt e : TypeId} (he : (ty t).desc = .slice e) {k : IntKind} (hk : (ty tx).desc = .int k)
  {s x v : V} {us ux : Value} {H' : List Ob} (h : qo (ty e) H s x = some (v, H')) (hu : VR μ s us) (hv : VR μ x ux) :
  ∃ r w' μ', (Builtin.append_ #[t, tx] rt #[us, ux]).run P w = .ok r w' ∧ HGoes H μ w H' μ' w' ∧ VR μ' v r := by
 unfold qo at h
 split at h
 case h_2 => cases h
 rename_i n
 split at h
 case isFalse => cases h
 rename_i hc
 obtain ⟨hg, hn0, hnb⟩ := hc
 simp only [fU, decide_eq_true_eq] at hg
 obtain ⟨g1, g2, g3, g4⟩ := hg
 cases h
 obtain ⟨rfl, _⟩ := hu.slcN_inv
 have hux := hv.int_inv
 subst hux
 have hE := hty.of_size (t := e) (by omega)
 have h1 := (hty.of_desc (t := t) (by rw [he]; simp)).desc
 rw [he] at h1
 have h2 := (hty.of_desc (t := tx) (by rw [hk]; simp)).desc
 rw [hk] at h2
 obtain ⟨N, rfl⟩ : ∃ N : Nat, n = N := ⟨n.toNat, by omega⟩
 simp only [Int.toNat_natCast]
 have hN0 : 0 < N := by omega
 have hNb : N * (ty e).bytes ≤ aB := by exact_mod_cast hnb
 obtain ⟨z, hz, hzv⟩ := jw (w := w.drew) (μ := μ) hE
 obtain ⟨i, z', i1, i2, i3, i4, i5⟩ := hE.info
 have hti : ∀ w, (typeInfo e).run P w = .ok i w := fun w => by simp [typeInfo, i1]
 have hzr : ∀ w, (zeroValue e).run P w = .ok z' w := fun w => by simp [zeroValue, hti, i4]
 have hzz : z = z' := by
  have := hzr w.drew
  rw [hz] at this
  cases this
  rfl
 subst hzz
 have hsz := aS hE w
 have hz0 := lS hzv N (by omega)
 rw [g4] at hz0
 generalize hc : Question.cut (.appendCap N 0 e) (w.tape w.drawn (.appendCap N 0 e)) = c
 have hcap : N ≤ c := by rw [← hc]; simp only [Question.cut]; omega
 have hch : (choose (.appendCap N 0 e)).run P w = .ok c w.drew := by simp [Question.forced, hc]
 have hw1 : IntKind.i64.wrap (N : Int) = N := by
  unfold aB at hNb
  have : N ≤ N * (ty e).bytes := Nat.le_mul_of_pos_right _ g2
  simp only [IntKind.wrap, IntKind.bits, IntKind.signed]; simp; omega
 have hNlt : N ≤ 1099511627776 := by
  unfold aB at hNb
  have : N ≤ N * (ty e).bytes := Nat.le_mul_of_pos_right _ g2
  omega
 have n1 : ¬ ((N : Int) < 0) := by omega
 have n2 : ¬ ((N : Int) * (i.bytes : Int) > 2 ^ 48) := by
  rw [i3]
  have : ((N * (ty e).bytes : Nat) : Int) ≤ 1099511627776 := by unfold aB at hNb; omega
  rw [Int.natCast_mul] at this
  omega
 have n3 : ¬ (((N : Nat) : Int) > IntKind.i64.max) := by
  have : IntKind.i64.max = 9223372036854775807 := by decide
  rw [this]; omega
 have n4 : ¬ (Builtin.nextslicecap N 0 * i.bytes > 2 ^ 48) := by
  have h3 := vG N 0 (by omega)
  have h4 : Builtin.nextslicecap N 0 * i.bytes ≤ (4 * N + 4000) * i.bytes := Nat.mul_le_mul_right _ h3
  rw [Nat.add_mul, Nat.mul_assoc] at h4
  rw [← i3] at hNb g3
  unfold aB at hNb
  have : 4000 * i.bytes ≤ 4000000000 := by omega
  omega
 have n5 : ¬ (N * (ty e).size = 0) := by
  intro h; rcases Nat.mul_eq_zero.1 h with h | h <;> omega
 have n6 : ¬ (N ≤ 0) := by omega
 have hlen := hz0.length
 simp only [Array.length_toList] at hlen
 have hzsize : z.cells.size = (ty e).zero.length := by rw [i5]; simp
 have husz : (Builtin.zeroCells z.cells N).size = N * (ty e).size := by simp [Builtin.zeroCells, hzsize, g4]
 generalize hrest : Builtin.zeroCells z.cells (c - N) = rest
 have hrsz : rest.size = (c - N) * (ty e).size := by rw [← hrest]; simp [Builtin.zeroCells, hzsize, g4]
 have hus : (Array.range (N * (ty e).size)).map (fun i => z.cells[i % z.cells.size]!) = Builtin.zeroCells z.cells N := by
  unfold Builtin.zeroCells
  rw [hzsize, g4]
 rw [hus] at hz0 hlen
 have hzl : (ah (ty e) N).length = N * (ty e).size := by omega
 have hzt : (Builtin.zeroCells z.cells N).toList.length = N * (ty e).size := by rw [← husz]; simp
 have hrun : (Builtin.append_ #[t, tx] rt #[.slice none 0 0, .int .i64 N]).run P w = .ok (.slice (some ⟨w.heap.size, 0, none⟩) N c) (w.drew.alloc (.cells (#[] ++ Builtin.zeroCells z.cells N ++ rest) e)) := by
  simp only [Builtin.append_]
  simp only [List.getElem?_toArray, List.getElem?_cons_zero, List.getElem?_cons_succ, Sem.run_bind, run_underlying h1, Result.andThen_ok, hsz, run_underlying h2, Sem.run_pure, if_true, asInt, asIntOf, hw1, Sem.run_ite, n1, if_false, hti, n2, Int.toNat_natCast, Nat.zero_add, n6, n3, false_and, n4, hch, run_askRoom, n5, Bool.not_true, Bool.false_eq_true, hzr, hrest]
  simp [Builtin.firstCells, newRow, hzr, hrest, n5]
 have hgo := HGoes.new (es := (ty e).size) (w' := w.drew.alloc (.cells (#[] ++ Builtin.zeroCells z.cells N ++ rest) e)) (fz := (0, 0)) hs (cells := ah (ty e) N) (us := #[] ++ Builtin.zeroCells z.cells N ++ rest) (ty := e) (by
   have : ((#[] ++ Builtin.zeroCells z.cells N ++ rest).toList.take (ah (ty e) N).length) = (Builtin.zeroCells z.cells N).toList := by
    simp only [Array.toList_append, List.nil_append]
    rw [List.take_append_of_le_length (by omega), List.take_of_length_le (by omega)]
   rw [this]; exact hz0) (by simp only [Array.size_append]; omega) rfl (.inr (Nat.le_refl _)) rfl rfl rfl
 have hsz2 : (#[] ++ Builtin.zeroCells z.cells N ++ rest).size = c * (ty e).size := by
  have e2 : c * (ty e).size = N * (ty e).size + (c - N) * (ty e).size := by rw [← Nat.add_mul]; congr 1; omega
  simp only [Array.size_append, husz, hrsz]
  simp; omega
 refine ⟨_, _, _, hrun, hgo, ?_⟩
 have := VR.slc (μ := μ.add H.length ⟨w.heap.size, 0, (ah (ty e) N).length, (ty e).size, (#[] ++ Builtin.zeroCells z.cells N ++ rest).size, true⟩) H.length 0 N c ⟨w.heap.size, 0, (ah (ty e) N).length, (ty e).size, (#[] ++ Builtin.zeroCells z.cells N ++ rest).size, true⟩
  (Mu.add_self _ _ _) (by omega) (fun _ => by simp only [hsz2]; omega)
  (by simp only [Nat.zero_add, hzl]; exact Nat.mul_le_mul_right _ (by omega))
 simpa using this
theorem DI {T : LT} (h : yV T = true) : ∃ k, T.desc = .int k := by
 unfold yV at h
 split at h
 ·rename_i k hk; exact ⟨k, hk⟩
 ·cases h
theorem zD {C : Ctx} {f : Nat} (hty : TysOk P C.ty) (hs : Sim (C.locs f) σ μ β a w) {o : Oper} (hd : ∀ x, o.dst = some x → x < a.tmps.size) {xs xx : Operand} {t tx e : TypeId} {k : IntKind}
  (ho : o.op = .call { callee := .builtin .append, args := #[xs, xx], argTypes := #[t, tx] }) (hx : OpdOk a.tmps.size xs) (hy : OpdOk a.tmps.size xx) (he : (C.ty t).desc = .slice e)
  (hk : (C.ty tx).desc = .int k) {s x v : V} {H' : List Ob} (h1 : ev σ xs = some s) (h2 : ev σ xx = some x) (h : qo (C.ty e) σ.heap s x = some (v, H')) :
  OpGoes P (C.locs f) o σ μ β a w (({ σ with heap := H' } : St).put o.dst (.val v)) := by
 obtain ⟨r, w', μ', h3, h4, h5⟩ := xw (rt := o.type) hty hs.heap he hk h (aN hs hx h1) (aN hs hy h2)
 refine OpGoes.value (u := r) (w' := w') ?_ (Leads.heap_put hs h4 hd h5)
 unfold execOp
 rw [ho]
 simp [resolve, invoke, builtin, h3]
theorem ug {H : List Ob} (hs : HSim H μ w) {E : LT} {x : V} {u : Value} {n k : Nat} {xs : List V} (h0 : wI x n = some k) (h : oH E H x k = some xs) (hu : VR μ x u) :
  (∃ m, (Builtin.lenOf u).run P w = .ok m w ∧ k = min m n) ∧ xs.length = k * E.size ∧ ∃ us, (Builtin.firstCells E.size k u).run P w = .ok us w ∧ VL μ xs us.toList := by
 unfold wI at h0
 split at h0
 ·cases h0
  rename_i q m
  simp only [oH] at h
  obtain ⟨us, h1, h2, q', c, rfl⟩ := nV (P := P) hs h hu
  obtain ⟨hl, _⟩ := gp hs h hu
  exact ⟨⟨m, sU _ _ _ _, rfl⟩, hl, us, h1, h2⟩
 ·cases h0
  simp only [oH] at h
  split at h
  ·rename_i h1
   cases h
   obtain ⟨b, rfl, rfl⟩ := hu.str_inv
   obtain ⟨us, h2, h3⟩ := nX (P := P) (w := w) (μ := μ) b (min b.data.toList.length n) E.size
   exact ⟨⟨b.size, qh _ _, by simp⟩, by simp [h1], us, h2, h3⟩
  ·cases h
 ·cases h0
theorem G8 {C : Ctx} {f : Nat} (hty : TysOk P C.ty) (hs : Sim (C.locs f) σ μ β a w) {o : Oper} (hd : ∀ x, o.dst = some x → x < a.tmps.size) {xs xx : Operand} {t e : TypeId} {ts : List TypeId}
  (ho : o.op = .call { callee := .builtin .copy, args := #[xs, xx], argTypes := (t :: ts).toArray }) (hx : OpdOk a.tmps.size xs) (hy : OpdOk a.tmps.size xx) (he : (C.ty t).desc = .slice e)
  {s x v : V} (h1 : ev σ xs = some s) (h2 : ev σ xx = some x) (h : copyV (C.ty e) σ s x = some (v, σ')) :
  OpGoes P (C.locs f) o σ μ β a w (σ'.put o.dst (.val v)) := by
 have ht := (hty.of_desc (t := t) (by rw [he]; simp)).desc
 rw [he] at ht
 have hu := aN hs hx h1
 have hv := aN hs hy h2
 unfold copyV at h
 split at h
 ·cases h
 rename_i hz
 have hsz := aS (hty.of_size hz) w
 split at h
 case h_2 => cases h
 rename_i p n
 split at h
 ·cases h
 rename_i k hk
 split at h
 ·cases h
 rename_i cs hc
 obtain ⟨⟨m, hm, hkm⟩, hxl, us, hf, hvl⟩ := ug (P := P) hs.heap hk hc hv
 have hk' : Nat.min m n = k := hkm.symm
 split at h
 ·rename_i hk0
  subst hk0
  cases h
  have hu0 : us.toList = [] := List.length_eq_zero_iff.1 (by have := hvl.length; rw [hxl, Nat.zero_mul] at this; exact this.symm)
  have : ∃ q c, a.eval xs = .slice q n c := by
   cases p with
   | none => obtain ⟨hq, rfl⟩ := hu.slcN_inv; exact ⟨_, _, hq⟩
   | some p =>
    obtain ⟨id, off⟩ := p
    obtain ⟨mm, _, ⟨c, _, _, _, hq⟩ | ⟨rfl, _, ad, hq⟩⟩ := hu.slc_inv <;> exact ⟨_, _, hq⟩
  obtain ⟨q, c, hq⟩ := this
  refine OpGoes.value (u := .int .i64 0) (w' := w) ?_ (Leads.put hs hd (r := .val (.int .i64 0)) (.int _ _) trivial)
  unfold execOp
  rw [ho]
  have hk'' : Nat.min m n = 0 := hk'
  cases q <;> simp [resolve, invoke, builtin, Builtin.copy_, run_underlying ht, hq, hm, hk'', hsz, hf, hu0, storeCells, goInt]
 ·rename_i hk0
  split at h
  ·cases h
  ·rename_i id off
   split at h
   case isFalse => cases h
   rename_i hone
   split at h
   case h_2 => cases h
   rename_i σ1 hw
   cases h
   obtain ⟨mm, hmm, ⟨c, hc', _, _, hq⟩ | ⟨rfl, _, ad, hq⟩⟩ := hu.slc_inv
   ·obtain ⟨w', h5, h6⟩ := lD (P := P) hs (.inr ⟨id, off, mm, rfl, hmm, rfl, rfl⟩) hvl hone hw
    refine OpGoes.value (u := .int .i64 k) (w' := w') ?_ (h6.trans fun μ' β' hs' => Leads.put hs' hd (r := .val (.int .i64 k)) (.int _ _) trivial)
    unfold execOp
    rw [ho]
    simp [resolve, invoke, builtin, Builtin.copy_, run_underlying ht, hq, hm, hk', hsz, hf, h5, goInt]
   ·omega
theorem CQ {C : Ctx} {f : Nat} (hty : TysOk P C.ty) (hs : Sim (C.locs f) σ μ β a w) {o : Oper} (hd : ∀ x, o.dst = some x → x < a.tmps.size) {xs : Operand} {t e : TypeId}
  (ho : o.op = .call { callee := .builtin .clear, args := #[xs], argTypes := #[t] }) (hx : OpdOk a.tmps.size xs) (he : (C.ty t).desc = .slice e) {id off n : Nat} (h1 : ev σ xs = some (.slc (some (id, off)) n)) (hn : n ≠ 0)
  (hE : (C.ty e).zero.all aJ = true ∧ (C.ty e).zero.length = (C.ty e).size ∧ 0 < (C.ty e).size) (h : dB σ (.hp id off) (ah (C.ty e) n) = some σ') :
  OpGoes P (C.locs f) o σ μ β a w (σ'.put o.dst (.val (.tup []))) := by
 have ht := (hty.of_desc (t := t) (by rw [he]; simp)).desc
 rw [he] at ht
 have hTE := hty.of_size (t := e) (by omega)
 obtain ⟨z, hz, hzv⟩ := jw (w := w) (μ := μ) hTE
 have hz0 := lS hzv n (by omega)
 have hzl := hzv.length
 simp only [Array.length_toList] at hzl
 obtain ⟨mm, hmm, ⟨c, hc', _, _, hq⟩ | ⟨h0, _, ad, hq⟩⟩ := (aN hs hx h1).slc_inv
 ·have hone : (ah (C.ty e) n).all aJ = true := by
   unfold ah
   rw [List.all_flatten]
   simp only [List.all_replicate]
   split <;> simp_all
  obtain ⟨w', h5, h6⟩ := lD (P := P) hs (.inr ⟨id, off, mm, rfl, hmm, rfl, rfl⟩) hz0 hone h
  refine OpGoes.value (u := .tuple #[]) (w' := w') ?_ (h6.trans fun μ' β' hs' => Leads.put hs' hd (r := .val (.tup [])) (.tup [] #[] rfl (by simp)) trivial)
  unfold execOp
  rw [ho]
  rw [hzl] at h5
  obtain ⟨n', rfl⟩ : ∃ n', n = n' + 1 := ⟨n - 1, by omega⟩
  have e1 : Builtin.zeroCells z.cells (n' + 1) = (Array.range ((n' + 1) * z.cells.size)).map (fun i => z.cells[i % z.cells.size]!) := rfl
  rw [← e1] at h5
  simp [resolve, invoke, builtin, Builtin.clear_, run_underlying ht, hq, hz, h5]
 ·exact absurd h0 hn
theorem tC {C : Ctx} {f : Nat} (hty : TysOk P C.ty) (hs : Sim (C.locs f) σ μ β a w) {o : Oper} (hd : ∀ x, o.dst = some x → x < a.tmps.size) {xs : Operand} {t e : TypeId}
  (ho : o.op = .call { callee := .builtin .clear, args := #[xs], argTypes := #[t] }) (hx : OpdOk a.tmps.size xs) (he : (C.ty t).desc = .slice e) {p : Option (Nat × Nat)} (h1 : ev σ xs = some (.slc p 0)) :
  OpGoes P (C.locs f) o σ μ β a w (σ.put o.dst (.val (.tup []))) := by
 have ht := (hty.of_desc (t := t) (by rw [he]; simp)).desc
 rw [he] at ht
 have hu := aN hs hx h1
 have : ∃ q c, a.eval xs = .slice q 0 c := by
  cases p with
  | none => obtain ⟨hq, _⟩ := hu.slcN_inv; exact ⟨_, _, hq⟩
  | some p =>
   obtain ⟨id, off⟩ := p
   obtain ⟨mm, _, ⟨c, _, _, _, hq⟩ | ⟨_, _, ad, hq⟩⟩ := hu.slc_inv <;> exact ⟨_, _, hq⟩
 obtain ⟨q, c, hq⟩ := this
 refine OpGoes.value (u := .tuple #[]) (w' := w) ?_ (Leads.put hs hd (r := .val (.tup [])) (.tup [] #[] rfl (by simp)) trivial)
 unfold execOp
 rw [ho]
 cases q <;> simp [resolve, invoke, builtin, Builtin.clear_, run_underlying ht, hq]
theorem GM {C : Ctx} {f : Nat} {callf : bU} (hcall : iD P callf) (hs : Sim (C.locs f) σ μ β a w) {o : Oper} (hd : ∀ x, o.dst = some x → x < a.tmps.size) {g : Operand} {args : Array Operand} {ts : Array TypeId}
  (ho : o.op = .call { callee := .value g, args := args, argTypes := ts }) (hx : OpdOk a.tmps.size g) (hy : ∀ x ∈ args.toList, OpdOk a.tmps.size x) {gf : Nat} {az bs xs : List V} {r : V} {H' : List Ob}
  (h1 : ev σ g = some (.fn gf az bs)) (h2 : evs σ args.toList = some xs) (h : callf gf (az ++ xs ++ bs) σ.heap = some (r, H')) :
  OpGoes P (C.locs f) o σ μ β a w (({ σ with heap := H' } : St).put o.dst (.val r)) := by
 obtain ⟨us, vs, hg, ha1, ha2, hb1, hb2⟩ := (aN hs hx h1).fn_inv
 have hxs := kC hs hy h2
 rw [← Array.toList_map] at hxs
 have hall : VL μ (az ++ xs ++ bs) (us ++ args.map a.eval ++ vs).toList := by
  rw [Array.toList_append, Array.toList_append]
  exact ((VL.of_get (by simpa using ha1) (fun i v u k1 k2 => ha2 i v u k1 (by simpa using k2))).append hxs).append (VL.of_get (by simpa using hb1) (fun i v u k1 k2 => hb2 i v u k1 (by simpa using k2)))
 have key := hcall gf _ σ.heap r H' h μ w _ hs.heap hall
 have hexec : (execOp a.eval o).run P w = (callFunc gf (us ++ args.map a.eval ++ vs)).run P w := by
  unfold execOp
  rw [ho]
  simp [resolve, hg, Deferred.ofValue, invoke]
 rcases key with ⟨v, w', k1, μ', k2, k3⟩ | ⟨k1, k2⟩
 ·exact OpGoes.value (u := v) (w' := w') (by rw [hexec, k1]) (Leads.heap_put hs k2 hd k3)
 ·intro ro next Q hn
  refine ⟨fun _ _ => trivial, ?_⟩
  rw [Oper.semAt_eq _ _ _ (by rw [ho]; simp), hexec, k1, Oper.uponIn_enter]
  refine ⟨fun h => (by cases h), DF (k2.mono ?_)⟩
  rintro e w' ⟨v, rfl, μ', k3, k4⟩
  exact hn _ _ (Leads.heap_put hs k3 hd k4)
theorem RR.noBox_of_val {C : Ctx} {o : Op} {r : R} (h : sG C σ o = some r) : r.noBox := by
 cases r with
 | val v => trivial
 | ref t c off => trivial
 | box c cells =>
  exfalso
  have ev1 : ∀ x, iU σ x ≠ some (.box c cells) := by
   intro x
   cases x <;> simp only [iU]
   ·split <;> simp
   all_goals simp
  unfold sG at h
  repeat' split at h
  all_goals first
   | (cases h; done)
   | exact ev1 _ h
   | (unfold rJ at h; (repeat' split at h) <;> cases h)
   | (unfold dE at h; (repeat' split at h) <;> cases h)
end
section
variable {P : Program} {L : List Nat} {σ σ' : St} {μ : Mu} {β : List Nat} {a : Act} {w w' : World}
theorem iG {C : Ctx} {t : Nat} {E : LT} (h : ay C t = some E) : ∃ e, (C.ty t).desc = .slice e ∧ E = C.ty e := by
 unfold ay at h
 split at h
 ·rename_i e he; cases h; exact ⟨e, he, rfl⟩
 ·cases h
theorem arr1 {α : Type} {xs : Array α} {x : α} (h : xs.toList = [x]) : xs = #[x] := Array.toList_inj.1 (by simpa using h)
theorem ML {α : Type} {xs : Array α} {x y : α} (h : xs.toList = [x, y]) : xs = #[x, y] := Array.toList_inj.1 (by simpa using h)
theorem UQ {α : Type} {xs : Array α} {x : α} {ys : List α} (h : xs.toList = x :: ys) : xs = (x :: ys).toArray := Array.toList_inj.1 (by simpa using h)
theorem Di {C : Ctx} {callf : bU} {f : Nat} (hty : TysOk P C.ty) (hcall : iD P callf) (hs : Sim (C.locs f) σ μ β a w) (o : Oper) (ho : nC a.tmps.size o.op) (hd : ∀ x, o.dst = some x → x < a.tmps.size)
  (h : lw C callf f σ o.dst o.op = some σ') : OpGoes P (C.locs f) o σ μ β a w σ' := by
 generalize hop : o.op = op at h ho
 unfold lw at h
 split at h
 case h_1 t =>
  split at h
  ·rename_i hz; exact CS hty hs hd hop hz h
  ·cases h
 case h_2 t x =>
  split at h
  ·rename_i v h1
   split at h
   ·rename_i cs h2
    exact JE hs hd hop (ho x (by simp [Op.operands])) h1 h2 h
   ·cases h
  ·cases h
 case h_3 t x y =>
  split at h
  ·rename_i r v h1 h2
   split at h
   ·rename_i p h3
    split at h
    ·rename_i σ1 h4
     cases h
     exact D8 hty hs hd hop (ho x (by simp [Op.operands])) (ho y (by simp [Op.operands])) h1 h2 h3 h4
    ·cases h
   ·cases h
  ·cases h
 case h_4 t n parts =>
  split at h
  ·rename_i E ps h1 h2
   obtain ⟨e, he, rfl⟩ := iG h1
   split at h
   ·rename_i hE
    split at h
    ·rename_i cs h3
     cases h
     exact uf hty hs hd hop (fun x hx => ho x.2 (by simp only [Op.operands]; simp; exact ⟨x.1, by simpa using hx⟩)) he h2 hE h3
    ·cases h
   ·cases h
  ·cases h
 case h_5 t l c =>
  split at h
  ·rename_i E l' c' h1 h2 h3
   obtain ⟨e, he, rfl⟩ := iG h1
   split at h
   ·rename_i hE
    cases h
    exact wB hty hs hd hop (ho l (by simp [Op.operands])) (ho c (by simp [Op.operands])) he h2 h3 hE
   ·cases h
  ·cases h
 case h_6 s t x =>
  split at h
  ·rename_i e b h1 h2 h3
   split at h
   ·rename_i he'
    split at h
    ·rename_i hz
     cases h
     exact Ah hty hs hd hop (ho x (by simp [Op.operands])) h1 h2 he' h3
    ·cases h
   ·cases h
  ·cases h
 case h_7 args ts =>
  split at h
  ·rename_i s x t u hx ht
   have ea := ML hx
   have et := ML ht
   subst ea; subst et
   split at h
   ·rename_i E s' x' h1 h2 h3
    obtain ⟨e, he, rfl⟩ := iG h1
    split at h
    ·rename_i v H' h4
     cases h
     unfold LX at h4
     split at h4
     ·split at h4
      ·rename_i hi
       obtain ⟨k, hk⟩ := DI hi
       exact zD hty hs hd hop (ho s (by simp [Op.operands, Call.operands])) (ho x (by simp [Op.operands, Call.operands])) he hk h2 h3 h4
      ·cases h4
     ·rename_i hbad
      have hn1 : ∀ k, (C.ty u).desc ≠ .int k := fun k hk => hbad (by simp [jk, hk])
      have hn2 : (C.ty u).desc ≠ .other := fun hk => hbad (by simp [jk, hk])
      exact AA hty hs hd hop (ho s (by simp [Op.operands, Call.operands])) (ho x (by simp [Op.operands, Call.operands])) he hn1 hn2 h2 h3 h4
    ·cases h
   ·cases h
  ·cases h
 case h_8 args ts =>
  split at h
  ·rename_i s x t ts' hx ht
   have ea := ML hx
   have et := UQ ht
   subst ea; subst et
   split at h
   ·rename_i E s' x' h1 h2 h3
    obtain ⟨e, he, rfl⟩ := iG h1
    split at h
    ·rename_i v σ1 h4
     cases h
     exact G8 hty hs hd hop (ho s (by simp [Op.operands, Call.operands])) (ho x (by simp [Op.operands, Call.operands])) he h2 h3 h4
    ·cases h
   ·cases h
  ·cases h
 case h_9 args ts =>
  split at h
  ·rename_i s t hx ht
   have ea := arr1 hx
   have et := arr1 ht
   subst ea; subst et
   split at h
   ·rename_i E h1 h2
    obtain ⟨e, he, rfl⟩ := iG h1
    cases h
    exact tC hty hs hd hop (ho s (by simp [Op.operands, Call.operands])) he h2
   ·rename_i E id off n h1 h2
    obtain ⟨e, he, rfl⟩ := iG h1
    split at h
    ·rename_i hn
     subst hn
     cases h
     exact tC hty hs hd hop (ho s (by simp [Op.operands, Call.operands])) he h2
    ·rename_i hn
     split at h
     ·rename_i hE
      split at h
      ·rename_i σ1 h4
       cases h
       exact CQ hty hs hd hop (ho s (by simp [Op.operands, Call.operands])) he h2 hn hE h4
      ·cases h
     ·cases h
   ·cases h
  ·cases h
 case h_10 g args ts =>
  split at h
  ·rename_i g' az bs xs h1 h2
   split at h
   ·rename_i r H' h3
    cases h
    exact GM hcall hs hd hop (ho g (by simp [Op.operands, Call.operands])) (fun x hx => ho x (by simp [Op.operands, Call.operands]; exact .inr (by simpa using hx))) h1 h2 h3
   ·cases h
  ·cases h
 case h_11 => cases h
theorem yD {C : Ctx} {callf : bU} {f : Nat} (hty : TysOk P C.ty) (hcall : iD P callf) (hs : Sim (C.locs f) σ μ β a w) (o : Oper) (ho : nC a.tmps.size o.op) (hd : ∀ x, o.dst = some x → x < a.tmps.size)
  (h : yl C callf f o σ = some σ') : OpGoes P (C.locs f) o σ μ β a w σ' := by
 unfold yl at h
 split at h
 ·exact Di hty hcall hs o ho hd h
 ·split at h
  ·rename_i r h1
   cases h
   obtain ⟨u, h2, h3⟩ := DC hty hs o ho h1
   exact OpGoes.value h2 (Leads.put hs hd h3 (RR.noBox_of_val h1))
  ·cases h
theorem MW {μ : Mu} : VR μ (.tup []) Go.undef := VR.tup [] #[] rfl (fun i v u h _ => by simp at h)
theorem gu {ops : Array Oper} (hs : Sim L σ μ β a w) (hd : ∀ o ∈ ops.toList, ∀ x, o.dst = some x → x < a.tmps.size) {o : Oper} {b : Bool} (h : lq ops σ o.guard = some b) :
  Region.wanted o (yielded ops a.tmps) = b := by
 unfold lq at h
 unfold Region.wanted
 split at h
 ·rename_i hg; rw [hg]; cases h; rfl
 ·rename_i j want hg
  rw [hg]
  simp only
  split at h
  ·rename_i t ht
   split at h
   ·rename_i c hc
    cases h
    have htl : t < a.tmps.size := by
     cases hj : ops[j]? with
     | none => rw [hj] at ht; cases ht
     | some o' =>
      rw [hj] at ht
      exact hd o' (by simpa using Array.mem_of_getElem? hj) t ht
    have := hs.reg t htl
    rw [hc] at this
    have hb := VR.bool_inv this
    have hy : yielded ops a.tmps j = some c := by
     unfold yielded
     rw [ht]
     simp [htl] at hb
     simp [htl, hb]
    rw [hy]
    cases c <;> cases want <;> rfl
   ·rename_i c hc
    cases h
    have htl : t < a.tmps.size := by
     cases hj : ops[j]? with
     | none => rw [hj] at ht; cases ht
     | some o' =>
      rw [hj] at ht
      exact hd o' (by simpa using Array.mem_of_getElem? hj) t ht
    have := hs.reg t htl
    rw [hc] at this
    have hy : yielded ops a.tmps j = none := by
     unfold yielded
     rw [ht]
     simp only [Option.bind_some, Array.getElem?_eq_getElem htl]
     rw [Array.getD_eq_getD_getElem?, Array.getElem?_eq_getElem htl, Option.getD_some] at this
     generalize a.tmps[t] = u at this
     change VR μ (.tup c) u at this
     cases this
     rfl
    rw [hy]
    cases want <;> rfl
   ·cases h
  ·cases h
def nO (C : Ctx) (callf : bU) (f : Nat) (ops : Array Oper) : List Nat → St → Option St
 | [], σ => some σ
 | i :: is, σ => match ops[i]? with
  | none => nO C callf f ops is σ
  | some o => match gQ C callf f ops o σ with
   | some σ => nO C callf f ops is σ
   | none => none
def OpsOk (n : Nat) (ops : Array Oper) : Prop := ∀ o ∈ ops.toList, nC n o.op ∧ ∀ x, o.dst = some x → x < n
theorem jR {C : Ctx} {callf : bU} {f : Nat} (hty : TysOk P C.ty) (hcall : iD P callf) {ops : Array Oper} {Q : Exit → Act → World → Prop} {ro : Option Nat} :
  ∀ (l : List Nat) {σ σ' : St} {μ : Mu} {β : List Nat} {a : Act} {w : World}, Sim (C.locs f) σ μ β a w → OpsOk a.tmps.size ops → nO C callf f ops l σ = some σ' →
   (∀ a' w', Leads (C.locs f) σ μ β a w σ' a' w' → Q .normal a' w') → wpOpsIn (rf ro) 0 P ops Q l a w
 | [], σ, σ', μ, β, a, w, hs, _, h, hq => by
  simp only [nO, Option.some.injEq] at h
  subst h
  exact hq a w (.refl hs)
 | i :: l, σ, σ', μ, β, a, w, hs, hop, h, hq => by
  simp only [nO] at h
  simp only [wpOpsIn]
  cases hi : ops[i]? with
  | none =>
   rw [hi] at h
   exact jR hty hcall l hs hop h hq
  | some o =>
   rw [hi] at h
   simp only at h ⊢
   have hmem : o ∈ ops.toList := by simpa using Array.mem_of_getElem? hi
   obtain ⟨ho, hd⟩ := hop o hmem
   split at h
   ·rename_i σ1 h1
    unfold gQ at h1
    split at h1
    ·rename_i hw
     rw [gu hs (fun o ho => (hop o ho).2) hw]
     simp only [if_true]
     refine yD hty hcall hs o ho hd h1 ro _ _ fun a' w' hl => ?_
     obtain ⟨μ', β', k1, k2, k3, k4, k5, k6⟩ := hl
     refine jR hty hcall l k1 (by rw [k4]; exact hop) h fun a'' w'' hl' => hq a'' w'' ?_
     obtain ⟨μ2, β2, g1, g2, g3, g4, g5, g6⟩ := hl'
     exact ⟨μ2, β2, g1, Mu.le_trans k2 g2, k3.trans g3, g4.trans k4, k5.trans g5, Lives.trans k6 g6 k5.size⟩
    ·rename_i hw
     cases h1
     rw [gu hs (fun o ho => (hop o ho).2) hw]
     simp only [Bool.false_eq_true, if_false]
     refine ⟨fun _ _ => trivial, ?_⟩
     obtain ⟨μ', β', k1, k2, k3, k4, k5, k6⟩ := Leads.put hs hd (r := .val (.tup [])) (u := undef) MW trivial
     refine jR hty hcall l k1 (by rw [k4]; exact hop) h fun a'' w'' hl' => hq a'' w'' ?_
     obtain ⟨μ2, β2, g1, g2, g3, g4, g5, g6⟩ := hl'
     exact ⟨μ2, β2, g1, Mu.le_trans k2 g2, k3.trans g3, g4.trans k4, k5.trans g5, Lives.trans k6 g6 k5.size⟩
    ·cases h1
   ·cases h
theorem Js (C : Ctx) (callf : bU) (f : Nat) (ops : Array Oper) : ∀ (k : Nat) (os : List Oper) (σ : St), ops.toList.drop k = os → nO C callf f ops (List.range' k os.length) σ = oO C callf f ops os σ := by
 intro k os
 induction os generalizing k with
 | nil => intro σ _; rfl
 | cons o os ih =>
  intro σ h
  have hi : ops[k]? = some o := by
   have := congrArg (fun l => l[0]?) h
   simpa using this
  have hd : ops.toList.drop (k + 1) = os := by
   have := congrArg List.tail h
   simpa using this
  rw [List.length_cons, List.range'_succ]
  simp only [nO, hi, oO]
  cases gQ C callf f ops o σ with
  | none => rfl
  | some σ1 => exact ih (k + 1) σ1 hd
theorem DD (C : Ctx) (callf : bU) (f : Nat) (ops : Array Oper) (σ : St) : nO C callf f ops (List.range ops.size) σ = oO C callf f ops ops.toList σ := by
 rw [List.range_eq_range', ← Array.length_toList]
 exact Js C callf f ops 0 ops.toList σ rfl
end
def sJ : Ex → Exit
 | .norm => .normal
 | .ret => .ret
 | .exit id => .exit id
theorem Eu {n : Nat} {P : Program} {c : Code} {Q : Exit → Act → World → Prop} {a : Act} {w : World} : c.wpIn (rf none) n P Q a w ↔ c.wp P Q a w := wpIn_wide
def DrawsOk (P : Program) (C : Ctx) (f id : Nat) (ops : Array Oper) : Prop :=
 ∀ (callf : bU) (σ σ' : St) (μ : Mu) (β : List Nat) (a : Act) (w : World) (Q : Exit → Act → World → Prop) (ro : Option Nat) (t : Nat), iD P callf → Sim (C.locs f) σ μ β a w → OpsOk a.tmps.size ops →
  bQ C callf f id ops true σ = some σ' → (∀ a' w', Leads (C.locs f) σ μ β a w σ' a' w' → Q .normal a' w') → wpOpsIn (rf ro) 0 P ops Q (Region.schedule (P.follows .mixedOrders) ops t) a w
def CodeOk (P : Program) (C : Ctx) (f n : Nat) : Code → Prop
 | .region id ops draw => OpsOk n ops ∧ (draw = true → DrawsOk P C f id ops)
 | .seq a b => CodeOk P C f n a ∧ CodeOk P C f n b
 | .cond c a b => OpdOk n c ∧ CodeOk P C f n a ∧ CodeOk P C f n b
 | .block _ b => CodeOk P C f n b
 | .loop b => CodeOk P C f n b
 | _ => True
theorem OpdOk.mono {n m : Nat} (h : n ≤ m) {x : Operand} (hx : OpdOk n x) : OpdOk m x := by
 cases x <;> simp only [OpdOk] at *
 exact Nat.lt_of_lt_of_le hx h
theorem OpsOk.mono {n m : Nat} (h : n ≤ m) {ops : Array Oper} (ho : OpsOk n ops) : OpsOk m ops :=
 fun o hm => ⟨fun x hx => ((ho o hm).1 x hx).mono h, fun x hx => Nat.lt_of_lt_of_le ((ho o hm).2 x hx) h⟩
theorem CodeOk.mono {P : Program} {C : Ctx} {f n m : Nat} (h : n ≤ m) : ∀ {c : Code}, CodeOk P C f n c → CodeOk P C f m c
 | .region id ops draw, k => ⟨k.1.mono h, k.2⟩
 | .seq a b, k => ⟨CodeOk.mono h k.1, CodeOk.mono h k.2⟩
 | .cond c a b, k => ⟨k.1.mono h, CodeOk.mono h k.2.1, CodeOk.mono h k.2.2⟩
 | .block _ b, k => CodeOk.mono (c := b) h k
 | .loop b, k => CodeOk.mono (c := b) h k
 | .skip, _ | .rangeFunc .., _ | .exit _, _ | .scope _, _ | .label _, _ | .goto _, _ | .ret, _ | .refuse _, _ => trivial
section
variable {P : Program} {L : List Nat} {σ σ' : St} {μ : Mu} {β : List Nat} {a : Act} {w w' : World}
theorem Leads.then {σ1 σ2 : St} {a1 a2 : Act} {w1 w2 : World} {μ1 : Mu} {β1 : List Nat} (k2 : μ.le μ1) (k3 : β <+: β1) (k4 : a1.tmps.size = a.tmps.size) (k5 : Grow (OwnB σ.heap μ β) w (OwnB σ1.heap μ1 β1) w1)
  (k6 : Lives σ.heap μ w σ1.heap μ1) (h : Leads L σ1 μ1 β1 a1 w1 σ2 a2 w2) : Leads L σ μ β a w σ2 a2 w2 := by
 obtain ⟨μ2, β2, g1, g2, g3, g4, g5, g6⟩ := h
 exact ⟨μ2, β2, g1, Mu.le_trans k2 g2, k3.trans g3, g4.trans k4, k5.trans g5, Lives.trans k6 g6 k5.size⟩
theorem Sim.drew (hs : Sim L σ μ β a w) : Sim L σ μ β a w.drew :=
 ⟨hs.heap.drew, hs.lenβ, hs.reg, fun t c cells b ht h1 h2 => let ⟨k1, k2⟩ := hs.box t c cells b ht h1 h2; ⟨k1.same (.of_heap rfl), k2.same (.of_heap rfl)⟩, hs.sepβ, hs.injβ, hs.ltβ, hs.uniq, hs.loc, hs.defs⟩
theorem Leads.drew {a' : Act} (h : Leads L σ μ β a w.drew σ' a' w') : Leads L σ μ β a w σ' a' w' := by
 obtain ⟨μ2, β2, g1, g2, g3, g4, g5, g6⟩ := h
 exact ⟨μ2, β2, g1, g2, g3, g4, ⟨g5.size, g5.same, g5.own, g5.os, g5.tape, g5.output, fun c => Nat.le_of_succ_le (g5.drawn c)⟩, g6⟩
theorem vK {C : Ctx} {callf : bU} {f n : Nat} (hty : TysOk P C.ty) (hcall : iD P callf) {ro : Option Nat} :
  ∀ (c : Code) {σ σ' : St} {μ : Mu} {β : List Nat} {a : Act} {w : World} {ex : Ex} {Q : Exit → Act → World → Prop}, Sim (C.locs f) σ μ β a w → CodeOk P C f a.tmps.size c →
   dh C callf f n c σ = some (ex, σ') → (∀ a' w', Leads (C.locs f) σ μ β a w σ' a' w' → Q (sJ ex) a' w') → c.wpIn (rf ro) 0 P Q a w := by
 intro c
 induction c with
 | skip =>
  intro σ σ' μ β a w ex Q hs hc h hq
  simp only [dh, Option.some.injEq, Prod.mk.injEq] at h
  obtain ⟨rfl, rfl⟩ := h
  exact wpIn_skip (hq a w (.refl hs))
 | region id ops draw =>
  intro σ σ' μ β a w ex Q hs hc h hq
  simp only [dh] at h
  split at h
  ·rename_i σ1 h1
   cases h
   cases draw with
   | false =>
    refine wpIn_region (jR (callf := callf) (f := f) hty hcall _ hs hc.1 (σ' := σ') ?_ hq)
    rw [DD]
    exact h1
   | true =>
    refine wpIn_region_draw fun t => ?_
    exact hc.2 rfl callf σ σ' μ β a _ Q ro t hcall hs.drew hc.1 h1 fun a' w' hl => hq a' w' hl.drew
  ·cases h
 | seq x y ihx ihy =>
  intro σ σ' μ β a w ex Q hs hc h hq
  simp only [dh, pq] at h
  refine wpIn_seq ?_
  split at h
  ·rename_i σ1 h1
   refine ihx hs hc.1 h1 fun a1 w1 hl => ?_
   simp only [sJ, Exit.then]
   obtain ⟨μ1, β1, k1, k2, k3, k4, k5, k6⟩ := hl
   exact ihy k1 (by rw [k4]; exact hc.2) h fun a' w' hl' => hq a' w' (hl'.then k2 k3 k4 k5 k6)
  ·rename_i hn
   refine ihx hs hc.1 h fun a1 w1 hl => ?_
   have := hq a1 w1 hl
   cases ex with
   | norm => exact absurd h (hn _)
   | ret => exact this
   | exit id => exact this
 | cond c x y ihx ihy =>
  intro σ σ' μ β a w ex Q hs hc h hq
  simp only [dh, tq] at h
  split at h
  ·rename_i b hb
   have := (aN hs hc.1 hb).bool_inv
   refine wpIn_cond this ?_
   cases b with
   | true => exact ihx hs hc.2.1 h hq
   | false => exact ihy hs hc.2.2 h hq
  ·cases h
 | block id b ih =>
  intro σ σ' μ β a w ex Q hs hc h hq
  simp only [dh, jm] at h
  refine wpIn_block ?_
  split at h
  ·rename_i i σ1 h1
   split at h
   ·rename_i hi
    cases h
    refine ih hs hc h1 fun a' w' hl => ?_
    simp only [sJ, Exit.inBlock, hi, if_true]
    exact hq a' w' hl
   ·rename_i hi
    cases h
    refine ih hs hc h1 fun a' w' hl => ?_
    simp only [sJ, Exit.inBlock, hi, if_false]
    exact hq a' w' hl
  ·rename_i hn
   refine ih hs hc h fun a' w' hl => ?_
   have := hq a' w' hl
   cases ex with
   | norm => exact this
   | ret => exact this
   | exit i => exact absurd h (hn _ _)
 | loop b ih =>
  intro σ σ' μ β a w ex Q hs hc h hq
  simp only [dh] at h
  have key : ∀ (k : Nat) {σ : St} {μ : Mu} {β : List Nat} {a : Act} {w : World}, Sim (C.locs f) σ μ β a w → CodeOk P C f a.tmps.size b → oW (dh C callf f n b) k σ = some (ex, σ') →
    (∀ a' w', Leads (C.locs f) σ μ β a w σ' a' w' → Q (sJ ex) a' w') → Code.roundsIn (rf ro) 0 P b Q k a w := by
   intro k
   induction k with
   | zero => intro σ μ β a w hs hc h; cases h
   | succ k ihk =>
    intro σ μ β a w hs hc h hq
    rw [roundsIn_succ]
    simp only [oW] at h
    split at h
    ·rename_i σ1 h1
     refine ih hs hc h1 fun a1 w1 hl => ?_
     simp only [sJ, Exit.then]
     obtain ⟨μ1, β1, k1, k2, k3, k4, k5, k6⟩ := hl
     exact ihk k1 (by rw [k4]; exact hc) h fun a' w' hl' => hq a' w' (hl'.then k2 k3 k4 k5 k6)
    ·rename_i hn
     refine ih hs hc h fun a1 w1 hl => ?_
     have := hq a1 w1 hl
     cases ex with
     | norm => exact absurd h (hn _)
     | ret => exact this
     | exit id => exact this
  exact wpIn_loop_rounds n (key n hs hc h hq)
 | exit id =>
  intro σ σ' μ β a w ex Q hs hc h hq
  simp only [dh, Option.some.injEq, Prod.mk.injEq] at h
  obtain ⟨rfl, rfl⟩ := h
  exact wpIn_exit (hq a w (.refl hs))
 | ret =>
  intro σ σ' μ β a w ex Q hs hc h hq
  simp only [dh, Option.some.injEq, Prod.mk.injEq] at h
  obtain ⟨rfl, rfl⟩ := h
  exact wpIn_ret (hq a w (.refl hs))
 | rangeFunc f ps a b iha ihb => intro σ σ' μ β a w ex Q hs hc h hq; cases h
 | scope b ih => intro σ σ' μ β a w ex Q hs hc h hq; cases h
 | label l => intro σ σ' μ β a w ex Q hs hc h hq; cases h
 | goto l => intro σ σ' μ β a w ex Q hs hc h hq; cases h
 | refuse why => intro σ σ' μ β a w ex Q hs hc h hq; cases h
end
end Go.Lite
end
section
namespace Go.Lite
open Go
def Same (xs : List Operand) (σ τ : St) : Prop := ∀ x ∈ xs, iU σ x = iU τ x ∧ ev σ x = ev τ x
section
variable {C : Ctx} {callf : bU} {f : Nat} {σ τ σ' : St}
theorem KE {x : Operand} (h : ∀ t, x = .tmp t → σ.regs t = τ.regs t) : iU σ x = iU τ x ∧ ev σ x = ev τ x := by
 cases x with
 | tmp t => simp only [iU, ev, h t rfl, and_self]
 | _ => exact ⟨rfl, rfl⟩
theorem lQ : ∀ {xs : List Operand}, (∀ x ∈ xs, ev σ x = ev τ x) → evs σ xs = evs τ xs
 | [], _ => rfl
 | x :: xs, h => by
  simp only [evs]
  rw [h x (by simp), lQ fun y hy => h y (List.mem_cons_of_mem _ hy)]
theorem jV : ∀ {xs : List (Nat × Operand)}, (∀ x ∈ xs, ev σ x.2 = ev τ x.2) → ik σ xs = ik τ xs
 | [], _ => rfl
 | (i, x) :: xs, h => by
  simp only [ik]
  rw [h (i, x) (by simp), jV fun y hy => h y (List.mem_cons_of_mem _ hy)]
theorem nK {d : Nat} {x : Option Operand} (h : ∀ y, x = some y → ev σ y = ev τ y) : eX σ d x = eX τ d x := by
 cases x with
 | none => rfl
 | some y => simp only [eX, h y rfl]
theorem BK {T : LT} {p : Pl} (h : cellsAt σ p = cellsAt τ p) : loadAt T σ p = loadAt T τ p := by
 simp only [loadAt, h]
theorem xE {H H' : List Ob} {p : Option (Nat × Nat)} {k : Nat} (h : ∀ id off, p = some (id, off) → H[id]? = H'[id]?) : aQ H p k = aQ H' p k := by
 unfold aQ
 cases p with
 | none => rfl
 | some q => obtain ⟨id, off⟩ := q; simp only [h id off rfl]
theorem Dv {ty : Nat → LT} {S D : LT} {H H' : List Ob} {x : V} (h : ∀ e id off n, S.desc = .slice e → x = .slc (some (id, off)) n → H[id]? = H'[id]?) : tX ty S D H x = tX ty S D H' x := by
 unfold tX
 split <;> try rfl
 rename_i e p n h1 h2
 split
 ·rw [xE (H' := H') fun id off hp => h e id off n h1 (by rw [hp])]
 ·rfl
theorem BD {T : LT} {ty : Nat → LT} {x : V} {lo hi mx : Option Operand} (h : ∀ y, (lo = some y ∨ hi = some y ∨ mx = some y) → ev σ y = ev τ y)
  (hh : ∀ e id off n, T.desc = .slice e → x = .slc (some (id, off)) n → σ.heap[id]? = τ.heap[id]?) : pY T ty σ x lo hi mx = pY T ty τ x lo hi mx := by
 have e1 : ∀ d, eX σ d lo = eX τ d lo := fun d => nK fun y hy => h y (.inl hy)
 have e2 : ∀ d, eX σ d hi = eX τ d hi := fun d => nK fun y hy => h y (.inr (.inl hy))
 have e3 : ∀ d, eX σ d mx = eX τ d mx := fun d => nK fun y hy => h y (.inr (.inr hy))
 unfold pY
 split
 ·rw [e1, e2]
 ·rw [e1, e2]
 ·rename_i e id off n h1
  have r1 : ∀ a b c, reaches σ.heap id a b c = reaches τ.heap id a b c := fun a b c => by unfold reaches; rw [hh e id off n h1 rfl]
  have r2 : ∀ a, aY σ.heap id a = aY τ.heap id a := fun a => by unfold aY; rw [hh e id off n h1 rfl]
  rw [e1, e2]
  cases mx with
  | none => simp only [r1, r2]
  | some m => simp only [r1, r2, e3]
 ·rfl
theorem Gm {op : Op} (hA : Same op.operands.toList σ τ)
  (hL : ∀ t x r p, op = .load t x → iU σ x = some r → lG r = some p → cellsAt σ p = cellsAt τ p)
  (hS : ∀ t x lo hi mx e id off n, op = .slice t x lo hi mx → (C.ty t).desc = .slice e → ev σ x = some (.slc (some (id, off)) n) → σ.heap[id]? = τ.heap[id]?)
  (hC : ∀ s d x e id off n, op = .convert s d x → (C.ty s).desc = .slice e → ev σ x = some (.slc (some (id, off)) n) → σ.heap[id]? = τ.heap[id]?) : sG C σ op = sG C τ op := by
 unfold sG
 split <;> try rfl
 all_goals simp only [Same, Op.operands, Call.operands] at hA
 case h_4 t x =>
  have hx := hA x (by simp)
  rw [hx.1]
  cases hr : iU τ x with
  | none => rfl
  | some r =>
   simp only []
   cases hp : lG r with
   | none => rfl
   | some p => simp only [BK (hL t x r p rfl (by rw [hx.1, hr]) hp)]
 case h_8 s d x =>
  have hx := hA x (by simp)
  rw [hx.2]
  cases hr : ev τ x with
  | none => rfl
  | some a =>
   have := Dv (ty := C.ty) (S := C.ty s) (D := C.ty d) (H := σ.heap) (H' := τ.heap) (x := a) fun e id off n h1 h2 => hC s d x e id off n rfl h1 (by rw [hx.2, hr, h2])
   simp only [this]
 case h_14 t x lo hi mx =>
  have hx := hA x (by simp)
  rw [hx.2]
  cases hr : ev τ x with
  | none => rfl
  | some a =>
   simp only []
   rw [BD (σ := σ) (τ := τ) (fun y hy => (hA y (by rcases hy with h | h | h <;> simp [h])).2) fun e id off n h1 h2 => hS t x lo hi mx e id off n rfl h1 (by rw [hx.2, hr, h2])]
 case h_15 g first cap =>
  rw [lQ (σ := σ) (τ := τ) (xs := first.toList) fun y hy => (hA y (by simp at hy ⊢; simp [hy])).2, lQ (σ := σ) (τ := τ) (xs := cap.toList) fun y hy => (hA y (by simp at hy ⊢; simp [hy])).2]
 case h_16 t parts =>
  rw [jV (σ := σ) (τ := τ) fun y hy => (hA y.2 (by simp at hy ⊢; exact ⟨y.1, hy⟩)).2]
 case h_17 args ts =>
  have ha : ∀ x ∈ args.toList, ev σ x = ev τ x := fun y hy => (hA y (by simp at hy ⊢; simp [hy])).2
  split
  ·rename_i x t h1 h2
   rw [ha x (by simp [h1])]
  ·rfl
 case h_20 args ts =>
  have ha : ∀ x ∈ args.toList, ev σ x = ev τ x := fun y hy => (hA y (by simp at hy ⊢; simp [hy])).2
  split
  ·rename_i x t h1 h2
   rw [ha x (by simp [h1])]
  ·rfl
 case h_18 args ts => rw [lQ (σ := σ) (τ := τ) fun y hy => (hA y (by simp at hy ⊢; simp [hy])).2]
 case h_19 args ts => rw [lQ (σ := σ) (τ := τ) fun y hy => (hA y (by simp at hy ⊢; simp [hy])).2]
 all_goals (simp at hA; simp only [hA])
theorem jQ {id off : Nat} {xs : List V} {σ1 : St} (hh : σ.heap = τ.heap) (h : dB σ (.hp id off) xs = some σ1) : ∃ H, σ1 = { σ with heap := H } ∧ dB τ (.hp id off) xs = some { τ with heap := H } := by
 simp only [dB] at h ⊢
 rw [hh] at h
 split at h
 ·rename_i es cells ho
  split at h
  ·rename_i hl
   cases h
   try simp only [ho, if_pos hl]
   exact ⟨_, rfl, rfl⟩
  ·cases h
 ·cases h
theorem xK {d : Option Nat} {op : Op} (hA : Same op.operands.toList σ τ) (hh : σ.heap = τ.heap)
  (hN : (∃ t, op = .alloc t) ∨ (∃ t x, op = .box t x) → ∀ e, d = some e → (C.locs f).contains e = false)
  (hP : ∀ t x y r t' c off, op = .store t x y → iU σ x = some r → lG r ≠ some (.loc t' c off)) (h : lw C callf f σ d op = some σ') :
  ∃ (H : List Ob) (v : V), σ' = ({ σ with heap := H } : St).put d (.val v) ∧ lw C callf f τ d op = some (({ τ with heap := H } : St).put d (.val v)) := by
 unfold lw at h ⊢
 split at h
 all_goals simp only [Same, Op.operands, Call.operands] at hA
 case h_1 t =>
  split at h
  ·rename_i hz
   simp only [hz, if_true]
   unfold newVar at h ⊢
   cases d with
   | none => cases h
   | some e =>
    simp only [hN (.inl ⟨t, rfl⟩) e rfl, Bool.false_eq_true, if_false, Option.some.injEq] at h ⊢
    subst h
    exact ⟨σ.heap ++ [.mk true (aV (C.ty t) C.ty) (C.ty t).zero], .ptr (some (σ.heap.length, 0)), rfl, by rw [hh]; rfl⟩
  ·cases h
 case h_2 t x =>
  rw [(hA x (by simp)).2] at h
  split at h
  ·rename_i v h1
   split at h
   ·rename_i cs h2
    unfold newVar at h ⊢
    cases d with
    | none => cases h
    | some e =>
     simp only [hN (.inr ⟨t, x, rfl⟩) e rfl, Bool.false_eq_true, if_false, Option.some.injEq, h1, h2] at h ⊢
     subst h
     exact ⟨σ.heap ++ [.mk true (aV (C.ty t) C.ty) cs], .ptr (some (σ.heap.length, 0)), rfl, by rw [hh]; rfl⟩
   ·cases h
  ·cases h
 case h_3 t x y =>
  have h0 := hP t x y
  rw [(hA x (by simp)).1, (hA y (by simp)).2] at h
  split at h
  ·rename_i r v h1 h2
   split at h
   ·rename_i p h3
    split at h
    ·rename_i σ1 h4
     cases h
     try simp only [h1, h2, h3]
     cases p with
     | loc t' c off => exact absurd h3 (h0 r t' c off rfl (by rw [(hA x (by simp)).1, h1]))
     | hp id off =>
      simp only [storeAt] at h4 ⊢
      split at h4
      ·rename_i xs hx
       split at h4
       ·rename_i hc
        obtain ⟨H, rfl, h5⟩ := jQ hh h4
        try simp only [hx, if_pos hc, h5]
        exact ⟨H, _, rfl, rfl⟩
       ·cases h4
      ·cases h4
    ·cases h
   ·cases h
  ·cases h
 case h_4 t n parts =>
  rw [jV (σ := σ) (τ := τ) fun y hy => (hA y.2 (by simp at hy ⊢; exact ⟨y.1, hy⟩)).2] at h
  split at h
  ·rename_i E ps h1 h2
   split at h
   ·rename_i hE
    split at h
    ·rename_i cs h3
     cases h
     try simp only [h1, h2, h3, if_pos hE, St.new, hh]
     exact ⟨_, _, rfl, rfl⟩
    ·cases h
   ·cases h
  ·cases h
 case h_5 t l c =>
  rw [(hA l (by simp)).2, (hA c (by simp)).2] at h
  split at h
  ·rename_i E l' c' h1 h2 h3
   split at h
   ·rename_i hE
    cases h
    try simp only [h1, h2, h3, if_pos hE, St.new, hh]
    exact ⟨_, _, rfl, rfl⟩
   ·cases h
  ·cases h
 case h_6 s t x =>
  rw [(hA x (by simp)).2] at h
  split at h
  ·rename_i e b h1 h2 h3
   split at h
   ·rename_i h4
    split at h
    ·rename_i h5
     cases h
     try simp only [h1, h2, h3, h4, if_pos h5, St.new, hh]
     exact ⟨_, _, rfl, rfl⟩
    ·cases h
   ·cases h
  ·cases h
 case h_7 args ts =>
  have ha : ∀ x ∈ args.toList, ev σ x = ev τ x := fun y hy => (hA y (by simp at hy ⊢; simp [hy])).2
  split at h
  ·rename_i s x t u h1 h2
   rw [ha s (by simp [h1]), ha x (by simp [h1]), hh] at h
   split at h
   ·rename_i E s' x' h3 h4 h5
    split at h
    ·rename_i v H h6
     cases h
     try simp only [h1, h2, h3, h4, h5, h6]
     exact ⟨_, _, rfl, rfl⟩
    ·cases h
   ·cases h
  ·cases h
 case h_8 args ts =>
  have ha : ∀ x ∈ args.toList, ev σ x = ev τ x := fun y hy => (hA y (by simp at hy ⊢; simp [hy])).2
  split at h
  ·rename_i s x t rest h1 h2
   rw [ha s (by simp [h1]), ha x (by simp [h1])] at h
   split at h
   ·rename_i E s' x' h3 h4 h5
    split at h
    ·rename_i v σ1 h6
     cases h
     try simp only [h1, h2, h3, h4, h5]
     unfold copyV at h6 ⊢
     split at h6
     ·cases h6
     ·rename_i hz
      try simp only [hz, if_false]
      split at h6
      ·split at h6
       ·cases h6
       ·rename_i k hk
        rw [hh] at h6
        split at h6
        ·cases h6
        ·rename_i xs hxs
         try simp only [hk, hxs]
         split at h6
         ·rename_i hk0
          cases h6
          try simp only [hk0, if_true]
          exact ⟨σ.heap, _, rfl, by rw [hh]⟩
         ·rename_i hk0
          try simp only [hk0, if_false]
          split at h6
          ·cases h6
          ·split at h6
           ·rename_i hone
            try simp only [hone, if_true]
            split at h6
            ·rename_i σ2 h7
             cases h6
             obtain ⟨H, rfl, h8⟩ := jQ hh h7
             try simp only [h8]
             exact ⟨H, _, rfl, rfl⟩
            ·cases h6
           ·cases h6
      ·cases h6
    ·cases h
   ·cases h
  ·cases h
 case h_9 args ts =>
  have ha : ∀ x ∈ args.toList, ev σ x = ev τ x := fun y hy => (hA y (by simp at hy ⊢; simp [hy])).2
  split at h
  ·rename_i s t h1 h2
   rw [ha s (by simp [h1])] at h
   split at h
   ·rename_i E h3 h4
    cases h
    try simp only [h1, h2, h3, h4]
    exact ⟨σ.heap, _, rfl, by rw [hh]⟩
   ·rename_i E id off n h3 h4
    try simp only [h1, h2, h3, h4]
    split at h
    ·rename_i hn
     cases h
     simp only [hn, if_true]
     exact ⟨σ.heap, _, rfl, by rw [hh]⟩
    ·rename_i hn
     simp only [hn, if_false]
     split at h
     ·rename_i hz
      simp only [if_pos hz]
      split at h
      ·rename_i σ2 h7
       cases h
       obtain ⟨H, rfl, h8⟩ := jQ hh h7
       try simp only [h8]
       exact ⟨H, _, rfl, rfl⟩
      ·cases h
     ·cases h
   ·cases h
  ·cases h
 case h_10 g args ts =>
  rw [(hA g (by simp)).2, lQ (σ := σ) (τ := τ) fun y hy => (hA y (by simp at hy ⊢; simp [hy])).2, hh] at h
  split at h
  ·rename_i g' a b xs h1 h2
   split at h
   ·rename_i r H h3
    cases h
    try simp only [h1, h2, h3]
    exact ⟨_, _, rfl, rfl⟩
   ·cases h
  ·cases h
 case h_11 => cases h
end
structure Foot where
 U : List Nat
 W : List Nat
 rc : Bool
 rh : Bool
 wh : Bool
def EK (T : LT) : Bool := match T.desc with | .slice _ => true | _ => false
def ja (C : Ctx) (f : Nat) (d : Option Nat) : Bool := match d with | some d => (C.locs f).contains d | none => false
def aX (C : Ctx) (f : Nat) (ops : Array Oper) (h : Hint) (i : Nat) (o : Oper) : Foot :=
 match o.op with
 | .load _ _ => match h.locs.lookup i with
  | some t => ⟨t :: o.looksAt ops, o.dst.toList, false, false, false⟩
  | none => if h.old.contains i then ⟨o.looksAt ops, o.dst.toList, false, true, false⟩ else ⟨o.looksAt ops ++ C.locs f, o.dst.toList, false, true, false⟩
 | .store _ _ _ => match h.locs.lookup i with
  | some t => ⟨t :: o.looksAt ops, t :: o.dst.toList, false, false, false⟩
  | none => if h.old.contains i then ⟨o.looksAt ops, o.dst.toList, false, true, true⟩ else ⟨o.looksAt ops ++ C.locs f, o.dst.toList ++ C.locs f, false, true, true⟩
 | .alloc _ => if ja C f o.dst then ⟨o.looksAt ops, o.dst.toList, true, false, false⟩ else ⟨o.looksAt ops, o.dst.toList, false, true, true⟩
 | .box _ _ => if ja C f o.dst then ⟨o.looksAt ops, o.dst.toList, true, false, false⟩ else ⟨o.looksAt ops, o.dst.toList, false, true, true⟩
 | .slice t _ _ _ _ => ⟨o.looksAt ops, o.dst.toList, false, EK (C.ty t), false⟩
 | .convert s t x => if kZ C (.convert s t x) then ⟨o.looksAt ops, o.dst.toList, false, true, true⟩ else ⟨o.looksAt ops, o.dst.toList, false, EK (C.ty s), false⟩
 | op => if kZ C op then ⟨o.looksAt ops, o.dst.toList, false, true, true⟩ else ⟨o.looksAt ops, o.dst.toList, false, false, false⟩
theorem rD (C : Ctx) (f : Nat) (ops : Array Oper) (h : Hint) (i : Nat) (o : Oper) : ∀ t ∈ o.looksAt ops, t ∈ (aX C f ops h i o).U := by
 intro t ht
 unfold aX
 repeat' split
 all_goals simp [ht]
theorem KL (C : Ctx) (f : Nat) (ops : Array Oper) (h : Hint) (i : Nat) (o : Oper) : ∀ t ∈ (aX C f ops h i o).W, t ∈ o.dst.toList ∨ t ∈ (aX C f ops h i o).U := by
 intro t ht
 unfold aX at *
 repeat' split at ht
 all_goals simp_all
 all_goals grind
theorem KO (C : Ctx) (f : Nat) (ops : Array Oper) (h : Hint) (i : Nat) (o : Oper) : ∀ t ∈ o.dst.toList, t ∈ (aX C f ops h i o).W := by
 intro t ht
 unfold aX
 repeat' split
 all_goals simp_all
theorem jK (C : Ctx) (f : Nat) (ops : Array Oper) (h : Hint) (i : Nat) (o : Oper) : (aX C f ops h i o).wh = true → (aX C f ops h i o).rh = true := by
 unfold aX
 repeat' split
 all_goals simp
structure Moves (F : Foot) (σ' τ τ' : St) : Prop where
 w : ∀ t ∈ F.W, τ'.regs t = σ'.regs t
 k : ∀ t, t ∉ F.W → τ'.regs t = τ.regs t
 cnt : τ'.cnt = if F.rc = true then σ'.cnt else τ.cnt
 heap : τ'.heap = if F.wh = true then σ'.heap else τ.heap
section
variable {C : Ctx} {callf : bU} {f : Nat} {σ τ σ' : St} {ops : Array Oper} {h : Hint} {base i : Nat} {o : Oper}
theorem xN {x : Operand} {v : V} (h : ev σ x = some v) : iU σ x = some (.val v) := by
 cases x with
 | tmp t =>
  simp only [ev, iU] at *
  split at h
  ·rename_i u hu; cases h; rw [hu]
  ·cases h
 | const c => simp only [ev, iU, Option.some.injEq] at *; rw [h]
 | func g => simp only [ev, iU, Option.some.injEq] at *; rw [h]
 | global g => cases h
theorem qj {U : List Nat} (hU : ∀ t ∈ o.looksAt ops, t ∈ U) (hA : ∀ t ∈ U, σ.regs t = τ.regs t) : Same o.op.operands.toList σ τ := by
 intro x hx
 refine KE fun t ht => hA t (hU t ?_)
 subst ht
 exact List.mem_append_left _ (List.mem_filterMap.2 ⟨.tmp t, hx, rfl⟩)
theorem bu (σ : St) (d : Option Nat) (x : R) (t : Nat) : (σ.put d x).regs t = if t ∈ d.toList then x else σ.regs t := by
 cases d with
 | none => simp [St.put]
 | some e => simp only [St.put, upd, Option.toList, List.mem_singleton]
theorem iW (σ : St) (d : Option Nat) (x : R) : (σ.put d x).cnt = σ.cnt := by cases d <;> rfl
theorem dC (σ : St) (d : Option Nat) (x : R) : (σ.put d x).heap = σ.heap := by cases d <;> rfl
theorem wE {op : Op} {x : Operand} (h : lookOf op = some x) : x ∈ op.operands.toList := by
 cases op <;> simp only [lookOf, reduceCtorEq, Option.some.injEq] at h <;> subst h <;> simp [Op.operands]
theorem Bh (hS : Same o.op.operands.toList σ τ) : fitsAt h base i o σ = fitsAt h base i o τ := by
 unfold fitsAt
 cases hl : lookOf o.op with
 | none => rfl
 | some x => simp only [Option.bind_some, (hS x (wE hl)).1]
theorem qx {x : Operand} (hl : lookOf o.op = some x) (hn : oq o.op = false) (hf : fitsAt h base i o σ = true) (ho : h.old.contains i = true) :
  (∀ t c off, iU σ x ≠ some (.ref t c off)) ∧ (∀ id off, iU σ x = some (.val (.ptr (some (id, off)))) → id < base ∧ h.exc.contains id = false) ∧ (∀ id off n, iU σ x = some (.val (.slc (some (id, off)) n)) → id < base ∧ h.exc.contains id = false) := by
 unfold fitsAt at hf
 simp only [hl, Option.bind_some, ho, if_true, Bool.and_eq_true] at hf
 refine ⟨fun t c off he => ?_, fun id off he => ?_, fun id off n he => ?_⟩ <;> rw [he] at hf <;> simp_all
theorem CE {x : Operand} (hl : lookOf o.op = some x) (hf : fitsAt h base i o σ = true) (ho : h.old.contains i = true) : ∀ t c off, iU σ x ≠ some (.ref t c off) := by
 unfold fitsAt at hf
 simp only [hl, Option.bind_some, ho, if_true, Bool.and_eq_true] at hf
 intro t c off he
 rw [he] at hf
 simp_all
theorem wO {x : Operand} {t : Nat} (hl : lookOf o.op = some x) (hf : fitsAt h base i o σ = true) (ho : h.locs.lookup i = some t) :
  (∀ t' c off, iU σ x = some (.ref t' c off) → t' = t) ∧ (∀ p, iU σ x ≠ some (.val (.ptr p))) := by
 unfold fitsAt at hf
 simp only [hl, Option.bind_some, ho, Bool.and_eq_true] at hf
 refine ⟨fun t c off he => ?_, fun p he => ?_⟩ <;> rw [he] at hf <;> simp_all
theorem nz {r : R} {p : Pl} (h : lG r = some p) : (∃ t c off, r = .ref t c off ∧ p = .loc t c off) ∨ (∃ id off, r = .val (.ptr (some (id, off))) ∧ p = .hp id off) := by
 unfold lG at h
 split at h
 ·cases h; exact .inl ⟨_, _, _, rfl, rfl⟩
 ·cases h; exact .inr ⟨_, _, rfl, rfl⟩
 ·cases h
theorem CX (hi : kZ C o.op = false) (hA : ∀ t ∈ (aX C f ops h i o).U, σ.regs t = τ.regs t)
  (hheap : (aX C f ops h i o).rh = true → σ.heap = τ.heap ∨ (h.old.contains i = true ∧ iT h base σ.heap τ.heap)) (hf : fitsAt h base i o σ = true)
  (hR : ∀ x ∈ o.op.operands.toList, ∀ t c off, iU σ x = some (.ref t c off) → t ∈ C.locs f) : sG C σ o.op = sG C τ o.op := by
 have hS := qj (rD C f ops h i o) hA
 refine Gm hS ?_ ?_ ?_
 ·intro t x r p hop hr hp
  have hl : lookOf o.op = some x := by rw [hop]; rfl
  have hx := hR x (wE hl)
  have hns : oq o.op = false := by rw [hop]; rfl
  unfold aX at hA hheap
  simp only [hop] at hA hheap
  rcases nz hp with ⟨t', c, off, rfl, rfl⟩ | ⟨id, off, rfl, rfl⟩
  ·have : σ.regs t' = τ.regs t' := by
    cases hlk : h.locs.lookup i with
    | some t =>
     simp only [hlk] at hA
     rw [(wO hl hf hlk).1 _ _ _ hr]
     exact hA t (by simp)
    | none =>
     simp only [hlk] at hA
     by_cases ho : h.old.contains i = true
     ·exact absurd hr ((qx hl hns hf ho).1 _ _ _)
     ·simp only [if_neg ho] at hA
      exact hA t' (by simp [hx _ _ _ hr])
   simp only [cellsAt, this]
  ·have : σ.heap[id]? = τ.heap[id]? := by
    cases hlk : h.locs.lookup i with
    | some t => exact absurd hr ((wO hl hf hlk).2 _)
    | none =>
     simp only [hlk] at hheap
     by_cases ho : h.old.contains i = true
     ·simp only [if_pos ho] at hheap
      rcases hheap (by trivial) with h1 | h1
      ·rw [h1]
      ·exact (h1.2 id ((qx hl hns hf ho).2.1 _ _ hr)).symm
     ·simp only [if_neg ho] at hheap
      rcases hheap (by trivial) with h1 | h1
      ·rw [h1]
      ·exact absurd h1.1 ho
   simp only [cellsAt, this]
 ·intro t x lo hi mx e id off n hop hd hx
  have hl : lookOf o.op = some x := by rw [hop]; rfl
  have hns : oq o.op = false := by rw [hop]; rfl
  unfold aX at hheap
  simp only [hop, EK, hd] at hheap
  rcases hheap (by trivial) with h1 | h1
  ·rw [h1]
  ·exact (h1.2 id ((qx hl hns hf h1.1).2.2 _ _ _ (xN hx))).symm
 ·intro s d x e id off n hop hd hx
  have hl : lookOf o.op = some x := by rw [hop]; rfl
  have hns : oq o.op = false := by rw [hop]; rfl
  rw [hop] at hi
  unfold aX at hheap
  simp only [hop, hi, EK, hd, Bool.false_eq_true, if_false] at hheap
  rcases hheap (by trivial) with h1 | h1
  ·rw [h1]
  ·exact (h1.2 id ((qx hl hns hf h1.1).2.2 _ _ _ (xN hx))).symm
theorem BU (hi : kZ C o.op = false) : (aX C f ops h i o).W = o.dst.toList ∧ (aX C f ops h i o).rc = false ∧ (aX C f ops h i o).wh = false := by
 unfold aX
 repeat' split
 all_goals simp_all [kZ]
theorem Moves.put_put {F : Foot} {d : Option Nat} {r : R} (h1 : F.W = d.toList) (h2 : F.rc = false) (h3 : F.wh = false) : Moves F (σ.put d r) τ (τ.put d r) := by
 refine ⟨fun t ht => ?_, fun t ht => ?_, ?_, ?_⟩
 ·rw [bu, bu]; rw [h1] at ht; simp only [ht, if_true]
 ·rw [bu]; rw [h1] at ht; simp only [ht, if_false]
 ·rw [iW, h2]; rfl
 ·rw [dC, h3]; rfl
theorem Moves.put_heap {F : Foot} {d : Option Nat} {r : R} {H : List Ob} (h1 : F.W = d.toList) (h2 : F.rc = false) (h3 : F.wh = true) : Moves F (({ σ with heap := H } : St).put d r) τ (({ τ with heap := H } : St).put d r) := by
 refine ⟨fun t ht => ?_, fun t ht => ?_, ?_, ?_⟩
 ·rw [bu, bu]; rw [h1] at ht; simp only [ht, if_true]
 ·rw [bu]; rw [h1] at ht; simp only [ht, if_false]
 ·rw [iW, h2]; rfl
 ·rw [dC, dC, h3]; rfl
theorem uh (hF : (aX C f ops h i o) = ⟨o.looksAt ops, o.dst.toList, false, true, true⟩) (hi : kZ C o.op = true) (hA : ∀ t ∈ (aX C f ops h i o).U, σ.regs t = τ.regs t) (hh : σ.heap = τ.heap)
  (hN : (∃ t, o.op = .alloc t) ∨ (∃ t x, o.op = .box t x) → ∀ e, o.dst = some e → (C.locs f).contains e = false)
  (hP : ∀ t x y r t' c off, o.op = .store t x y → iU σ x = some r → lG r ≠ some (.loc t' c off))
  (hstep : yl C callf f o σ = some σ') : ∃ τ', yl C callf f o τ = some τ' ∧ Moves (aX C f ops h i o) σ' τ τ' := by
 unfold yl at *
 simp only [hi, if_true] at *
 obtain ⟨H, v, rfl, h2⟩ := xK (qj (rD C f ops h i o) hA) hh hN hP hstep
 refine ⟨_, h2, ?_⟩
 rw [hF]
 exact Moves.put_heap rfl rfl rfl
theorem BG {t c off : Nat} {xs : List V} (hr : σ.regs t = τ.regs t) (h : dB σ (.loc t c off) xs = some σ') :
  ∃ b, σ' = { σ with regs := upd σ.regs t b } ∧ dB τ (.loc t c off) xs = some { τ with regs := upd τ.regs t b } := by
 simp only [dB, ← hr] at *
 split at h
 ·rename_i c' cells hb
  split at h
  ·rename_i hc
   cases h
   try simp only [hb, if_pos hc]
   exact ⟨_, rfl, rfl⟩
  ·cases h
 ·cases h
theorem GN (hA : ∀ t ∈ (aX C f ops h i o).U, σ.regs t = τ.regs t) (hcnt : (aX C f ops h i o).rc = true → σ.cnt = τ.cnt)
  (hheap : (aX C f ops h i o).rh = true → σ.heap = τ.heap ∨ (h.old.contains i = true ∧ (aX C f ops h i o).wh = false ∧ iT h base σ.heap τ.heap)) (hf : fitsAt h base i o σ = true)
  (hR : ∀ x ∈ o.op.operands.toList, ∀ t c off, iU σ x = some (.ref t c off) → t ∈ C.locs f)
  (hstep : yl C callf f o σ = some σ') : ∃ τ', yl C callf f o τ = some τ' ∧ Moves (aX C f ops h i o) σ' τ τ' := by
 cases hi : kZ C o.op with
 | false =>
  obtain ⟨h1, h2, h3⟩ := BU (f := f) (ops := ops) (h := h) (i := i) hi
  have := CX hi hA (fun hh => (hheap hh).imp id fun k => ⟨k.1, k.2.2⟩) hf hR
  unfold yl at *
  simp only [hi, Bool.false_eq_true, if_false, this] at *
  split at hstep
  ·rename_i r hr
   cases hstep
   exact ⟨_, by try simp only [hr], Moves.put_put h1 h2 h3⟩
  ·cases hstep
 | true =>
  have hS := qj (rD C f ops h i o) hA
  have hwh : (aX C f ops h i o).wh = true → σ.heap = τ.heap := fun hw => (hheap (jK C f ops h i o hw)).elim id fun k => by rw [hw] at k; exact absurd k.2.1 (by decide)
  have gen : (aX C f ops h i o) = ⟨o.looksAt ops, o.dst.toList, false, true, true⟩ → ((∃ t, o.op = .alloc t) ∨ (∃ t x, o.op = .box t x) → ∀ e, o.dst = some e → (C.locs f).contains e = false) →
    (∀ t x y r t' c off, o.op = .store t x y → iU σ x = some r → lG r ≠ some (.loc t' c off)) → ∃ τ', yl C callf f o τ = some τ' ∧ Moves (aX C f ops h i o) σ' τ τ' :=
   fun hF hN hP => uh hF hi hA (hwh (by rw [hF])) hN hP hstep
  generalize hop : o.op = op at hi
  cases op
  case alloc t =>
   cases hin : ja C f o.dst with
   | false =>
    refine gen (by unfold aX; simp only [hop, hin]; rfl) (fun _ e he => ?_) (fun t x y r t' c off h => by simp [hop] at h)
    simpa [ja, he] using hin
   | true =>
    have hF : aX C f ops h i o = ⟨o.looksAt ops, o.dst.toList, true, false, false⟩ := by unfold aX; simp only [hop, hin, if_true]
    have hc := hcnt (by rw [hF])
    unfold yl at *
    simp only [hop, kZ, if_true, lw] at *
    split at hstep
    ·rename_i hz
     simp only [if_pos hz]
     unfold newVar at *
     cases hd : o.dst with
     | none => rw [hd] at hstep; cases hstep
     | some d =>
      simp only [hd, ja] at hin hstep ⊢
      simp only [hin, if_true, Option.some.injEq] at hstep ⊢
      subst hstep
      refine ⟨_, rfl, ?_⟩
      rw [hF]
      refine ⟨fun t ht => ?_, fun t ht => ?_, by simp [hc], rfl⟩ <;> simp only [hd, Option.toList, List.mem_singleton] at ht <;> simp only [upd, ht, if_true, if_false, hc]
    ·cases hstep
  case box t x =>
   cases hin : ja C f o.dst with
   | false =>
    refine gen (by unfold aX; simp only [hop, hin]; rfl) (fun _ e he => ?_) (fun t x y r t' c off h => by simp [hop] at h)
    simpa [ja, he] using hin
   | true =>
    have hF : aX C f ops h i o = ⟨o.looksAt ops, o.dst.toList, true, false, false⟩ := by unfold aX; simp only [hop, hin, if_true]
    have hc := hcnt (by rw [hF])
    have hx := (hS x (by simp [hop, Op.operands])).2
    unfold yl at *
    simp only [hop, kZ, if_true, lw, hx] at *
    split at hstep
    ·rename_i v hv
     try simp only [hv]
     split at hstep
     ·rename_i cs hcs
      try simp only [hcs]
      unfold newVar at *
      cases hd : o.dst with
      | none => rw [hd] at hstep; cases hstep
      | some d =>
       simp only [hd, ja] at hin hstep ⊢
       simp only [hin, if_true, Option.some.injEq] at hstep ⊢
       subst hstep
       refine ⟨_, rfl, ?_⟩
       rw [hF]
       refine ⟨fun t ht => ?_, fun t ht => ?_, by simp [hc], rfl⟩ <;> simp only [hd, Option.toList, List.mem_singleton] at ht <;> simp only [upd, ht, if_true, if_false, hc]
     ·cases hstep
    ·cases hstep
  case store t x y =>
   have hl : lookOf o.op = some x := by rw [hop]; rfl
   have hx := hS x (by simp [hop, Op.operands])
   have hy := hS y (by simp [hop, Op.operands])
   have nol : (∃ t, o.op = .alloc t) ∨ (∃ t x, o.op = .box t x) → ∀ e, o.dst = some e → (C.locs f).contains e = false := by rintro (⟨t, ht⟩ | ⟨t, x, ht⟩) <;> simp [hop] at ht
   cases hlk : h.locs.lookup i with
   | some t' =>
    have hF : aX C f ops h i o = ⟨t' :: o.looksAt ops, t' :: o.dst.toList, false, false, false⟩ := by unfold aX; simp only [hop, hlk]
    have hAt : σ.regs t' = τ.regs t' := hA t' (by rw [hF]; simp)
    have fl := wO hl hf hlk
    unfold yl at *
    simp only [hop, kZ, if_true, lw, ← hx.1, ← hy.2] at *
    split at hstep
    ·rename_i r v h1 h2
     try simp only [h1, h2]
     split at hstep
     ·rename_i p hp
      try simp only [hp]
      split at hstep
      ·rename_i σ1 h4
       cases hstep
       rcases nz hp with ⟨t'', c, off, rfl, rfl⟩ | ⟨id, off, rfl, rfl⟩
       ·have ht := fl.1 _ _ _ h1
        subst ht
        simp only [storeAt] at h4 ⊢
        split at h4
        ·rename_i xs hxs
         split at h4
         ·rename_i hc
          obtain ⟨b, rfl, h6⟩ := BG hAt h4
          simp only [h6, if_pos hc]
          refine ⟨_, rfl, ?_⟩
          rw [hF]
          refine ⟨fun t ht => ?_, fun t ht => ?_, ?_, ?_⟩
          ·rw [bu, bu]
           simp only [List.mem_cons] at ht
           by_cases hd : t ∈ o.dst.toList
           ·simp only [hd, if_true]
           ·simp only [hd, or_false] at ht; simp only [hd, if_false, upd, ht, if_true]
          ·rw [bu]
           simp only [List.mem_cons, not_or] at ht
           simp only [ht.2, if_false, upd, ht.1]
          ·rw [iW]; rfl
          ·rw [dC]; rfl
         ·cases h4
        ·cases h4
       ·exact absurd h1 (fl.2 _)
      ·cases hstep
     ·cases hstep
    ·cases hstep
   | none =>
    by_cases ho : h.old.contains i = true
    ·refine gen (by unfold aX; simp only [hop, hlk, if_pos ho]) nol (fun t x' y r t' c off hop' hr hp => ?_)
     rw [hop] at hop'
     cases hop'
     rcases nz hp with ⟨t'', c', off', rfl, _⟩ | ⟨id, off', _, hh⟩
     ·exact CE hl hf ho _ _ _ hr
     ·cases hh
    ·have hF : aX C f ops h i o = ⟨o.looksAt ops ++ C.locs f, o.dst.toList ++ C.locs f, false, true, true⟩ := by unfold aX; simp only [hop, hlk, if_neg ho]
     have hh := hwh (by rw [hF])
     unfold yl at *
     simp only [hop, kZ, if_true, lw, ← hx.1, ← hy.2] at *
     split at hstep
     ·rename_i r v h1 h2
      try simp only [h1, h2]
      split at hstep
      ·rename_i p hp
       try simp only [hp]
       split at hstep
       ·rename_i σ1 h4
        cases hstep
        simp only [storeAt] at h4 ⊢
        split at h4
        ·rename_i xs hxs
         try simp only [hxs]
         split at h4
         ·rename_i hc
          simp only [if_pos hc]
          have base : ∀ t, t ∈ o.dst.toList ++ C.locs f → t ∉ o.dst.toList → σ.regs t = τ.regs t := fun t ht hd => by
           refine hA t ?_
           rw [hF]
           simp only [List.mem_append, hd, false_or] at ht ⊢
           exact .inr ht
          rcases nz hp with ⟨t'', c, off, rfl, rfl⟩ | ⟨id, off, rfl, rfl⟩
          ·have htL : t'' ∈ C.locs f := hR x (by simp [Op.operands]) _ _ _ h1
           have hAt : σ.regs t'' = τ.regs t'' := hA t'' (by rw [hF]; simp [htL])
           obtain ⟨b, rfl, h6⟩ := BG hAt h4
           simp only [h6]
           refine ⟨_, rfl, ?_⟩
           rw [hF]
           refine ⟨fun t ht => ?_, fun t ht => ?_, ?_, ?_⟩
           ·rw [bu, bu]
            by_cases hd : t ∈ o.dst.toList
            ·simp only [hd, if_true]
            ·simp only [hd, if_false, upd, base t ht hd]
           ·rw [bu]
            simp only [List.mem_append, not_or] at ht
            have : t ≠ t'' := fun e => ht.2 (e ▸ htL)
            simp only [ht.1, if_false, upd, this]
           ·rw [iW]; rfl
           ·rw [dC, dC]; exact hh.symm
          ·obtain ⟨H, rfl, h6⟩ := jQ hh h4
           simp only [h6]
           refine ⟨_, rfl, ?_⟩
           rw [hF]
           refine ⟨fun t ht => ?_, fun t ht => ?_, ?_, ?_⟩
           ·rw [bu, bu]
            by_cases hd : t ∈ o.dst.toList
            ·simp only [hd, if_true]
            ·simp only [hd, if_false, base t ht hd]
           ·rw [bu]
            simp only [List.mem_append, not_or] at ht
            simp only [ht.1, if_false]
           ·rw [iW]; rfl
           ·rw [dC, dC]; rfl
         ·cases h4
        ·cases h4
       ·cases hstep
      ·cases hstep
     ·cases hstep
  all_goals first
   | (exfalso; simp [kZ] at hi; done)
   | exact gen (by unfold aX; simp only [hop, hi, if_true]) (by rintro (⟨t, ht⟩ | ⟨t, x, ht⟩) <;> simp [hop] at ht) (fun t x y r t' c off h => by simp [hop] at h)
end
end Go.Lite
end
