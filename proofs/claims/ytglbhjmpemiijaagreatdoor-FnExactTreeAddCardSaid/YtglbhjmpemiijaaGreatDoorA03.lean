/- Part 03 of the proof of a law: the interpreter, its soundness, and what functions of the program compute over it. Conditions: none but those that each theorem names. -/
import Derived.Test.YtglbhjmpemiijaaGreatDoorA02
import Derived.Orders

section
namespace Go.Lite
open Go
set_option linter.unusedSimpArgs false
set_option linter.unusedVariables false

def toExit : Ex → Exit
  | .norm => .normal
  | .ret => .ret
  | .exit id => .exit id

theorem wpIn_rf {n : Nat} {P : Program} {c : Code} {Q : Exit → Act → World → Prop} {a : Act} {w : World} : c.wpIn (rf none) n P Q a w ↔ c.wp P Q a w := wpIn_wide

/-- A region that draws its order: in each order the model leads to where the interpreter comes. -/
def DrawsOk (P : Program) (C : Ctx) (f id : Nat) (ops : Array Oper) : Prop :=
  ∀ (callf : CallF) (σ σ' : St) (μ : Mu) (β : List Nat) (a : Act) (w : World) (Q : Exit → Act → World → Prop) (ro : Option Nat) (t : Nat), CallOk P callf → Sim (C.locs f) σ μ β a w → OpsOk a.tmps.size ops →
    regionL C callf f id ops true σ = some σ' → (∀ a' w', Leads (C.locs f) σ μ β a w σ' a' w' → Q .normal a' w') → wpOpsIn (rf ro) 0 P ops Q (Region.schedule (P.follows .mixedOrders) ops t) a w

def CodeOk (P : Program) (C : Ctx) (f n : Nat) : Code → Prop
  | .region id ops draw => OpsOk n ops ∧ (draw = true → DrawsOk P C f id ops)
  | .seq a b => CodeOk P C f n a ∧ CodeOk P C f n b
  | .cond c a b => OpdOk n c ∧ CodeOk P C f n a ∧ CodeOk P C f n b
  | .block _ b => CodeOk P C f n b
  | .loop b => CodeOk P C f n b
  | _ => True

theorem OpdOk.mono {n m : Nat} (h : n ≤ m) {x : Operand} (hx : OpdOk n x) : OpdOk m x := by
  cases x <;> simp only [OpdOk] at *
  exact Nat.lt_of_lt_of_le hx h

theorem OpsOk.mono {n m : Nat} (h : n ≤ m) {ops : Array Oper} (ho : OpsOk n ops) : OpsOk m ops :=
  fun o hm => ⟨fun x hx => ((ho o hm).1 x hx).mono h, fun x hx => Nat.lt_of_lt_of_le ((ho o hm).2 x hx) h⟩

theorem CodeOk.mono {P : Program} {C : Ctx} {f n m : Nat} (h : n ≤ m) : ∀ {c : Code}, CodeOk P C f n c → CodeOk P C f m c
  | .region id ops draw, k => ⟨k.1.mono h, k.2⟩
  | .seq a b, k => ⟨CodeOk.mono h k.1, CodeOk.mono h k.2⟩
  | .cond c a b, k => ⟨k.1.mono h, CodeOk.mono h k.2.1, CodeOk.mono h k.2.2⟩
  | .block _ b, k => CodeOk.mono (c := b) h k
  | .loop b, k => CodeOk.mono (c := b) h k
  | .skip, _ | .rangeFunc .., _ | .exit _, _ | .scope _, _ | .label _, _ | .goto _, _ | .ret, _ | .refuse _, _ => trivial

section
variable {P : Program} {L : List Nat} {σ σ' : St} {μ : Mu} {β : List Nat} {a : Act} {w w' : World}

theorem Leads.then {σ1 σ2 : St} {a1 a2 : Act} {w1 w2 : World} {μ1 : Mu} {β1 : List Nat} (k2 : μ.le μ1) (k3 : β <+: β1) (k4 : a1.tmps.size = a.tmps.size) (k5 : Grow (OwnB σ.heap μ β) w (OwnB σ1.heap μ1 β1) w1)
    (k6 : Lives σ.heap μ w σ1.heap μ1) (h : Leads L σ1 μ1 β1 a1 w1 σ2 a2 w2) : Leads L σ μ β a w σ2 a2 w2 := by
  obtain ⟨μ2, β2, g1, g2, g3, g4, g5, g6⟩ := h
  exact ⟨μ2, β2, g1, Mu.le_trans k2 g2, k3.trans g3, g4.trans k4, k5.trans g5, Lives.trans k6 g6 k5.size⟩

theorem Sim.drew (hs : Sim L σ μ β a w) : Sim L σ μ β a w.drew :=
  ⟨hs.heap.drew, hs.lenβ, hs.reg, fun t c cells b ht h1 h2 => let ⟨k1, k2⟩ := hs.box t c cells b ht h1 h2; ⟨k1.same (.of_heap rfl), k2.same (.of_heap rfl)⟩, hs.sepβ, hs.injβ, hs.ltβ, hs.uniq, hs.loc, hs.defs⟩

theorem Leads.drew {a' : Act} (h : Leads L σ μ β a w.drew σ' a' w') : Leads L σ μ β a w σ' a' w' := by
  obtain ⟨μ2, β2, g1, g2, g3, g4, g5, g6⟩ := h
  exact ⟨μ2, β2, g1, g2, g3, g4, ⟨g5.size, g5.same, g5.own, g5.os, g5.tape, g5.output, fun c => Nat.le_of_succ_le (g5.drawn c)⟩, g6⟩

theorem exec_sound {C : Ctx} {callf : CallF} {f n : Nat} (hty : TysOk P C.ty) (hcall : CallOk P callf) {ro : Option Nat} :
    ∀ (c : Code) {σ σ' : St} {μ : Mu} {β : List Nat} {a : Act} {w : World} {ex : Ex} {Q : Exit → Act → World → Prop}, Sim (C.locs f) σ μ β a w → CodeOk P C f a.tmps.size c →
      execN C callf f n c σ = some (ex, σ') → (∀ a' w', Leads (C.locs f) σ μ β a w σ' a' w' → Q (toExit ex) a' w') → c.wpIn (rf ro) 0 P Q a w := by
  intro c
  induction c with
  | skip =>
    intro σ σ' μ β a w ex Q hs hc h hq
    simp only [execN, Option.some.injEq, Prod.mk.injEq] at h
    obtain ⟨rfl, rfl⟩ := h
    exact wpIn_skip (hq a w (.refl hs))
  | region id ops draw =>
    intro σ σ' μ β a w ex Q hs hc h hq
    simp only [execN] at h
    split at h
    · rename_i σ1 h1
      cases h
      cases draw with
      | false =>
        refine wpIn_region (runIdx_sound (callf := callf) (f := f) hty hcall _ hs hc.1 (σ' := σ') ?_ hq)
        rw [runL_range]
        exact h1
      | true =>
        refine wpIn_region_draw fun t => ?_
        exact hc.2 rfl callf σ σ' μ β a _ Q ro t hcall hs.drew hc.1 h1 fun a' w' hl => hq a' w' hl.drew
    · cases h
  | seq x y ihx ihy =>
    intro σ σ' μ β a w ex Q hs hc h hq
    simp only [execN, thenL] at h
    refine wpIn_seq ?_
    split at h
    · rename_i σ1 h1
      refine ihx hs hc.1 h1 fun a1 w1 hl => ?_
      simp only [toExit, Exit.then]
      obtain ⟨μ1, β1, k1, k2, k3, k4, k5, k6⟩ := hl
      exact ihy k1 (by rw [k4]; exact hc.2) h fun a' w' hl' => hq a' w' (hl'.then k2 k3 k4 k5 k6)
    · rename_i hn
      refine ihx hs hc.1 h fun a1 w1 hl => ?_
      have := hq a1 w1 hl
      cases ex with
      | norm => exact absurd h (hn _)
      | ret => exact this
      | exit id => exact this
  | cond c x y ihx ihy =>
    intro σ σ' μ β a w ex Q hs hc h hq
    simp only [execN, condL] at h
    split at h
    · rename_i b hb
      have := (ev_sound hs hc.1 hb).bool_inv
      refine wpIn_cond this ?_
      cases b with
      | true => exact ihx hs hc.2.1 h hq
      | false => exact ihy hs hc.2.2 h hq
    · cases h
  | block id b ih =>
    intro σ σ' μ β a w ex Q hs hc h hq
    simp only [execN, blockL] at h
    refine wpIn_block ?_
    split at h
    · rename_i i σ1 h1
      split at h
      · rename_i hi
        cases h
        refine ih hs hc h1 fun a' w' hl => ?_
        simp only [toExit, Exit.inBlock, hi, if_true]
        exact hq a' w' hl
      · rename_i hi
        cases h
        refine ih hs hc h1 fun a' w' hl => ?_
        simp only [toExit, Exit.inBlock, hi, if_false]
        exact hq a' w' hl
    · rename_i hn
      refine ih hs hc h fun a' w' hl => ?_
      have := hq a' w' hl
      cases ex with
      | norm => exact this
      | ret => exact this
      | exit i => exact absurd h (hn _ _)
  | loop b ih =>
    intro σ σ' μ β a w ex Q hs hc h hq
    simp only [execN] at h
    have key : ∀ (k : Nat) {σ : St} {μ : Mu} {β : List Nat} {a : Act} {w : World}, Sim (C.locs f) σ μ β a w → CodeOk P C f a.tmps.size b → loopN (execN C callf f n b) k σ = some (ex, σ') →
        (∀ a' w', Leads (C.locs f) σ μ β a w σ' a' w' → Q (toExit ex) a' w') → Code.roundsIn (rf ro) 0 P b Q k a w := by
      intro k
      induction k with
      | zero => intro σ μ β a w hs hc h; cases h
      | succ k ihk =>
        intro σ μ β a w hs hc h hq
        rw [roundsIn_succ]
        simp only [loopN] at h
        split at h
        · rename_i σ1 h1
          refine ih hs hc h1 fun a1 w1 hl => ?_
          simp only [toExit, Exit.then]
          obtain ⟨μ1, β1, k1, k2, k3, k4, k5, k6⟩ := hl
          exact ihk k1 (by rw [k4]; exact hc) h fun a' w' hl' => hq a' w' (hl'.then k2 k3 k4 k5 k6)
        · rename_i hn
          refine ih hs hc h fun a1 w1 hl => ?_
          have := hq a1 w1 hl
          cases ex with
          | norm => exact absurd h (hn _)
          | ret => exact this
          | exit id => exact this
    exact wpIn_loop_rounds n (key n hs hc h hq)
  | exit id =>
    intro σ σ' μ β a w ex Q hs hc h hq
    simp only [execN, Option.some.injEq, Prod.mk.injEq] at h
    obtain ⟨rfl, rfl⟩ := h
    exact wpIn_exit (hq a w (.refl hs))
  | ret =>
    intro σ σ' μ β a w ex Q hs hc h hq
    simp only [execN, Option.some.injEq, Prod.mk.injEq] at h
    obtain ⟨rfl, rfl⟩ := h
    exact wpIn_ret (hq a w (.refl hs))
  | rangeFunc f ps a b iha ihb => intro σ σ' μ β a w ex Q hs hc h hq; cases h
  | scope b ih => intro σ σ' μ β a w ex Q hs hc h hq; cases h
  | label l => intro σ σ' μ β a w ex Q hs hc h hq; cases h
  | goto l => intro σ σ' μ β a w ex Q hs hc h hq; cases h
  | refuse why => intro σ σ' μ β a w ex Q hs hc h hq; cases h
end
end Go.Lite
end

section
namespace Go.Lite
open Go
set_option linter.unusedSimpArgs false
set_option linter.unusedVariables false

/-- Two states in which operands are the same. -/
def Same (xs : List Operand) (σ τ : St) : Prop := ∀ x ∈ xs, evR σ x = evR τ x ∧ ev σ x = ev τ x

section
variable {C : Ctx} {callf : CallF} {f : Nat} {σ τ σ' : St}

theorem ev_same {x : Operand} (h : ∀ t, x = .tmp t → σ.regs t = τ.regs t) : evR σ x = evR τ x ∧ ev σ x = ev τ x := by
  cases x with
  | tmp t => simp only [evR, ev, h t rfl, and_self]
  | _ => exact ⟨rfl, rfl⟩

theorem evs_same : ∀ {xs : List Operand}, (∀ x ∈ xs, ev σ x = ev τ x) → evs σ xs = evs τ xs
  | [], _ => rfl
  | x :: xs, h => by
    simp only [evs]
    rw [h x (by simp), evs_same fun y hy => h y (List.mem_cons_of_mem _ hy)]

theorem evParts_same : ∀ {xs : List (Nat × Operand)}, (∀ x ∈ xs, ev σ x.2 = ev τ x.2) → evParts σ xs = evParts τ xs
  | [], _ => rfl
  | (i, x) :: xs, h => by
    simp only [evParts]
    rw [h (i, x) (by simp), evParts_same fun y hy => h y (List.mem_cons_of_mem _ hy)]

theorem boundL_same {d : Nat} {x : Option Operand} (h : ∀ y, x = some y → ev σ y = ev τ y) : boundL σ d x = boundL τ d x := by
  cases x with
  | none => rfl
  | some y => simp only [boundL, h y rfl]

theorem loadAt_same {T : LT} {p : Pl} (h : cellsAt σ p = cellsAt τ p) : loadAt T σ p = loadAt T τ p := by
  simp only [loadAt, h]

theorem slcCells_same {H H' : List Ob} {p : Option (Nat × Nat)} {k : Nat} (h : ∀ id off, p = some (id, off) → H[id]? = H'[id]?) : slcCells H p k = slcCells H' p k := by
  unfold slcCells
  cases p with
  | none => rfl
  | some q => obtain ⟨id, off⟩ := q; simp only [h id off rfl]

theorem convL_same {ty : Nat → LT} {S D : LT} {H H' : List Ob} {x : V} (h : ∀ e id off n, S.desc = .slice e → x = .slc (some (id, off)) n → H[id]? = H'[id]?) : convL ty S D H x = convL ty S D H' x := by
  unfold convL
  split <;> try rfl
  rename_i e p n h1 h2
  split
  · rw [slcCells_same (H' := H') fun id off hp => h e id off n h1 (by rw [hp])]
  · rfl

theorem sliceV_same {T : LT} {ty : Nat → LT} {x : V} {lo hi mx : Option Operand} (h : ∀ y, (lo = some y ∨ hi = some y ∨ mx = some y) → ev σ y = ev τ y)
    (hh : ∀ e id off n, T.desc = .slice e → x = .slc (some (id, off)) n → σ.heap[id]? = τ.heap[id]?) : sliceV T ty σ x lo hi mx = sliceV T ty τ x lo hi mx := by
  have e1 : ∀ d, boundL σ d lo = boundL τ d lo := fun d => boundL_same fun y hy => h y (.inl hy)
  have e2 : ∀ d, boundL σ d hi = boundL τ d hi := fun d => boundL_same fun y hy => h y (.inr (.inl hy))
  have e3 : ∀ d, boundL σ d mx = boundL τ d mx := fun d => boundL_same fun y hy => h y (.inr (.inr hy))
  unfold sliceV
  split
  · rw [e1, e2]
  · rw [e1, e2]
  · rename_i e id off n h1
    have r1 : ∀ a b c, reaches σ.heap id a b c = reaches τ.heap id a b c := fun a b c => by unfold reaches; rw [hh e id off n h1 rfl]
    have r2 : ∀ a, strideIs σ.heap id a = strideIs τ.heap id a := fun a => by unfold strideIs; rw [hh e id off n h1 rfl]
    rw [e1, e2]
    cases mx with
    | none => simp only [r1, r2]
    | some m => simp only [r1, r2, e3]
  · rfl

theorem valL_same {op : Op} (hA : Same op.operands.toList σ τ)
    (hL : ∀ t x r p, op = .load t x → evR σ x = some r → toPl r = some p → cellsAt σ p = cellsAt τ p)
    (hS : ∀ t x lo hi mx e id off n, op = .slice t x lo hi mx → (C.ty t).desc = .slice e → ev σ x = some (.slc (some (id, off)) n) → σ.heap[id]? = τ.heap[id]?)
    (hC : ∀ s d x e id off n, op = .convert s d x → (C.ty s).desc = .slice e → ev σ x = some (.slc (some (id, off)) n) → σ.heap[id]? = τ.heap[id]?) : valL C σ op = valL C τ op := by
  unfold valL
  split <;> try rfl
  all_goals simp only [Same, Op.operands, Call.operands] at hA
  case h_4 t x =>
    have hx := hA x (by simp)
    rw [hx.1]
    cases hr : evR τ x with
    | none => rfl
    | some r =>
      simp only []
      cases hp : toPl r with
      | none => rfl
      | some p => simp only [loadAt_same (hL t x r p rfl (by rw [hx.1, hr]) hp)]
  case h_8 s d x =>
    have hx := hA x (by simp)
    rw [hx.2]
    cases hr : ev τ x with
    | none => rfl
    | some a =>
      have := convL_same (ty := C.ty) (S := C.ty s) (D := C.ty d) (H := σ.heap) (H' := τ.heap) (x := a) fun e id off n h1 h2 => hC s d x e id off n rfl h1 (by rw [hx.2, hr, h2])
      simp only [this]
  case h_14 t x lo hi mx =>
    have hx := hA x (by simp)
    rw [hx.2]
    cases hr : ev τ x with
    | none => rfl
    | some a =>
      simp only []
      rw [sliceV_same (σ := σ) (τ := τ) (fun y hy => (hA y (by rcases hy with h | h | h <;> simp [h])).2) fun e id off n h1 h2 => hS t x lo hi mx e id off n rfl h1 (by rw [hx.2, hr, h2])]
  case h_15 g first cap =>
    rw [evs_same (σ := σ) (τ := τ) (xs := first.toList) fun y hy => (hA y (by simp at hy ⊢; simp [hy])).2, evs_same (σ := σ) (τ := τ) (xs := cap.toList) fun y hy => (hA y (by simp at hy ⊢; simp [hy])).2]
  case h_16 t parts =>
    rw [evParts_same (σ := σ) (τ := τ) fun y hy => (hA y.2 (by simp at hy ⊢; exact ⟨y.1, hy⟩)).2]
  case h_17 args ts =>
    have ha : ∀ x ∈ args.toList, ev σ x = ev τ x := fun y hy => (hA y (by simp at hy ⊢; simp [hy])).2
    split
    · rename_i x t h1 h2
      rw [ha x (by simp [h1])]
    · rfl
  case h_20 args ts =>
    have ha : ∀ x ∈ args.toList, ev σ x = ev τ x := fun y hy => (hA y (by simp at hy ⊢; simp [hy])).2
    split
    · rename_i x t h1 h2
      rw [ha x (by simp [h1])]
    · rfl
  case h_18 args ts => rw [evs_same (σ := σ) (τ := τ) fun y hy => (hA y (by simp at hy ⊢; simp [hy])).2]
  case h_19 args ts => rw [evs_same (σ := σ) (τ := τ) fun y hy => (hA y (by simp at hy ⊢; simp [hy])).2]
  all_goals (simp at hA; simp only [hA])

theorem writeAt_same {id off : Nat} {xs : List V} {σ1 : St} (hh : σ.heap = τ.heap) (h : writeAt σ (.hp id off) xs = some σ1) : ∃ H, σ1 = { σ with heap := H } ∧ writeAt τ (.hp id off) xs = some { τ with heap := H } := by
  simp only [writeAt] at h ⊢
  rw [hh] at h
  split at h
  · rename_i es cells ho
    split at h
    · rename_i hl
      cases h
      try simp only [ho, if_pos hl]
      exact ⟨_, rfl, rfl⟩
    · cases h
  · cases h

/-- What the heap's operations do. -/
theorem effL_same {d : Option Nat} {op : Op} (hA : Same op.operands.toList σ τ) (hh : σ.heap = τ.heap)
    (hN : (∃ t, op = .alloc t) ∨ (∃ t x, op = .box t x) → ∀ e, d = some e → (C.locs f).contains e = false)
    (hP : ∀ t x y r t' c off, op = .store t x y → evR σ x = some r → toPl r ≠ some (.loc t' c off)) (h : effL C callf f σ d op = some σ') :
    ∃ (H : List Ob) (v : V), σ' = ({ σ with heap := H } : St).put d (.val v) ∧ effL C callf f τ d op = some (({ τ with heap := H } : St).put d (.val v)) := by
  unfold effL at h ⊢
  split at h
  all_goals simp only [Same, Op.operands, Call.operands] at hA
  case h_1 t =>
    split at h
    · rename_i hz
      simp only [hz, if_true]
      unfold newVar at h ⊢
      cases d with
      | none => cases h
      | some e =>
        simp only [hN (.inl ⟨t, rfl⟩) e rfl, Bool.false_eq_true, if_false, Option.some.injEq] at h ⊢
        subst h
        exact ⟨σ.heap ++ [.mk true (strideOf (C.ty t) C.ty) (C.ty t).zero], .ptr (some (σ.heap.length, 0)), rfl, by rw [hh]; rfl⟩
    · cases h
  case h_2 t x =>
    rw [(hA x (by simp)).2] at h
    split at h
    · rename_i v h1
      split at h
      · rename_i cs h2
        unfold newVar at h ⊢
        cases d with
        | none => cases h
        | some e =>
          simp only [hN (.inr ⟨t, x, rfl⟩) e rfl, Bool.false_eq_true, if_false, Option.some.injEq, h1, h2] at h ⊢
          subst h
          exact ⟨σ.heap ++ [.mk true (strideOf (C.ty t) C.ty) cs], .ptr (some (σ.heap.length, 0)), rfl, by rw [hh]; rfl⟩
      · cases h
    · cases h
  case h_3 t x y =>
    have h0 := hP t x y
    rw [(hA x (by simp)).1, (hA y (by simp)).2] at h
    split at h
    · rename_i r v h1 h2
      split at h
      · rename_i p h3
        split at h
        · rename_i σ1 h4
          cases h
          try simp only [h1, h2, h3]
          cases p with
          | loc t' c off => exact absurd h3 (h0 r t' c off rfl (by rw [(hA x (by simp)).1, h1]))
          | hp id off =>
            simp only [storeAt] at h4 ⊢
            split at h4
            · rename_i xs hx
              split at h4
              · rename_i hc
                obtain ⟨H, rfl, h5⟩ := writeAt_same hh h4
                try simp only [hx, if_pos hc, h5]
                exact ⟨H, _, rfl, rfl⟩
              · cases h4
            · cases h4
        · cases h
      · cases h
    · cases h
  case h_4 t n parts =>
    rw [evParts_same (σ := σ) (τ := τ) fun y hy => (hA y.2 (by simp at hy ⊢; exact ⟨y.1, hy⟩)).2] at h
    split at h
    · rename_i E ps h1 h2
      split at h
      · rename_i hE
        split at h
        · rename_i cs h3
          cases h
          try simp only [h1, h2, h3, if_pos hE, St.new, hh]
          exact ⟨_, _, rfl, rfl⟩
        · cases h
      · cases h
    · cases h
  case h_5 t l c =>
    rw [(hA l (by simp)).2, (hA c (by simp)).2] at h
    split at h
    · rename_i E l' c' h1 h2 h3
      split at h
      · rename_i hE
        cases h
        try simp only [h1, h2, h3, if_pos hE, St.new, hh]
        exact ⟨_, _, rfl, rfl⟩
      · cases h
    · cases h
  case h_6 s t x =>
    rw [(hA x (by simp)).2] at h
    split at h
    · rename_i e b h1 h2 h3
      split at h
      · rename_i h4
        split at h
        · rename_i h5
          cases h
          try simp only [h1, h2, h3, h4, if_pos h5, St.new, hh]
          exact ⟨_, _, rfl, rfl⟩
        · cases h
      · cases h
    · cases h
  case h_7 args ts =>
    have ha : ∀ x ∈ args.toList, ev σ x = ev τ x := fun y hy => (hA y (by simp at hy ⊢; simp [hy])).2
    split at h
    · rename_i s x t u h1 h2
      rw [ha s (by simp [h1]), ha x (by simp [h1]), hh] at h
      split at h
      · rename_i E s' x' h3 h4 h5
        split at h
        · rename_i v H h6
          cases h
          try simp only [h1, h2, h3, h4, h5, h6]
          exact ⟨_, _, rfl, rfl⟩
        · cases h
      · cases h
    · cases h
  case h_8 args ts =>
    have ha : ∀ x ∈ args.toList, ev σ x = ev τ x := fun y hy => (hA y (by simp at hy ⊢; simp [hy])).2
    split at h
    · rename_i s x t rest h1 h2
      rw [ha s (by simp [h1]), ha x (by simp [h1])] at h
      split at h
      · rename_i E s' x' h3 h4 h5
        split at h
        · rename_i v σ1 h6
          cases h
          try simp only [h1, h2, h3, h4, h5]
          unfold copyV at h6 ⊢
          split at h6
          · cases h6
          · rename_i hz
            try simp only [hz, if_false]
            split at h6
            · split at h6
              · cases h6
              · rename_i k hk
                rw [hh] at h6
                split at h6
                · cases h6
                · rename_i xs hxs
                  try simp only [hk, hxs]
                  split at h6
                  · rename_i hk0
                    cases h6
                    try simp only [hk0, if_true]
                    exact ⟨σ.heap, _, rfl, by rw [hh]⟩
                  · rename_i hk0
                    try simp only [hk0, if_false]
                    split at h6
                    · cases h6
                    · split at h6
                      · rename_i hone
                        try simp only [hone, if_true]
                        split at h6
                        · rename_i σ2 h7
                          cases h6
                          obtain ⟨H, rfl, h8⟩ := writeAt_same hh h7
                          try simp only [h8]
                          exact ⟨H, _, rfl, rfl⟩
                        · cases h6
                      · cases h6
            · cases h6
        · cases h
      · cases h
    · cases h
  case h_9 args ts =>
    have ha : ∀ x ∈ args.toList, ev σ x = ev τ x := fun y hy => (hA y (by simp at hy ⊢; simp [hy])).2
    split at h
    · rename_i s t h1 h2
      rw [ha s (by simp [h1])] at h
      split at h
      · rename_i E h3 h4
        cases h
        try simp only [h1, h2, h3, h4]
        exact ⟨σ.heap, _, rfl, by rw [hh]⟩
      · rename_i E id off n h3 h4
        try simp only [h1, h2, h3, h4]
        split at h
        · rename_i hn
          cases h
          simp only [hn, if_true]
          exact ⟨σ.heap, _, rfl, by rw [hh]⟩
        · rename_i hn
          simp only [hn, if_false]
          split at h
          · rename_i hz
            simp only [if_pos hz]
            split at h
            · rename_i σ2 h7
              cases h
              obtain ⟨H, rfl, h8⟩ := writeAt_same hh h7
              try simp only [h8]
              exact ⟨H, _, rfl, rfl⟩
            · cases h
          · cases h
      · cases h
    · cases h
  case h_10 g args ts =>
    rw [(hA g (by simp)).2, evs_same (σ := σ) (τ := τ) fun y hy => (hA y (by simp at hy ⊢; simp [hy])).2, hh] at h
    split at h
    · rename_i g' a b xs h1 h2
      split at h
      · rename_i r H h3
        cases h
        try simp only [h1, h2, h3]
        exact ⟨_, _, rfl, rfl⟩
      · cases h
    · cases h
  case h_11 => cases h

end
end Go.Lite
end

section
namespace Go.Lite
open Go
set_option linter.unusedSimpArgs false
set_option linter.unusedVariables false

structure Foot where
  U : List Nat
  W : List Nat
  rc : Bool
  rh : Bool
  wh : Bool

def isSlc (T : LT) : Bool := match T.desc with | .slice _ => true | _ => false

def inLocs (C : Ctx) (f : Nat) (d : Option Nat) : Bool := match d with | some d => (C.locs f).contains d | none => false

/-- What an operation reads, and what it writes. -/
def footK (C : Ctx) (f : Nat) (ops : Array Oper) (h : Hint) (i : Nat) (o : Oper) : Foot :=
  match o.op with
  | .load _ _ => match h.locs.lookup i with
    | some t => ⟨t :: o.looksAt ops, o.dst.toList, false, false, false⟩
    | none => if h.old.contains i then ⟨o.looksAt ops, o.dst.toList, false, true, false⟩ else ⟨o.looksAt ops ++ C.locs f, o.dst.toList, false, true, false⟩
  | .store _ _ _ => match h.locs.lookup i with
    | some t => ⟨t :: o.looksAt ops, t :: o.dst.toList, false, false, false⟩
    | none => if h.old.contains i then ⟨o.looksAt ops, o.dst.toList, false, true, true⟩ else ⟨o.looksAt ops ++ C.locs f, o.dst.toList ++ C.locs f, false, true, true⟩
  | .alloc _ => if inLocs C f o.dst then ⟨o.looksAt ops, o.dst.toList, true, false, false⟩ else ⟨o.looksAt ops, o.dst.toList, false, true, true⟩
  | .box _ _ => if inLocs C f o.dst then ⟨o.looksAt ops, o.dst.toList, true, false, false⟩ else ⟨o.looksAt ops, o.dst.toList, false, true, true⟩
  | .slice t _ _ _ _ => ⟨o.looksAt ops, o.dst.toList, false, isSlc (C.ty t), false⟩
  | .convert s t x => if isEff C (.convert s t x) then ⟨o.looksAt ops, o.dst.toList, false, true, true⟩ else ⟨o.looksAt ops, o.dst.toList, false, isSlc (C.ty s), false⟩
  | op => if isEff C op then ⟨o.looksAt ops, o.dst.toList, false, true, true⟩ else ⟨o.looksAt ops, o.dst.toList, false, false, false⟩

theorem footK_U (C : Ctx) (f : Nat) (ops : Array Oper) (h : Hint) (i : Nat) (o : Oper) : ∀ t ∈ o.looksAt ops, t ∈ (footK C f ops h i o).U := by
  intro t ht
  unfold footK
  repeat' split
  all_goals simp [ht]

theorem footK_W (C : Ctx) (f : Nat) (ops : Array Oper) (h : Hint) (i : Nat) (o : Oper) : ∀ t ∈ (footK C f ops h i o).W, t ∈ o.dst.toList ∨ t ∈ (footK C f ops h i o).U := by
  intro t ht
  unfold footK at *
  repeat' split at ht
  all_goals simp_all
  all_goals grind

theorem footK_D (C : Ctx) (f : Nat) (ops : Array Oper) (h : Hint) (i : Nat) (o : Oper) : ∀ t ∈ o.dst.toList, t ∈ (footK C f ops h i o).W := by
  intro t ht
  unfold footK
  repeat' split
  all_goals simp_all

theorem footK_wr (C : Ctx) (f : Nat) (ops : Array Oper) (h : Hint) (i : Nat) (o : Oper) : (footK C f ops h i o).wh = true → (footK C f ops h i o).rh = true := by
  unfold footK
  repeat' split
  all_goals simp

/-- The same doing in another state. -/
structure Moves (F : Foot) (σ' τ τ' : St) : Prop where
  w : ∀ t ∈ F.W, τ'.regs t = σ'.regs t
  k : ∀ t, t ∉ F.W → τ'.regs t = τ.regs t
  cnt : τ'.cnt = if F.rc = true then σ'.cnt else τ.cnt
  heap : τ'.heap = if F.wh = true then σ'.heap else τ.heap

section
variable {C : Ctx} {callf : CallF} {f : Nat} {σ τ σ' : St} {ops : Array Oper} {h : Hint} {base i : Nat} {o : Oper}

theorem evR_of_ev {x : Operand} {v : V} (h : ev σ x = some v) : evR σ x = some (.val v) := by
  cases x with
  | tmp t =>
    simp only [ev, evR] at *
    split at h
    · rename_i u hu; cases h; rw [hu]
    · cases h
  | const c => simp only [ev, evR, Option.some.injEq] at *; rw [h]
  | func g => simp only [ev, evR, Option.some.injEq] at *; rw [h]
  | global g => cases h

theorem same_of {U : List Nat} (hU : ∀ t ∈ o.looksAt ops, t ∈ U) (hA : ∀ t ∈ U, σ.regs t = τ.regs t) : Same o.op.operands.toList σ τ := by
  intro x hx
  refine ev_same fun t ht => hA t (hU t ?_)
  subst ht
  exact List.mem_append_left _ (List.mem_filterMap.2 ⟨.tmp t, hx, rfl⟩)

theorem putr_regs (σ : St) (d : Option Nat) (x : R) (t : Nat) : (σ.put d x).regs t = if t ∈ d.toList then x else σ.regs t := by
  cases d with
  | none => simp [St.put]
  | some e => simp only [St.put, upd, Option.toList, List.mem_singleton]
theorem putr_cnt (σ : St) (d : Option Nat) (x : R) : (σ.put d x).cnt = σ.cnt := by cases d <;> rfl
theorem putr_heap (σ : St) (d : Option Nat) (x : R) : (σ.put d x).heap = σ.heap := by cases d <;> rfl

theorem lookOf_mem {op : Op} {x : Operand} (h : lookOf op = some x) : x ∈ op.operands.toList := by
  cases op <;> simp only [lookOf, reduceCtorEq, Option.some.injEq] at h <;> subst h <;> simp [Op.operands]

theorem fitsAt_same (hS : Same o.op.operands.toList σ τ) : fitsAt h base i o σ = fitsAt h base i o τ := by
  unfold fitsAt
  cases hl : lookOf o.op with
  | none => rfl
  | some x => simp only [Option.bind_some, (hS x (lookOf_mem hl)).1]

theorem fits_old {x : Operand} (hl : lookOf o.op = some x) (hn : isStore o.op = false) (hf : fitsAt h base i o σ = true) (ho : h.old.contains i = true) :
    (∀ t c off, evR σ x ≠ some (.ref t c off)) ∧ (∀ id off, evR σ x = some (.val (.ptr (some (id, off)))) → id < base) ∧ (∀ id off n, evR σ x = some (.val (.slc (some (id, off)) n)) → id < base) := by
  unfold fitsAt at hf
  simp only [hl, Option.bind_some, ho, if_true, Bool.and_eq_true] at hf
  refine ⟨fun t c off he => ?_, fun id off he => ?_, fun id off n he => ?_⟩ <;> rw [he] at hf <;> simp_all

theorem fits_store {x : Operand} (hl : lookOf o.op = some x) (hf : fitsAt h base i o σ = true) (ho : h.old.contains i = true) : ∀ t c off, evR σ x ≠ some (.ref t c off) := by
  unfold fitsAt at hf
  simp only [hl, Option.bind_some, ho, if_true, Bool.and_eq_true] at hf
  intro t c off he
  rw [he] at hf
  simp_all

theorem fits_loc {x : Operand} {t : Nat} (hl : lookOf o.op = some x) (hf : fitsAt h base i o σ = true) (ho : h.locs.lookup i = some t) :
    (∀ t' c off, evR σ x = some (.ref t' c off) → t' = t) ∧ (∀ p, evR σ x ≠ some (.val (.ptr p))) := by
  unfold fitsAt at hf
  simp only [hl, Option.bind_some, ho, Bool.and_eq_true] at hf
  refine ⟨fun t c off he => ?_, fun p he => ?_⟩ <;> rw [he] at hf <;> simp_all

theorem toPl_inv {r : R} {p : Pl} (h : toPl r = some p) : (∃ t c off, r = .ref t c off ∧ p = .loc t c off) ∨ (∃ id off, r = .val (.ptr (some (id, off))) ∧ p = .hp id off) := by
  unfold toPl at h
  split at h
  · cases h; exact .inl ⟨_, _, _, rfl, rfl⟩
  · cases h; exact .inr ⟨_, _, rfl, rfl⟩
  · cases h

/-- What is read does not hang on the rest. -/
theorem valL_local (hi : isEff C o.op = false) (hA : ∀ t ∈ (footK C f ops h i o).U, σ.regs t = τ.regs t)
    (hheap : (footK C f ops h i o).rh = true → σ.heap = τ.heap ∨ (h.old.contains i = true ∧ Keep base σ.heap τ.heap)) (hf : fitsAt h base i o σ = true)
    (hR : ∀ x ∈ o.op.operands.toList, ∀ t c off, evR σ x = some (.ref t c off) → t ∈ C.locs f) : valL C σ o.op = valL C τ o.op := by
  have hS := same_of (footK_U C f ops h i o) hA
  refine valL_same hS ?_ ?_ ?_
  · intro t x r p hop hr hp
    have hl : lookOf o.op = some x := by rw [hop]; rfl
    have hx := hR x (lookOf_mem hl)
    have hns : isStore o.op = false := by rw [hop]; rfl
    unfold footK at hA hheap
    simp only [hop] at hA hheap
    rcases toPl_inv hp with ⟨t', c, off, rfl, rfl⟩ | ⟨id, off, rfl, rfl⟩
    · have : σ.regs t' = τ.regs t' := by
        cases hlk : h.locs.lookup i with
        | some t =>
          simp only [hlk] at hA
          rw [(fits_loc hl hf hlk).1 _ _ _ hr]
          exact hA t (by simp)
        | none =>
          simp only [hlk] at hA
          by_cases ho : h.old.contains i = true
          · exact absurd hr ((fits_old hl hns hf ho).1 _ _ _)
          · simp only [if_neg ho] at hA
            exact hA t' (by simp [hx _ _ _ hr])
      simp only [cellsAt, this]
    · have : σ.heap[id]? = τ.heap[id]? := by
        cases hlk : h.locs.lookup i with
        | some t => exact absurd hr ((fits_loc hl hf hlk).2 _)
        | none =>
          simp only [hlk] at hheap
          by_cases ho : h.old.contains i = true
          · simp only [if_pos ho] at hheap
            rcases hheap (by trivial) with h1 | h1
            · rw [h1]
            · exact (h1.2 id ((fits_old hl hns hf ho).2.1 _ _ hr)).symm
          · simp only [if_neg ho] at hheap
            rcases hheap (by trivial) with h1 | h1
            · rw [h1]
            · exact absurd h1.1 ho
      simp only [cellsAt, this]
  · intro t x lo hi mx e id off n hop hd hx
    have hl : lookOf o.op = some x := by rw [hop]; rfl
    have hns : isStore o.op = false := by rw [hop]; rfl
    unfold footK at hheap
    simp only [hop, isSlc, hd] at hheap
    rcases hheap (by trivial) with h1 | h1
    · rw [h1]
    · exact (h1.2 id ((fits_old hl hns hf h1.1).2.2 _ _ _ (evR_of_ev hx))).symm
  · intro s d x e id off n hop hd hx
    have hl : lookOf o.op = some x := by rw [hop]; rfl
    have hns : isStore o.op = false := by rw [hop]; rfl
    rw [hop] at hi
    unfold footK at hheap
    simp only [hop, hi, isSlc, hd, Bool.false_eq_true, if_false] at hheap
    rcases hheap (by trivial) with h1 | h1
    · rw [h1]
    · exact (h1.2 id ((fits_old hl hns hf h1.1).2.2 _ _ _ (evR_of_ev hx))).symm

theorem footK_noeff (hi : isEff C o.op = false) : (footK C f ops h i o).W = o.dst.toList ∧ (footK C f ops h i o).rc = false ∧ (footK C f ops h i o).wh = false := by
  unfold footK
  repeat' split
  all_goals simp_all [isEff]

theorem Moves.put_put {F : Foot} {d : Option Nat} {r : R} (h1 : F.W = d.toList) (h2 : F.rc = false) (h3 : F.wh = false) : Moves F (σ.put d r) τ (τ.put d r) := by
  refine ⟨fun t ht => ?_, fun t ht => ?_, ?_, ?_⟩
  · rw [putr_regs, putr_regs]; rw [h1] at ht; simp only [ht, if_true]
  · rw [putr_regs]; rw [h1] at ht; simp only [ht, if_false]
  · rw [putr_cnt, h2]; rfl
  · rw [putr_heap, h3]; rfl

theorem Moves.put_heap {F : Foot} {d : Option Nat} {r : R} {H : List Ob} (h1 : F.W = d.toList) (h2 : F.rc = false) (h3 : F.wh = true) : Moves F (({ σ with heap := H } : St).put d r) τ (({ τ with heap := H } : St).put d r) := by
  refine ⟨fun t ht => ?_, fun t ht => ?_, ?_, ?_⟩
  · rw [putr_regs, putr_regs]; rw [h1] at ht; simp only [ht, if_true]
  · rw [putr_regs]; rw [h1] at ht; simp only [ht, if_false]
  · rw [putr_cnt, h2]; rfl
  · rw [putr_heap, putr_heap, h3]; rfl

theorem effL_heap_local (hF : (footK C f ops h i o) = ⟨o.looksAt ops, o.dst.toList, false, true, true⟩) (hi : isEff C o.op = true) (hA : ∀ t ∈ (footK C f ops h i o).U, σ.regs t = τ.regs t) (hh : σ.heap = τ.heap)
    (hN : (∃ t, o.op = .alloc t) ∨ (∃ t x, o.op = .box t x) → ∀ e, o.dst = some e → (C.locs f).contains e = false)
    (hP : ∀ t x y r t' c off, o.op = .store t x y → evR σ x = some r → toPl r ≠ some (.loc t' c off))
    (hstep : opL C callf f o σ = some σ') : ∃ τ', opL C callf f o τ = some τ' ∧ Moves (footK C f ops h i o) σ' τ τ' := by
  unfold opL at *
  simp only [hi, if_true] at *
  obtain ⟨H, v, rfl, h2⟩ := effL_same (same_of (footK_U C f ops h i o) hA) hh hN hP hstep
  refine ⟨_, h2, ?_⟩
  rw [hF]
  exact Moves.put_heap rfl rfl rfl

theorem writeLoc {t c off : Nat} {xs : List V} (hr : σ.regs t = τ.regs t) (h : writeAt σ (.loc t c off) xs = some σ') :
    ∃ b, σ' = { σ with regs := upd σ.regs t b } ∧ writeAt τ (.loc t c off) xs = some { τ with regs := upd τ.regs t b } := by
  simp only [writeAt, ← hr] at *
  split at h
  · rename_i c' cells hb
    split at h
    · rename_i hc
      cases h
      try simp only [hb, if_pos hc]
      exact ⟨_, rfl, rfl⟩
    · cases h
  · cases h

theorem opL_local (hA : ∀ t ∈ (footK C f ops h i o).U, σ.regs t = τ.regs t) (hcnt : (footK C f ops h i o).rc = true → σ.cnt = τ.cnt)
    (hheap : (footK C f ops h i o).rh = true → σ.heap = τ.heap ∨ (h.old.contains i = true ∧ (footK C f ops h i o).wh = false ∧ Keep base σ.heap τ.heap)) (hf : fitsAt h base i o σ = true)
    (hR : ∀ x ∈ o.op.operands.toList, ∀ t c off, evR σ x = some (.ref t c off) → t ∈ C.locs f)
    (hstep : opL C callf f o σ = some σ') : ∃ τ', opL C callf f o τ = some τ' ∧ Moves (footK C f ops h i o) σ' τ τ' := by
  cases hi : isEff C o.op with
  | false =>
    obtain ⟨h1, h2, h3⟩ := footK_noeff (f := f) (ops := ops) (h := h) (i := i) hi
    have := valL_local hi hA (fun hh => (hheap hh).imp id fun k => ⟨k.1, k.2.2⟩) hf hR
    unfold opL at *
    simp only [hi, Bool.false_eq_true, if_false, this] at *
    split at hstep
    · rename_i r hr
      cases hstep
      exact ⟨_, by try simp only [hr], Moves.put_put h1 h2 h3⟩
    · cases hstep
  | true =>
    have hS := same_of (footK_U C f ops h i o) hA
    have hwh : (footK C f ops h i o).wh = true → σ.heap = τ.heap := fun hw => (hheap (footK_wr C f ops h i o hw)).elim id fun k => by rw [hw] at k; exact absurd k.2.1 (by decide)
    have gen : (footK C f ops h i o) = ⟨o.looksAt ops, o.dst.toList, false, true, true⟩ → ((∃ t, o.op = .alloc t) ∨ (∃ t x, o.op = .box t x) → ∀ e, o.dst = some e → (C.locs f).contains e = false) →
        (∀ t x y r t' c off, o.op = .store t x y → evR σ x = some r → toPl r ≠ some (.loc t' c off)) → ∃ τ', opL C callf f o τ = some τ' ∧ Moves (footK C f ops h i o) σ' τ τ' :=
      fun hF hN hP => effL_heap_local hF hi hA (hwh (by rw [hF])) hN hP hstep
    generalize hop : o.op = op at hi
    cases op
    case alloc t =>
      cases hin : inLocs C f o.dst with
      | false =>
        refine gen (by unfold footK; simp only [hop, hin]; rfl) (fun _ e he => ?_) (fun t x y r t' c off h => by simp [hop] at h)
        simpa [inLocs, he] using hin
      | true =>
        have hF : footK C f ops h i o = ⟨o.looksAt ops, o.dst.toList, true, false, false⟩ := by unfold footK; simp only [hop, hin, if_true]
        have hc := hcnt (by rw [hF])
        unfold opL at *
        simp only [hop, isEff, if_true, effL] at *
        split at hstep
        · rename_i hz
          simp only [if_pos hz]
          unfold newVar at *
          cases hd : o.dst with
          | none => rw [hd] at hstep; cases hstep
          | some d =>
            simp only [hd, inLocs] at hin hstep ⊢
            simp only [hin, if_true, Option.some.injEq] at hstep ⊢
            subst hstep
            refine ⟨_, rfl, ?_⟩
            rw [hF]
            refine ⟨fun t ht => ?_, fun t ht => ?_, by simp [hc], rfl⟩ <;> simp only [hd, Option.toList, List.mem_singleton] at ht <;> simp only [upd, ht, if_true, if_false, hc]
        · cases hstep
    case box t x =>
      cases hin : inLocs C f o.dst with
      | false =>
        refine gen (by unfold footK; simp only [hop, hin]; rfl) (fun _ e he => ?_) (fun t x y r t' c off h => by simp [hop] at h)
        simpa [inLocs, he] using hin
      | true =>
        have hF : footK C f ops h i o = ⟨o.looksAt ops, o.dst.toList, true, false, false⟩ := by unfold footK; simp only [hop, hin, if_true]
        have hc := hcnt (by rw [hF])
        have hx := (hS x (by simp [hop, Op.operands])).2
        unfold opL at *
        simp only [hop, isEff, if_true, effL, hx] at *
        split at hstep
        · rename_i v hv
          try simp only [hv]
          split at hstep
          · rename_i cs hcs
            try simp only [hcs]
            unfold newVar at *
            cases hd : o.dst with
            | none => rw [hd] at hstep; cases hstep
            | some d =>
              simp only [hd, inLocs] at hin hstep ⊢
              simp only [hin, if_true, Option.some.injEq] at hstep ⊢
              subst hstep
              refine ⟨_, rfl, ?_⟩
              rw [hF]
              refine ⟨fun t ht => ?_, fun t ht => ?_, by simp [hc], rfl⟩ <;> simp only [hd, Option.toList, List.mem_singleton] at ht <;> simp only [upd, ht, if_true, if_false, hc]
          · cases hstep
        · cases hstep
    case store t x y =>
      have hl : lookOf o.op = some x := by rw [hop]; rfl
      have hx := hS x (by simp [hop, Op.operands])
      have hy := hS y (by simp [hop, Op.operands])
      have nol : (∃ t, o.op = .alloc t) ∨ (∃ t x, o.op = .box t x) → ∀ e, o.dst = some e → (C.locs f).contains e = false := by rintro (⟨t, ht⟩ | ⟨t, x, ht⟩) <;> simp [hop] at ht
      cases hlk : h.locs.lookup i with
      | some t' =>
        have hF : footK C f ops h i o = ⟨t' :: o.looksAt ops, t' :: o.dst.toList, false, false, false⟩ := by unfold footK; simp only [hop, hlk]
        have hAt : σ.regs t' = τ.regs t' := hA t' (by rw [hF]; simp)
        have fl := fits_loc hl hf hlk
        unfold opL at *
        simp only [hop, isEff, if_true, effL, ← hx.1, ← hy.2] at *
        split at hstep
        · rename_i r v h1 h2
          try simp only [h1, h2]
          split at hstep
          · rename_i p hp
            try simp only [hp]
            split at hstep
            · rename_i σ1 h4
              cases hstep
              rcases toPl_inv hp with ⟨t'', c, off, rfl, rfl⟩ | ⟨id, off, rfl, rfl⟩
              · have ht := fl.1 _ _ _ h1
                subst ht
                simp only [storeAt] at h4 ⊢
                split at h4
                · rename_i xs hxs
                  split at h4
                  · rename_i hc
                    obtain ⟨b, rfl, h6⟩ := writeLoc hAt h4
                    simp only [h6, if_pos hc]
                    refine ⟨_, rfl, ?_⟩
                    rw [hF]
                    refine ⟨fun t ht => ?_, fun t ht => ?_, ?_, ?_⟩
                    · rw [putr_regs, putr_regs]
                      simp only [List.mem_cons] at ht
                      by_cases hd : t ∈ o.dst.toList
                      · simp only [hd, if_true]
                      · simp only [hd, or_false] at ht; simp only [hd, if_false, upd, ht, if_true]
                    · rw [putr_regs]
                      simp only [List.mem_cons, not_or] at ht
                      simp only [ht.2, if_false, upd, ht.1]
                    · rw [putr_cnt]; rfl
                    · rw [putr_heap]; rfl
                  · cases h4
                · cases h4
              · exact absurd h1 (fl.2 _)
            · cases hstep
          · cases hstep
        · cases hstep
      | none =>
        by_cases ho : h.old.contains i = true
        · refine gen (by unfold footK; simp only [hop, hlk, if_pos ho]) nol (fun t x' y r t' c off hop' hr hp => ?_)
          rw [hop] at hop'
          cases hop'
          rcases toPl_inv hp with ⟨t'', c', off', rfl, _⟩ | ⟨id, off', _, hh⟩
          · exact fits_store hl hf ho _ _ _ hr
          · cases hh
        · have hF : footK C f ops h i o = ⟨o.looksAt ops ++ C.locs f, o.dst.toList ++ C.locs f, false, true, true⟩ := by unfold footK; simp only [hop, hlk, if_neg ho]
          have hh := hwh (by rw [hF])
          unfold opL at *
          simp only [hop, isEff, if_true, effL, ← hx.1, ← hy.2] at *
          split at hstep
          · rename_i r v h1 h2
            try simp only [h1, h2]
            split at hstep
            · rename_i p hp
              try simp only [hp]
              split at hstep
              · rename_i σ1 h4
                cases hstep
                simp only [storeAt] at h4 ⊢
                split at h4
                · rename_i xs hxs
                  try simp only [hxs]
                  split at h4
                  · rename_i hc
                    simp only [if_pos hc]
                    have base : ∀ t, t ∈ o.dst.toList ++ C.locs f → t ∉ o.dst.toList → σ.regs t = τ.regs t := fun t ht hd => by
                      refine hA t ?_
                      rw [hF]
                      simp only [List.mem_append, hd, false_or] at ht ⊢
                      exact .inr ht
                    rcases toPl_inv hp with ⟨t'', c, off, rfl, rfl⟩ | ⟨id, off, rfl, rfl⟩
                    · have htL : t'' ∈ C.locs f := hR x (by simp [Op.operands]) _ _ _ h1
                      have hAt : σ.regs t'' = τ.regs t'' := hA t'' (by rw [hF]; simp [htL])
                      obtain ⟨b, rfl, h6⟩ := writeLoc hAt h4
                      simp only [h6]
                      refine ⟨_, rfl, ?_⟩
                      rw [hF]
                      refine ⟨fun t ht => ?_, fun t ht => ?_, ?_, ?_⟩
                      · rw [putr_regs, putr_regs]
                        by_cases hd : t ∈ o.dst.toList
                        · simp only [hd, if_true]
                        · simp only [hd, if_false, upd, base t ht hd]
                      · rw [putr_regs]
                        simp only [List.mem_append, not_or] at ht
                        have : t ≠ t'' := fun e => ht.2 (e ▸ htL)
                        simp only [ht.1, if_false, upd, this]
                      · rw [putr_cnt]; rfl
                      · rw [putr_heap, putr_heap]; exact hh.symm
                    · obtain ⟨H, rfl, h6⟩ := writeAt_same hh h4
                      simp only [h6]
                      refine ⟨_, rfl, ?_⟩
                      rw [hF]
                      refine ⟨fun t ht => ?_, fun t ht => ?_, ?_, ?_⟩
                      · rw [putr_regs, putr_regs]
                        by_cases hd : t ∈ o.dst.toList
                        · simp only [hd, if_true]
                        · simp only [hd, if_false, base t ht hd]
                      · rw [putr_regs]
                        simp only [List.mem_append, not_or] at ht
                        simp only [ht.1, if_false]
                      · rw [putr_cnt]; rfl
                      · rw [putr_heap, putr_heap]; rfl
                  · cases h4
                · cases h4
              · cases hstep
            · cases hstep
          · cases hstep
    all_goals first
      | (exfalso; simp [isEff] at hi; done)
      | exact gen (by unfold footK; simp only [hop, hi, if_true]) (by rintro (⟨t, ht⟩ | ⟨t, x, ht⟩) <;> simp [hop] at ht) (fun t x y r t' c off h => by simp [hop] at h)

end
end Go.Lite
end

section
namespace Go.Lite
open Go
set_option linter.unusedSimpArgs false
set_option linter.unusedVariables false

section
variable {C : Ctx} {callf : CallF} {f : Nat} {σ τ σ' : St} {ops : Array Oper} {h : Hint} {base i : Nat} {o : Oper}

/-- Variables of the frame's own stand only in their registers. -/
def Refs (L : List Nat) (n : Nat) (σ : St) : Prop := ∀ u, u < n → (∀ c cells, σ.regs u = .box c cells → u ∈ L) ∧ (∀ t c off, σ.regs u = .ref t c off → t ∈ L)

theorem Sim.refs {L : List Nat} {μ : Mu} {β : List Nat} {a : Act} {w : World} (hs : Sim L σ μ β a w) : Refs L a.tmps.size σ := by
  intro u hu
  refine ⟨fun c cells hb => hs.loc u c cells hu hb, fun t c off hr => ?_⟩
  have := hs.reg u hu
  rw [hr] at this
  exact this.2.1

theorem Refs.evd {L : List Nat} {n : Nat} (hI : Refs L n σ) {x : Operand} (hx : OpdOk n x) {t c off : Nat} (h : evR σ x = some (.ref t c off)) : t ∈ L := by
  cases x with
  | tmp y =>
    simp only [evR] at h
    split at h
    · cases h
    · rename_i c' cells hb; cases h; exact (hI _ hx).1 _ _ hb
    · rename_i t' c' off' hb; cases h; exact (hI _ hx).2 _ _ _ hb
  | const => cases h
  | func => cases h
  | global => cases h

theorem evR_nobox {x : Operand} {c : Nat} {cells : List V} : evR σ x ≠ some (.box c cells) := by
  cases x with
  | tmp u => simp only [evR]; split <;> simp
  | const => simp [evR]
  | func => simp [evR]
  | global => simp [evR]

theorem valL_ref {op : Op} {r : R} (h : valL C σ op = some r) : (∀ c cells, r ≠ .box c cells) ∧ ∀ t c off, r = .ref t c off → ∃ x ∈ op.operands.toList, ∃ c' off', evR σ x = some (.ref t c' off') := by
  unfold valL at h
  split at h
  case h_1 x => exact ⟨fun c cells he => evR_nobox (h.trans (by rw [he])), fun t c off he => ⟨x, by simp [Op.operands], c, off, h.trans (by rw [he])⟩⟩
  case h_2 x => exact ⟨fun c cells he => evR_nobox (h.trans (by rw [he])), fun t c off he => ⟨x, by simp [Op.operands], c, off, h.trans (by rw [he])⟩⟩
  case h_5 x =>
    split at h <;> cases h
    · rename_i a b c hx
      exact ⟨fun _ _ he => (nomatch he), fun t c off he => (by cases he; exact ⟨x, by simp [Op.operands], _, _, hx⟩)⟩
    · exact ⟨fun _ _ he => (nomatch he), fun t c off he => (nomatch he)⟩
    · exact ⟨fun _ _ he => (nomatch he), fun t c off he => (nomatch he)⟩
  case h_9 t x f =>
    split at h
    · rename_i r' hr
      unfold fieldR at h
      repeat' split at h
      all_goals cases h
      · exact ⟨fun _ _ he => (nomatch he), fun t c off he => (by cases he; exact ⟨x, by simp [Op.operands], _, _, hr⟩)⟩
      · exact ⟨fun _ _ he => (nomatch he), fun t c off he => (nomatch he)⟩
    · cases h
  case h_11 t x f =>
    split at h
    · rename_i r' i' hr hi
      unfold indexR at h
      repeat' split at h
      all_goals cases h
      · exact ⟨fun _ _ he => (nomatch he), fun t c off he => (nomatch he)⟩
      · exact ⟨fun _ _ he => (nomatch he), fun t c off he => (by cases he; exact ⟨x, by simp [Op.operands], _, _, hr⟩)⟩
      · exact ⟨fun _ _ he => (nomatch he), fun t c off he => (nomatch he)⟩
    · cases h
  all_goals
    repeat' split at h
    all_goals cases h
    all_goals exact ⟨fun _ _ he => (nomatch he), fun t c off he => (nomatch he)⟩

theorem Refs.put {L : List Nat} {n : Nat} (hI : Refs L n σ) {d : Option Nat} {r : R} (hb : ∀ c cells, r ≠ .box c cells) (hr : ∀ t c off, r = .ref t c off → t ∈ L) : Refs L n (σ.put d r) := by
  intro u hu
  rw [putr_regs]
  by_cases hd : u ∈ d.toList
  · simp only [hd, if_true]
    exact ⟨fun c cells he => absurd he (hb c cells), hr⟩
  · simp only [hd, if_false]
    exact hI u hu

theorem Refs.val {L : List Nat} {n : Nat} (hI : Refs L n σ) {d : Option Nat} {v : V} : Refs L n (σ.put d (.val v)) :=
  hI.put (fun _ _ h => by cases h) (fun _ _ _ h => by cases h)

theorem Refs.updBox {L : List Nat} {n : Nat} (hI : Refs L n σ) {d c cnt : Nat} {cells : List V} {H : List Ob} (hd : d < n → d ∈ L) : Refs L n { σ with regs := upd σ.regs d (.box c cells), cnt := cnt, heap := H } := by
  intro u hu
  simp only [upd]
  by_cases he : u = d
  · simp only [he, if_true]
    exact ⟨fun _ _ _ => hd (he ▸ hu), fun t c off h => by cases h⟩
  · simp only [he, if_false]
    exact hI u hu

theorem effL_refs {n : Nat} {d : Option Nat} {op : Op} (hI : Refs (C.locs f) n σ) (hst : effL C callf f σ d op = some σ') : Refs (C.locs f) n σ' := by
  have gen : ((∃ t, op = .alloc t) ∨ (∃ t x, op = .box t x) → ∀ e, d = some e → (C.locs f).contains e = false) →
      (∀ t x y r t' c off, op = .store t x y → evR σ x = some r → toPl r ≠ some (.loc t' c off)) → Refs (C.locs f) n σ' := fun hN hP => by
    obtain ⟨H, v, rfl, _⟩ := effL_same (τ := σ) (fun _ _ => ⟨rfl, rfl⟩) rfl hN hP hst
    exact Refs.val (σ := { σ with heap := H }) (fun u hu => hI u hu)
  cases op
  case alloc t =>
    cases hin : inLocs C f d with
    | false => exact gen (fun _ e he => by simpa [inLocs, he] using hin) (fun _ _ _ _ _ _ _ h => by cases h)
    | true =>
      simp only [effL] at hst
      split at hst
      · unfold newVar at hst
        cases d with
        | none => cases hst
        | some e =>
          simp only [inLocs] at hin
          simp only [hin, if_true, Option.some.injEq] at hst
          subst hst
          exact hI.updBox fun _ => by simpa using hin
      · cases hst
  case box t x =>
    cases hin : inLocs C f d with
    | false => exact gen (fun _ e he => by simpa [inLocs, he] using hin) (fun _ _ _ _ _ _ _ h => by cases h)
    | true =>
      simp only [effL] at hst
      split at hst
      · split at hst
        · unfold newVar at hst
          cases d with
          | none => cases hst
          | some e =>
            simp only [inLocs] at hin
            simp only [hin, if_true, Option.some.injEq] at hst
            subst hst
            exact hI.updBox fun _ => by simpa using hin
        · cases hst
      · cases hst
  case store t x y =>
    simp only [effL] at hst
    split at hst
    · rename_i r v h1 h2
      split at hst
      · rename_i p hp
        split at hst
        · rename_i σ1 h4
          cases hst
          refine Refs.val ?_
          unfold storeAt at h4
          split at h4
          · split at h4
            · rcases toPl_inv hp with ⟨t', c, off, rfl, rfl⟩ | ⟨id, off, rfl, rfl⟩
              · simp only [writeAt] at h4
                split at h4
                · rename_i c' cells hb
                  split at h4
                  · cases h4
                    exact hI.updBox fun hlt => (hI _ hlt).1 _ _ hb
                  · cases h4
                · cases h4
              · simp only [writeAt] at h4
                split at h4
                · split at h4
                  · cases h4; exact fun u hu => hI u hu
                  · cases h4
                · cases h4
            · cases h4
          · cases h4
        · cases hst
      · cases hst
    · cases hst
  all_goals exact gen (by rintro (⟨t, ht⟩ | ⟨t, x, ht⟩) <;> cases ht) (fun _ _ _ _ _ _ _ h => by cases h)

theorem stepL_refs {n : Nat} (ho : OpOk n o.op) (hI : Refs (C.locs f) n σ) (hst : stepL C callf f ops o σ = some σ') : Refs (C.locs f) n σ' := by
  unfold stepL at hst
  split at hst
  · unfold opL at hst
    split at hst
    · exact effL_refs hI hst
    · split at hst
      · rename_i r hr
        cases hst
        obtain ⟨h1, h2⟩ := valL_ref hr
        refine hI.put h1 fun t c off he => ?_
        obtain ⟨x, hx, c', off', hev⟩ := h2 t c off he
        exact hI.evd (ho x (by simpa using hx)) hev
      · cases hst
  · cases hst
    exact hI.val
  · cases hst

theorem stepK_inv (hst : stepK C callf f ops h base i σ = some σ') : ∃ o, ops[i]? = some o ∧ fitsAt h base i o σ = true ∧ stepL C callf f ops o σ = some σ' ∧ (h.calm.contains i = true → Keep base σ.heap σ'.heap) := by
  unfold stepK at hst
  split at hst
  · rename_i o ho
    split at hst
    · rename_i hf
      split at hst
      · rename_i σ1 h1
        split at hst
        · rename_i hc
          cases hst
          exact ⟨o, ho, hf, h1, hc⟩
        · cases hst
      · cases hst
    · cases hst
  · cases hst

theorem stepK_intro (ho : ops[i]? = some o) (hf : fitsAt h base i o σ = true) (h1 : stepL C callf f ops o σ = some σ') (hc : h.calm.contains i = true → Keep base σ.heap σ'.heap) : stepK C callf f ops h base i σ = some σ' := by
  unfold stepK
  simp only [ho, hf, if_true, h1, if_pos hc]

theorem wantedL_same {F : Foot} (hU : ∀ t ∈ o.looksAt ops, t ∈ F.U) (hA : ∀ t ∈ F.U, σ.regs t = τ.regs t) : wantedL ops σ o.guard = wantedL ops τ o.guard := by
  unfold wantedL
  split
  · rfl
  · rename_i j want hg
    split
    · rename_i t ht
      rw [hA t (hU t (by simp [Oper.looksAt, hg, ht]))]
    · rfl

theorem stepL_local (hA : ∀ t ∈ (footK C f ops h i o).U, σ.regs t = τ.regs t) (hcnt : (footK C f ops h i o).rc = true → σ.cnt = τ.cnt)
    (hheap : (footK C f ops h i o).rh = true → σ.heap = τ.heap ∨ (h.old.contains i = true ∧ (footK C f ops h i o).wh = false ∧ Keep base σ.heap τ.heap)) (hf : fitsAt h base i o σ = true)
    (hR : ∀ x ∈ o.op.operands.toList, ∀ t c off, evR σ x = some (.ref t c off) → t ∈ C.locs f)
    (hstep : stepL C callf f ops o σ = some σ') : ∃ τ', stepL C callf f ops o τ = some τ' ∧ Moves (footK C f ops h i o) σ' τ τ' := by
  unfold stepL at *
  rw [← wantedL_same (footK_U C f ops h i o) hA]
  split at hstep
  · rename_i hw
    try simp only [hw]
    exact opL_local hA hcnt hheap hf hR hstep
  · rename_i hw
    try simp only [hw]
    cases hstep
    refine ⟨_, rfl, fun t ht => ?_, fun t ht => ?_, ?_, ?_⟩
    · rw [putr_regs, putr_regs]
      by_cases hd : t ∈ o.dst.toList
      · simp only [hd, if_true]
      · simp only [hd, if_false]
        exact (hA t ((footK_W C f ops h i o t ht).resolve_left hd)).symm
    · rw [putr_regs]
      have : t ∉ o.dst.toList := fun hd => ht (footK_D C f ops h i o t hd)
      simp only [this, if_false]
    · rw [putr_cnt, putr_cnt]
      split
      · rename_i hc; exact (hcnt hc).symm
      · rfl
    · rw [putr_heap, putr_heap]
      split
      · rename_i hc
        rcases hheap (footK_wr C f ops h i o hc) with h1 | h1
        · exact h1.symm
        · rw [hc] at h1; exact absurd h1.2.1 (by decide)
      · rfl
  · cases hstep

theorem stepK_local (ho : ops[i]? = some o) (hA : ∀ t ∈ (footK C f ops h i o).U, σ.regs t = τ.regs t) (hcnt : (footK C f ops h i o).rc = true → σ.cnt = τ.cnt)
    (hheap : (footK C f ops h i o).rh = true → σ.heap = τ.heap ∨ (h.old.contains i = true ∧ (footK C f ops h i o).wh = false ∧ Keep base σ.heap τ.heap))
    (hR : ∀ x ∈ o.op.operands.toList, ∀ t c off, evR σ x = some (.ref t c off) → t ∈ C.locs f)
    (hstep : stepK C callf f ops h base i σ = some σ') : ∃ τ', stepK C callf f ops h base i τ = some τ' ∧ Moves (footK C f ops h i o) σ' τ τ' := by
  obtain ⟨o', ho', hf, h1, hc⟩ := stepK_inv hstep
  rw [ho] at ho'
  cases ho'
  obtain ⟨τ', h2, h3⟩ := stepL_local hA hcnt hheap hf hR h1
  refine ⟨τ', stepK_intro ho ?_ h2 fun hcalm => ?_, h3⟩
  · rw [← fitsAt_same (same_of (footK_U C f ops h i o) hA)]; exact hf
  · have := h3.heap
    split at this
    · rename_i hw
      rcases hheap (footK_wr C f ops h i o hw) with h4 | h4
      · rw [this, ← h4]; exact hc hcalm
      · rw [hw] at h4; exact absurd h4.2.1 (by decide)
    · rw [this]; exact fun _ _ => rfl

/-- Two operations that do not meet: the first may be done later. -/
def apartK (h : Hint) (i j : Nat) (F G : Foot) : Bool :=
  F.W.all (fun t => !G.U.contains t && !G.W.contains t) && G.W.all (fun t => !F.U.contains t) && !(F.rc && G.rc) && !(F.wh && G.rh) &&
    (!(G.wh && F.rh) || (h.old.contains i && h.calm.contains j && !F.wh))

theorem commute {n : Nat} {j : Nat} {oi oj : Oper} {σ1 σ2 : St} (hi : ops[i]? = some oi) (hj : ops[j]? = some oj) (hoi : OpOk n oi.op) (hoj : OpOk n oj.op) (hI : Refs (C.locs f) n σ)
    (hap : apartK h i j (footK C f ops h i oi) (footK C f ops h j oj) = true) (h1 : stepK C callf f ops h base i σ = some σ1) (h2 : stepK C callf f ops h base j σ1 = some σ2) :
    ∃ τ1, stepK C callf f ops h base j σ = some τ1 ∧ stepK C callf f ops h base i τ1 = some σ2 := by
  generalize hF : footK C f ops h i oi = F at hap
  generalize hG : footK C f ops h j oj = G at hap
  simp only [apartK, Bool.and_eq_true, List.all_eq_true, Bool.not_eq_true', List.contains_eq_mem, decide_eq_false_iff_not, Bool.or_eq_true, decide_eq_true_eq, Bool.and_eq_false_imp] at hap
  obtain ⟨⟨⟨⟨a1, a2⟩, a3⟩, a4⟩, a5⟩ := hap
  have hI1 : Refs (C.locs f) n σ1 := by
    obtain ⟨o, ho, _, hs, _⟩ := stepK_inv h1
    rw [hi] at ho; cases ho
    exact stepL_refs hoi hI hs
  have rf : ∀ {ρ : St} {op : Op}, Refs (C.locs f) n ρ → OpOk n op → ∀ x ∈ op.operands.toList, ∀ t c off, evR ρ x = some (.ref t c off) → t ∈ C.locs f := fun hr ho x hx t c off he => hr.evd (ho x (by simpa using hx)) he
  have frame : ∀ {k : Nat} {ok : Oper} {ρ ρ1 : St}, ops[k]? = some ok → OpOk n ok.op → Refs (C.locs f) n ρ → stepK C callf f ops h base k ρ = some ρ1 → Moves (footK C f ops h k ok) ρ1 ρ ρ1 := fun hk hok hr hs => by
    obtain ⟨ρ', k1, k2⟩ := stepK_local hk (fun _ _ => rfl) (fun _ => rfl) (fun _ => .inl rfl) (rf hr hok) hs
    rw [hs] at k1; cases k1; exact k2
  have m1 := frame hi hoi hI h1
  have m2 := frame hj hoj hI1 h2
  rw [hF] at m1
  rw [hG] at m2
  have wrF : F.wh = true → F.rh = true := by rw [← hF]; exact footK_wr C f ops h i oi
  have wrG : G.wh = true → G.rh = true := by rw [← hG]; exact footK_wr C f ops h j oj
  obtain ⟨τ1, t1, t2⟩ := stepK_local (σ := σ1) (τ := σ) hj (fun t ht => m1.k t fun hw => by rw [hG] at ht; exact (a1 t hw).1 ht)
    (fun hc => by rw [hG] at hc; have := m1.cnt; by_cases hr : F.rc = true; · rw [a3 hr] at hc; cases hc
                  · rw [if_neg hr] at this; exact this)
    (fun hc => by rw [hG] at hc; have := m1.heap; by_cases hr : F.wh = true; · rw [a4 hr] at hc; cases hc
                  · rw [if_neg hr] at this; exact .inl this) (rf hI1 hoj) h2
  rw [hG] at t2
  have mt := frame hj hoj hI t1
  rw [hG] at mt
  have hIτ : Refs (C.locs f) n τ1 := by
    obtain ⟨o, ho, _, hs, _⟩ := stepK_inv t1
    rw [hj] at ho; cases ho
    exact stepL_refs hoj hI hs
  obtain ⟨σ2', u1, u2⟩ := stepK_local (σ := σ) (τ := τ1) hi (fun t ht => (mt.k t fun hw => by rw [hF] at ht; exact a2 t hw ht).symm)
    (fun hc => by rw [hF] at hc; have := mt.cnt; rw [if_neg (by rw [a3 hc]; decide)] at this; exact this.symm)
    (fun hc => by
      rw [hF] at hc ⊢
      by_cases hw : G.wh = true
      · rcases a5 with a5 | a5
        · rw [a5 hw] at hc; cases hc
        · obtain ⟨o, ho, _, _, hk⟩ := stepK_inv t1
          exact .inr ⟨by simpa using a5.1.1, a5.2, hk (by simpa using a5.1.2)⟩
      · have := mt.heap; rw [if_neg hw] at this; exact .inl this.symm) (rf hI hoi) h1
  rw [hF] at u2
  refine ⟨τ1, t1, ?_⟩
  rw [u1]
  congr 1
  have er : σ2'.regs = σ2.regs := by
    funext t
    by_cases hw : t ∈ F.W
    · rw [u2.w t hw, m2.k t (a1 t hw).2]
    · rw [u2.k t hw]
      by_cases hg : t ∈ G.W
      · rw [t2.w t hg]
      · rw [t2.k t hg, m2.k t hg, m1.k t hw]
  have ec : σ2'.cnt = σ2.cnt := by
    have x1 := u2.cnt; have x2 := t2.cnt; have x3 := m2.cnt; have x4 := m1.cnt
    by_cases hr : F.rc = true
    · rw [if_pos hr] at x1; rw [if_neg (by rw [a3 hr]; decide)] at x3; rw [x1, x3]
    · rw [if_neg hr] at x1 x4
      rw [x1]
      by_cases hg : G.rc = true
      · rw [if_pos hg] at x2; exact x2
      · rw [if_neg hg] at x2 x3; rw [x2, x3, x4]
  have eh : σ2'.heap = σ2.heap := by
    have x1 := u2.heap; have x2 := t2.heap; have x3 := m2.heap; have x4 := m1.heap
    by_cases hr : F.wh = true
    · have hg : ¬ G.wh = true := fun hg => by have := a4 hr; rw [wrG hg] at this; cases this
      rw [if_pos hr] at x1; rw [if_neg hg] at x3; rw [x1, x3]
    · rw [if_neg hr] at x1 x4
      rw [x1]
      by_cases hg : G.wh = true
      · rw [if_pos hg] at x2; exact x2
      · rw [if_neg hg] at x2 x3; rw [x2, x3, x4]
  cases σ2'; cases σ2; simp only at er ec eh; subst er ec eh; rfl

theorem front {n : Nat} {oi : Oper} {β : List Nat} (hi : ops[i]? = some oi) (hops : OpsOk n ops) :
    ∀ {α : List Nat} {σ σ' : St}, Refs (C.locs f) n σ → (∀ a ∈ α, ∀ oa, ops[a]? = some oa → apartK h a i (footK C f ops h a oa) (footK C f ops h i oi) = true) →
      runK C callf f ops h base (α ++ i :: β) σ = some σ' → ∃ σ1, stepK C callf f ops h base i σ = some σ1 ∧ runK C callf f ops h base (α ++ β) σ1 = some σ'
  | [], σ, σ', hI, _, hr => by
    simp only [List.nil_append, runK] at hr ⊢
    split at hr
    · rename_i σ1 h1; exact ⟨σ1, h1, hr⟩
    · cases hr
  | a :: α, σ, σ', hI, hap, hr => by
    simp only [List.cons_append, runK] at hr ⊢
    split at hr
    · rename_i σa ha
      obtain ⟨oa, hoa, _, hsa, _⟩ := stepK_inv ha
      have mem : ∀ {k : Nat} {o : Oper}, ops[k]? = some o → OpOk n o.op := fun hk => (hops _ (by simpa using Array.mem_of_getElem? hk)).1
      obtain ⟨σ1, k1, k2⟩ := front hi hops (stepL_refs (mem hoa) hI hsa) (fun b hb => hap b (List.mem_cons_of_mem _ hb)) hr
      obtain ⟨τ1, t1, t2⟩ := commute hoa hi (mem hoa) (mem hi) hI (hap a (by simp) oa hoa) ha k1
      exact ⟨τ1, t1, by rw [t2]; exact k2⟩
    · cases hr

end
end Go.Lite
end

section
namespace Go.Lite
open Go
set_option linter.unusedSimpArgs false
set_option linter.unusedVariables false

section
variable {P : Program} {C : Ctx} {callf : CallF} {f : Nat} {σ τ σ' : St} {ops : Array Oper} {h : Hint} {base i : Nat} {o : Oper} {μ : Mu} {β : List Nat} {a : Act} {w : World}

theorem stepL_sound (hty : TysOk P C.ty) (hcall : CallOk P callf) {ro : Option Nat} {Q : Exit → Act → World → Prop} {K : Act → World → Prop} (hs : Sim (C.locs f) σ μ β a w) (hop : OpsOk a.tmps.size ops) (hi : ops[i]? = some o)
    (h : stepL C callf f ops o σ = some σ') (hk : ∀ a' w', Leads (C.locs f) σ μ β a w σ' a' w' → K a' w') : wpOpIn (rf ro) 0 P ops Q i K a w := by
  unfold wpOpIn
  simp only [hi]
  have hmem : o ∈ ops.toList := by simpa using Array.mem_of_getElem? hi
  obtain ⟨ho, hd⟩ := hop o hmem
  unfold stepL at h
  split at h
  · rename_i hw
    rw [wanted_sound hs (fun o ho => (hop o ho).2) hw]
    simp only [if_true]
    exact opL_sound hty hcall hs o ho hd h ro _ _ hk
  · rename_i hw
    cases h
    rw [wanted_sound hs (fun o ho => (hop o ho).2) hw]
    simp only [Bool.false_eq_true, if_false]
    exact ⟨fun _ _ => trivial, hk _ _ (Leads.put hs hd (r := .val (.tup [])) (u := undef) tup0 trivial)⟩
  · cases h

/-- What a set that holds all that its members wait for holds with 'i'. -/
def Behind (ops : Array Oper) (a i : Nat) : Prop := ∀ S : Nat → Prop, (∀ (j : Nat) (o : Oper), ops[j]? = some o → S j → ∀ e ∈ o.after, Region.binds .any e = true → S e.on) → S i → S a

def NoEdge (ops : Array Oper) (a i : Nat) : Prop := ∀ o, ops[a]? = some o → ∀ e ∈ o.after, Region.binds .any e = true → e.on ≠ i

def ApartAt (C : Ctx) (f : Nat) (ops : Array Oper) (h : Hint) (a i : Nat) : Prop := ∀ oa oi, ops[a]? = some oa → ops[i]? = some oi → apartK h a i (footK C f ops h a oa) (footK C f ops h i oi) = true

theorem any_sound (hty : TysOk P C.ty) (hcall : CallOk P callf) {ro : Option Nat} {Q : Exit → Act → World → Prop}
    (hedge : ∀ (i : Nat) (o : Oper), ops[i]? = some o → ∀ e ∈ o.after, Region.binds .any e = true → e.on < ops.size ∧ e.on ≠ i) :
    ∀ (fuel : Nat) {rest : List Nat} {listed : Array Bool} {σ : St} {μ : Mu} {β : List Nat} {a : Act} {w : World}, rest.length = fuel → Sim (C.locs f) σ μ β a w → OpsOk a.tmps.size ops →
      rest.Pairwise (fun a i => NoEdge ops a i ∧ (Behind ops a i ∨ ApartAt C f ops h a i)) → rest.Nodup → (∀ j, j ∈ rest ↔ listed[j]? = some false) → listed.size = ops.size →
      (∀ (j : Nat) (o : Oper), ops[j]? = some o → listed[j]? = some true → ∀ e ∈ o.after, Region.binds .any e = true → listed[e.on]? = some true) →
      runK C callf f ops h base rest σ = some σ' → (∀ a' w', Leads (C.locs f) σ μ β a w σ' a' w' → Q .normal a' w') → wpAnyIn (rf ro) 0 P .any ops Q fuel listed a w := by
  have getT : ∀ {l : Array Bool} {j : Nat}, l.getD j true = false ↔ l[j]? = some false := fun {l j} => by
    rw [Array.getD_eq_getD_getElem?]; cases l[j]? with
    | none => simp
    | some b => simp
  have getF : ∀ {l : Array Bool} {j : Nat}, l.getD j false = true ↔ l[j]? = some true := fun {l j} => by
    rw [Array.getD_eq_getD_getElem?]; cases l[j]? with
    | none => simp
    | some b => simp
  intro fuel
  induction fuel with
  | zero =>
    intro rest listed σ μ β a w hl hs hop hp hn hr hz hcl hrun hq
    cases List.length_eq_zero_iff.1 hl
    simp only [runK, Option.some.injEq] at hrun
    subst hrun
    refine ⟨?_, hq a w (.refl hs)⟩
    refine List.eq_nil_iff_forall_not_mem.2 fun j hj => ?_
    have := (mem_ready.1 hj).1
    exact absurd ((hr j).2 (getT.1 this)) (by simp)
  | succ fuel ih =>
    intro rest listed σ μ β a w hl hs hop hp hn hr hz hcl hrun hq
    refine ⟨fun hempty => ?_, fun i hi => ?_⟩
    · cases rest with
      | nil => cases hl
      | cons x xs =>
        exfalso
        have hx := (hr x).1 (by simp)
        have hxs : x < ops.size := hz ▸ (Array.getElem?_eq_some_iff.1 hx).1
        have : x ∈ Region.ready .any ops listed := by
          refine mem_ready.2 ⟨getT.2 hx, ops[x], by simp [hxs], fun e he hb => getF.2 ?_⟩
          obtain ⟨h1, h2⟩ := hedge x _ (by simp [hxs]) e he hb
          cases hv : listed[e.on]? with
          | none => rw [Array.getElem?_eq_none_iff] at hv; omega
          | some b =>
            cases b with
            | true => rfl
            | false =>
              have hm := (hr e.on).2 hv
              simp only [List.mem_cons, h2, false_or] at hm
              exact absurd rfl ((List.pairwise_cons.1 hp).1 e.on hm |>.1 _ (by simp [hxs]) e he hb)
        rw [hempty] at this
        cases this
    · obtain ⟨h1, oi, hoi, hpre⟩ := mem_ready.1 hi
      have hir := (hr i).2 (getT.1 h1)
      obtain ⟨α, γ, rfl⟩ := List.append_of_mem hir
      have hni : i ∉ α ∧ i ∉ γ := by
        rw [List.nodup_append] at hn
        simp only [List.nodup_cons, List.mem_cons] at hn
        exact ⟨fun hm => hn.2.2 i hm i (.inl rfl) rfl, hn.2.1.1⟩
      obtain ⟨hpα, hpγ, hpx⟩ := List.pairwise_append.1 hp
      have hfr := front hoi hop (base := base) (h := h) (callf := callf) (C := C) (f := f) (β := γ) (α := α) hs.refs (fun x hx ox hox => by
        rcases (hpx x hx i (by simp)).2 with hb | hb
        · exfalso
          have := hb (fun j => listed[j]? = some true ∨ j = i) (fun j oj hoj hj e he hbd => by
            rcases hj with hj | rfl
            · exact .inl (hcl j oj hoj hj e he hbd)
            · rw [hoi] at hoj; cases hoj
              exact .inl (getF.1 (hpre e he hbd))) (.inr rfl)
          have hxu := (hr x).1 (List.mem_append_left _ hx)
          rcases this with h3 | rfl
          · rw [hxu] at h3; cases h3
          · exact hni.1 hx
        · exact hb ox oi hox hoi) hrun
      obtain ⟨σ1, k1, k2⟩ := hfr
      obtain ⟨o', ho', _, hst, _⟩ := stepK_inv k1
      rw [hoi] at ho'; cases ho'
      refine stepL_sound hty hcall hs hop hoi hst fun a1 w1 hl1 => ?_
      obtain ⟨μ1, β1, g1, g2, g3, g4, g5, g6⟩ := hl1
      have hne : ∀ j, j ≠ i → (listed.setIfInBounds i true)[j]? = listed[j]? := fun j hj => by rw [Array.getElem?_setIfInBounds_ne (Ne.symm hj)]
      have heq : (listed.setIfInBounds i true)[i]? = some true := by
        have hlt : i < listed.size := (Array.getElem?_eq_some_iff.1 (getT.1 h1)).1
        rw [Array.getElem?_setIfInBounds]
        simp [hlt]
      refine ih (rest := α ++ γ) ?_ g1 (by rw [g4]; exact hop) ?_ ?_ ?_ (by simp [hz]) ?_ k2 fun a' w' hl' => hq a' w' (hl'.then g2 g3 g4 g5 g6)
      · simp only [List.length_append, List.length_cons] at hl ⊢; omega
      · exact List.pairwise_append.2 ⟨hpα, (List.pairwise_cons.1 hpγ).2, fun x hx y hy => hpx x hx y (List.mem_cons_of_mem _ hy)⟩
      · rw [List.nodup_append] at hn ⊢
        simp only [List.nodup_cons, List.mem_cons] at hn
        exact ⟨hn.1, hn.2.1.2, fun x hx y hy => hn.2.2 x hx y (.inr hy)⟩
      · intro j
        by_cases hj : j = i
        · subst hj
          rw [heq]
          simp [hni.1, hni.2]
        · rw [hne j hj, ← hr j]
          simp [hj]
      · intro j oj hoj hj e he hb
        have hon : listed[e.on]? = some true := by
          by_cases hji : j = i
          · subst hji; rw [hoi] at hoj; cases hoj; exact getF.1 (hpre e he hb)
          · rw [hne j hji] at hj; exact hcl j oj hoj hj e he hb
        by_cases hei : e.on = i
        · rw [hei]; exact heq
        · rw [hne _ hei]; exact hon

/-! What is looked up in the code. -/

def edgeTo (o : Oper) (i : Nat) : Bool := o.after.any fun e => Region.binds .any e && e.on == i

def maskOf (acc : List Nat) (o : Oper) : Nat := o.after.toList.foldl (fun s e => if Region.binds .any e then s ||| 2 ^ e.on ||| acc.getD e.on 0 else s) 0

def masksOf : List Oper → List Nat → List Nat
  | [], acc => acc
  | o :: os, acc => masksOf os (acc ++ [maskOf acc o])

theorem maskOf_sound {S : Nat → Prop} {acc : List Nat} (hacc : ∀ k x, (acc.getD k 0).testBit x = true → S k → S x) {o : Oper} (ho : ∀ e ∈ o.after, Region.binds .any e = true → S e.on) {x : Nat}
    (h : (maskOf acc o).testBit x = true) : S x := by
  unfold maskOf at h
  have key : ∀ (es : List Edge) (s : Nat), (∀ e ∈ es, Region.binds .any e = true → S e.on) → (s.testBit x = true → S x) →
      ((es.foldl (fun s e => if Region.binds .any e then s ||| 2 ^ e.on ||| acc.getD e.on 0 else s) s).testBit x = true → S x) := by
    intro es
    induction es with
    | nil => intro s _ hs hx; exact hs hx
    | cons e es ih =>
      intro s he hs hx
      refine ih _ (fun e' h' => he e' (List.mem_cons_of_mem _ h')) ?_ hx
      intro hb
      dsimp only at hb
      split at hb
      · rename_i hbind
        rw [Nat.testBit_or, Nat.testBit_or, Bool.or_eq_true, Bool.or_eq_true] at hb
        rcases hb with (hb | hb) | hb
        · exact hs hb
        · rw [Nat.testBit_two_pow] at hb
          have : e.on = x := by simpa using hb
          subst this
          exact he e (by simp) hbind
        · exact hacc _ _ hb (he e (by simp) hbind)
      · exact hs hb
  exact key _ _ (fun e he => ho e (by simpa using he)) (by simp) h

theorem masksOf_sound {S : Nat → Prop} (hS : ∀ (j : Nat) (o : Oper), ops[j]? = some o → S j → ∀ e ∈ o.after, Region.binds .any e = true → S e.on) :
    ∀ (os : List Oper) (acc : List Nat), ops.toList.drop acc.length = os → (∀ k x, (acc.getD k 0).testBit x = true → S k → S x) → ∀ k x, ((masksOf os acc).getD k 0).testBit x = true → S k → S x
  | [], acc, _, hacc => hacc
  | o :: os, acc, hd, hacc => by
    have hi : ops[acc.length]? = some o := by
      have := congrArg (fun l => l[0]?) hd
      simpa using this
    refine masksOf_sound hS os _ (by have := congrArg List.tail hd; simpa using this) ?_
    intro k x hb hk
    rcases Nat.lt_trichotomy k acc.length with hlt | heq | hgt
    · refine hacc k x ?_ hk
      simpa [List.getD_eq_getElem?_getD, List.getElem?_append_left hlt] using hb
    · subst heq
      refine maskOf_sound hacc (fun e he hbd => hS _ o hi hk e he hbd) (x := x) ?_
      simpa [List.getD_eq_getElem?_getD] using hb
    · simp [List.getD_eq_getElem?_getD, List.getElem?_append_right (Nat.le_of_lt hgt)] at hb
      have : k - acc.length ≠ 0 := by omega
      cases hk' : k - acc.length with
      | zero => exact absurd hk' this
      | succ m => simp [hk'] at hb

def allPairs (p : Nat → Nat → Bool) : List Nat → Bool
  | [] => true
  | x :: xs => xs.all (p x) && allPairs p xs

theorem allPairs_spec {p : Nat → Nat → Bool} : ∀ {l : List Nat}, allPairs p l = true → l.Pairwise (fun a b => p a b = true)
  | [], _ => .nil
  | x :: xs, h => by
    simp only [allPairs, Bool.and_eq_true, List.all_eq_true] at h
    exact .cons h.1 (allPairs_spec h.2)

def pairOk (C : Ctx) (f : Nat) (ops : Array Oper) (h : Hint) (ms : List Nat) (a i : Nat) : Bool :=
  match ops[a]?, ops[i]? with
  | some oa, some oi => !edgeTo oa i && ((ms.getD i 0).testBit a || apartK h a i (footK C f ops h a oa) (footK C f ops h i oi))
  | _, _ => true

/-- May the region be read in the hint's order? -/
def drawOk (C : Ctx) (f : Nat) (ops : Array Oper) (h : Hint) : Bool :=
  h.ord.length == ops.size && h.ord.all (fun i => decide (i < ops.size)) && (List.range ops.size).all (fun i => h.ord.contains i) && allPairs (fun a b => a != b) h.ord &&
    ops.toList.zipIdx.all (fun x => x.1.after.all fun e => !Region.binds .any e || (decide (e.on < ops.size) && e.on != x.2)) && allPairs (pairOk C f ops h (masksOf ops.toList [])) h.ord

theorem drawOk_sound (hty : TysOk P C.ty) (hcall : CallOk P callf) {ro : Option Nat} {Q : Exit → Act → World → Prop} (hd : drawOk C f ops h = true) (hs : Sim (C.locs f) σ μ β a w) (hop : OpsOk a.tmps.size ops)
    (hrun : runK C callf f ops h base h.ord σ = some σ') (hq : ∀ a' w', Leads (C.locs f) σ μ β a w σ' a' w' → Q .normal a' w') : wpAnyIn (rf ro) 0 P .any ops Q ops.size (Array.replicate ops.size false) a w := by
  simp only [drawOk, Bool.and_eq_true, beq_iff_eq] at hd
  obtain ⟨⟨⟨⟨⟨d1, d0⟩, d2⟩, d3⟩, d4⟩, d5⟩ := hd
  have hnd : h.ord.Nodup := (allPairs_spec d3).imp fun hne => by simpa using hne
  have hmem : ∀ j, j ∈ h.ord ↔ j < ops.size := fun j =>
    ⟨fun hj => by simpa using List.all_eq_true.1 d0 j hj, fun hj => by simpa using List.all_eq_true.1 d2 j (List.mem_range.2 hj)⟩
  refine any_sound hty hcall ?_ ops.size d1 hs hop ?_ hnd ?_ (by simp) ?_ hrun hq
  · intro i o ho e he hb
    have hx : (o, i) ∈ ops.toList.zipIdx := by
      rw [List.mk_mem_zipIdx_iff_getElem?]
      simpa using ho
    have := List.all_eq_true.1 d4 _ hx
    have := Array.all_eq_true_iff_forall_mem.1 this e he
    simpa [hb] using this
  · refine (allPairs_spec d5).imp_of_mem fun {x y} hx hy hp => ?_
    have hxs := (hmem x).1 hx
    have hys := (hmem y).1 hy
    unfold pairOk at hp
    rw [Array.getElem?_eq_getElem hxs, Array.getElem?_eq_getElem hys] at hp
    simp only [Bool.and_eq_true, Bool.not_eq_true', Bool.or_eq_true] at hp
    refine ⟨fun o ho e he hb heq => ?_, hp.2.imp (fun hm S hS hy => ?_) fun hap oa oi hoa hoi => ?_⟩
    · rw [Array.getElem?_eq_getElem hxs] at ho
      cases ho
      have := hp.1
      unfold edgeTo at this
      rw [Array.any_eq_false'] at this
      exact absurd (this e he) (by simp [hb, heq])
    · exact masksOf_sound hS ops.toList [] rfl (by simp) y x hm hy
    · rw [Array.getElem?_eq_getElem hxs] at hoa
      rw [Array.getElem?_eq_getElem hys] at hoi
      cases hoa; cases hoi
      exact hap
  · intro j
    rw [hmem]
    rw [Array.getElem?_replicate]
    by_cases hj : j < ops.size <;> simp [hj]
  · intro j o ho hj
    simp [Array.getElem?_replicate] at hj

/-- The order of the text. -/
def plainHint (ops : Array Oper) : Hint := ⟨List.range ops.size, [], [], [], [], []⟩

theorem runK_plain : ∀ (k : Nat) (os : List Oper) (σ : St), ops.toList.drop k = os → runK C callf f ops (plainHint ops) base (List.range' k os.length) σ = runL C callf f ops os σ := by
  intro k os
  induction os generalizing k with
  | nil => intro σ _; rfl
  | cons o os ih =>
    intro σ h
    have hi : ops[k]? = some o := by
      have := congrArg (fun l => l[0]?) h
      simpa using this
    have hd : ops.toList.drop (k + 1) = os := by
      have := congrArg List.tail h
      simpa using this
    rw [List.length_cons, List.range'_succ]
    have hfit : fitsAt (plainHint ops) base k o σ = true := by simp [fitsAt, plainHint]
    have hcalm : ∀ σ1 : St, ((plainHint ops).calm.contains k = true → Keep base σ.heap σ1.heap) := fun σ1 hc => by simp [plainHint] at hc
    simp only [runK, stepK, hi, runL, hfit, if_true, if_pos (hcalm _)]
    cases stepL C callf f ops o σ with
    | none => rfl
    | some σ1 => exact ih (k + 1) σ1 hd

def hintOf (C : Ctx) (f id : Nat) (ops : Array Oper) : Hint := (C.ord f id).getD (plainHint ops)

end
end Go.Lite
end

section
namespace Go.Lite
open Go
set_option linter.unusedSimpArgs false
set_option linter.unusedVariables false

section
variable {l : List Nat} {base : Nat} {H X : List Ob}
theorem hideL_get (i : Nat) : (hideL l base H)[i]? = H[i]?.map fun o => if base ≤ i ∧ l.contains (i - base) = true then .dead else o := by
  unfold hideL; rw [List.getElem?_mapIdx]
theorem backL_get (i : Nat) : (backL l base H X)[i]? = X[i]?.map fun o => if base ≤ i ∧ l.contains (i - base) = true then H.getD i .dead else o := by
  unfold backL; rw [List.getElem?_mapIdx]
theorem hideL_len : (hideL l base H).length = H.length := by simp [hideL]
theorem backL_len : (backL l base H X).length = X.length := by simp [backL]
theorem hideL_nil : hideL [] base H = H := by
  apply List.ext_getElem?
  intro i
  rw [hideL_get]
  cases H[i]? <;> simp
theorem backL_nil : backL [] base H X = X := by
  apply List.ext_getElem?
  intro i
  rw [backL_get]
  cases X[i]? <;> simp
theorem hideL_set {k : Nat} {o : Ob} (hk : l.contains k = true) : hideL l base (H.set (base + k) o) = hideL l base H := by
  apply List.ext_getElem?
  intro i
  rw [hideL_get, hideL_get]
  by_cases e : i = base + k
  · subst e
    have hc : base ≤ base + k ∧ l.contains (base + k - base) = true := ⟨by omega, by rw [Nat.add_sub_cancel_left]; exact hk⟩
    simp only [if_pos hc]
    rw [List.getElem?_set]
    by_cases hl : base + k < H.length
    · simp [hl]
    · simp [hl]
  · rw [List.getElem?_set_ne (fun h => e h.symm)]
theorem backL_set {k : Nat} {o : Ob} (hk : l.contains k = true) (hH : base + k < H.length) : (backL l base H X).set (base + k) o = backL l base (H.set (base + k) o) X := by
  apply List.ext_getElem?
  intro i
  by_cases e : i = base + k
  · subst e
    have hc : base ≤ base + k ∧ l.contains (base + k - base) = true := ⟨by omega, by rw [Nat.add_sub_cancel_left]; exact hk⟩
    rw [backL_get, List.getElem?_set, backL_len]
    simp only [if_pos hc, if_true]
    by_cases hl : base + k < X.length
    · simp [hl, hH, List.getD_eq_getElem?_getD]
    · simp [hl]
  · rw [List.getElem?_set_ne (fun h => e h.symm), backL_get, backL_get]
    simp only [List.getD_eq_getElem?_getD, List.getElem?_set_ne (fun h => e (Eq.symm h))]
theorem backL_keep (h : Keep base (hideL l base H) X) : Keep base H (backL l base H X) := fun i hi => by
  rw [backL_get, h i hi, hideL_get]
  cases H[i]? with
  | none => rfl
  | some o => rw [Option.map_some, Option.map_some, if_neg (fun hc => absurd hc.1 (by omega)), if_neg (fun hc => absurd hc.1 (by omega))]
theorem set_keep {k : Nat} {o : Ob} : Keep base H (H.set (base + k) o) := fun i hi => List.getElem?_set_ne (by omega)
theorem keep_sym (h : Keep base H X) : Keep base X H := fun i hi => (h i hi).symm
end

section
variable {P : Program} {L : List Nat} {C : Ctx} {callf : CallF} {f : Nat} {σ σ' τ : St} {ops : Array Oper} {h : Hint} {base i : Nat} {o : Oper} {μ : Mu} {β : List Nat} {a a' : Act} {w w' : World}

theorem HSim.less {H H' : List Ob} (h : HSim H μ w) (hl : H'.length = H.length) (key : ∀ (i : Nat) (o : Ob), H'[i]? = some o → o = .dead ∨ H[i]? = some o) : HSim H' μ w := by
  refine ⟨fun i m' h1 => by rw [hl]; exact h.dom i m' h1, fun i o h1 h2 => ?_, fun i o m h1 h2 => ?_, fun i i' o o' m m' hne h1 h2 h3 h4 h5 h6 => ?_, fun i es cells m h1 h2 h3 => ?_⟩
  · rcases key i o h1 with rfl | h3
    · cases h2
    · exact h.map i o h3 h2
  · rcases key i o h1 with rfl | h3
    · trivial
    · exact h.obj i o m h3 h2
  · rcases key i o h1 with rfl | g1
    · cases h5
    · rcases key i' o' h2 with rfl | g2
      · cases h6
      · exact h.sep i i' o o' m m' hne g1 g2 h3 h4 h5 h6
  · rcases key i _ h1 with e | g1
    · cases e
    · exact h.plain _ _ _ _ g1 h2 h3

theorem hide_key {l : List Nat} {H : List Ob} : ∀ (i : Nat) (o : Ob), (hideL l base H)[i]? = some o → o = .dead ∨ (H[i]? = some o ∧ ¬ (base ≤ i ∧ l.contains (i - base) = true)) := by
  intro i o hi
  rw [hideL_get] at hi
  obtain ⟨o', h1, h2⟩ := Option.map_eq_some_iff.1 hi
  split at h2
  · exact .inl h2.symm
  · rename_i hn; subst h2; exact .inr ⟨h1, hn⟩

theorem back_key {l : List Nat} {H X : List Ob} : ∀ (i : Nat) (o : Ob), (backL l base H X)[i]? = some o → live o = true → (H[i]? = some o ∧ (base ≤ i ∧ l.contains (i - base) = true)) ∨ (X[i]? = some o ∧ ¬ (base ≤ i ∧ l.contains (i - base) = true)) := by
  intro i o hi hlv
  rw [backL_get] at hi
  obtain ⟨o', h1, h2⟩ := Option.map_eq_some_iff.1 hi
  split at h2
  · rename_i hc
    refine .inl ⟨?_, hc⟩
    rw [List.getD_eq_getElem?_getD] at h2
    cases hH : H[i]? with
    | none => rw [hH] at h2; subst h2; cases hlv
    | some x => rw [hH] at h2; simp at h2; rw [h2]
  · rename_i hn; subst h2; exact .inr ⟨h1, hn⟩

theorem live_of_owned {o : Ob} (h : owned o = true) : live o = true := by
  cases o with
  | dead => cases h
  | mk own es cells => rfl

theorem Sim.hide {l : List Nat} (hs : Sim L σ μ β a w) : Sim L { σ with heap := hideL l base σ.heap } μ β a w :=
  ⟨hs.heap.less hideL_len fun i o h1 => (hide_key i o h1).imp id (·.1), hs.lenβ, hs.reg, hs.box, fun id o m b h1 h2 h3 h4 => by
    rcases hide_key id o h1 with rfl | h5
    · cases h3
    · exact hs.sepβ id o m b h5.1 h2 h3 h4, hs.injβ, hs.ltβ, hs.uniq, hs.loc, hs.defs⟩

/-- What was hidden comes back. -/
theorem Leads.back {l : List Nat} (hs : Sim L σ μ β a w) (h : Leads L { σ with heap := hideL l base σ.heap } μ β a w σ' a' w') : Leads L σ μ β a w { σ' with heap := backL l base σ.heap σ'.heap } a' w' := by
  obtain ⟨μ', β', k1, k2, k3, k4, k5, k6⟩ := h
  have hlen : σ.heap.length ≤ σ'.heap.length := by have := k6.2.1; simpa only [hideL_len] using this
  -- a hidden object's block
  have blk : ∀ (id : Nat) (o : Ob) (m : Mp), σ.heap[id]? = some o → live o = true → (base ≤ id ∧ l.contains (id - base) = true) → μ id = some m → ¬ OwnB (hideL l base σ.heap) μ β m.blk := by
    rintro id o m h1 h2 h3 h4 (⟨i2, o2, m2, g1, g2, g3, g4⟩ | hb)
    · rcases hide_key i2 o2 g1 with rfl | ⟨g5, g6⟩
      · cases g2
      · exact hs.heap.sep i2 id o2 o m2 m (fun e => g6 (by rw [e]; exact h3)) g5 h1 g3 h4 g2 h2 g4
    · exact hs.sepβ id o m m.blk h1 h4 h2 hb rfl
  have same : ∀ (id : Nat) (o : Ob) (m : Mp), σ.heap[id]? = some o → live o = true → (base ≤ id ∧ l.contains (id - base) = true) → μ id = some m → SameBlk w w' m.blk := fun id o m h1 h2 h3 h4 =>
    .of_heap (k5.same _ (live_lt hs.heap id o m h1 h4 h2) (blk id o m h1 h2 h3 h4))
  -- a block that lives on, or is new, is not a hidden one's
  have apart : ∀ (id : Nat) (o : Ob) (m : Mp), σ.heap[id]? = some o → live o = true → (base ≤ id ∧ l.contains (id - base) = true) → μ id = some m → ∀ b, (OwnB (hideL l base σ.heap) μ β b ∨ w.heap.size ≤ b) → b ≠ m.blk := by
    rintro id o m h1 h2 h3 h4 b (hb | hb) rfl
    · exact blk id o m h1 h2 h3 h4 hb
    · have := live_lt hs.heap id o m h1 h4 h2; omega
  have old : ∀ (id : Nat) (o : Ob) (m : Mp), σ.heap[id]? = some o → live o = true → μ' id = some m → μ id = some m := fun id o m h1 h2 h3 => by
    obtain ⟨m0, h4⟩ := hs.heap.map id o h1 h2
    have := k2 id m0 h4
    rw [h3] at this; cases this; exact h4
  have hh : HSim (backL l base σ.heap σ'.heap) μ' w' := by
    refine ⟨fun i m' h1 => by rw [backL_len]; exact k1.heap.dom i m' h1, fun i o h1 h2 => ?_, fun i o m h1 h2 => ?_, fun i i' o o' m m' hne h1 h2 h3 h4 h5 h6 => ?_, fun i es cells m h1 h2 h3 => ?_⟩
    · rcases back_key i o h1 h2 with ⟨g1, _⟩ | ⟨g1, _⟩
      · obtain ⟨m, hm⟩ := hs.heap.map i o g1 h2
        exact ⟨m, k2 _ _ hm⟩
      · exact k1.heap.map i o g1 h2
    · cases o with
      | dead => trivial
      | mk own es cells =>
        rcases back_key i _ h1 rfl with ⟨g1, g2⟩ | ⟨g1, _⟩
        · have hm := old i _ m g1 rfl h2
          exact (ObjOk.le k2 (hs.heap.obj i _ m g1 hm)).same (same i _ m g1 rfl g2 hm) k5.size
        · exact k1.heap.obj i _ m g1 h2
    · have hl5 := live_of_owned h5
      rcases back_key i o h1 hl5 with ⟨g1, g2⟩ | ⟨g1, g2⟩ <;> rcases back_key i' o' h2 h6 with ⟨g3, g4⟩ | ⟨g3, g4⟩
      · exact hs.heap.sep i i' o o' m m' hne g1 g3 (old i o m g1 hl5 h3) (old i' o' m' g3 h6 h4) h5 h6
      · have hm := old i o m g1 hl5 h3
        rcases k6.1 m'.blk ⟨i', o', m', g3, h6, h4, rfl⟩ with ⟨i2, o2, m2, q1, q2, q3, q4⟩ | hn
        · rcases hide_key i2 o2 q1 with rfl | ⟨q5, q6⟩
          · cases q2
          · rw [← q4]
            exact hs.heap.sep i i2 o o2 m m2 (fun e => q6 (by rw [← e]; exact g2)) g1 q5 hm q3 h5 q2
        · have := live_lt hs.heap i o m g1 hm hl5; omega
      · have hm := old i' o' m' g3 h6 h4
        exact apart i' o' m' g3 h6 g4 hm m.blk (k5.own _ (.inl ⟨i, o, m, g1, h5, h3, rfl⟩))
      · exact k1.heap.sep i i' o o' m m' hne g1 g3 h3 h4 h5 h6
    · rcases back_key i _ h1 rfl with ⟨g1, g2⟩ | ⟨g1, _⟩
      · have hm := old i _ m g1 rfl h2
        exact (hs.heap.plain _ _ _ _ g1 hm h3).same (same i _ m g1 rfl g2 hm)
      · exact k1.heap.plain _ _ _ _ g1 h2 h3
  refine ⟨μ', β', ⟨hh, k1.lenβ, k1.reg, k1.box, fun id o m b h1 h2 h3 h4 => ?_, k1.injβ, k1.ltβ, k1.uniq, k1.loc, k1.defs⟩, k2, k3, k4, ⟨k5.size, fun b h1 h2 => k5.same b h1 (fun h3 => h2 ?_), fun b hb => ?_, k5.os, k5.tape, k5.output, k5.drawn⟩, fun b hb => ?_, ?_, fun id m hm => ?_⟩
  · rcases back_key id o h1 h3 with ⟨g1, g2⟩ | ⟨g1, _⟩
    · exact fun e => apart id o m g1 h3 g2 (old id o m g1 h3 h2) b (k5.own _ (.inr h4)) e.symm
    · exact k1.sepβ id o m b g1 h2 h3 h4
  · rcases h3 with ⟨i2, o2, m2, q1, q2, q3, q4⟩ | h3
    · rcases hide_key i2 o2 q1 with rfl | ⟨q5, _⟩
      · cases q2
      · exact .inl ⟨i2, o2, m2, q5, q2, q3, q4⟩
    · exact .inr h3
  · have up : OwnB (hideL l base σ.heap) μ β b → OwnB σ.heap μ β b := by
      rintro (⟨i2, o2, m2, q1, q2, q3, q4⟩ | h3)
      · rcases hide_key i2 o2 q1 with rfl | ⟨q5, _⟩
        · cases q2
        · exact .inl ⟨i2, o2, m2, q5, q2, q3, q4⟩
      · exact .inr h3
    rcases hb with ⟨i2, o2, m2, q1, q2, q3, q4⟩ | h3
    · rcases back_key i2 o2 q1 (live_of_owned q2) with ⟨g1, g2⟩ | ⟨g1, _⟩
      · exact .inl (.inl ⟨i2, o2, m2, g1, q2, old i2 o2 m2 g1 (live_of_owned q2) q3, q4⟩)
      · exact (k5.own b (.inl ⟨i2, o2, m2, g1, q2, q3, q4⟩)).imp up id
    · exact (k5.own b (.inr h3)).imp up id
  · obtain ⟨i2, o2, m2, q1, q2, q3, q4⟩ := hb
    rcases back_key i2 o2 q1 q2 with ⟨g1, g2⟩ | ⟨g1, _⟩
    · exact .inl ⟨i2, o2, m2, g1, q2, old i2 o2 m2 g1 q2 q3, q4⟩
    · rcases k6.1 b ⟨i2, o2, m2, g1, q2, q3, q4⟩ with ⟨i3, o3, m3, p1, p2, p3, p4⟩ | hn
      · rcases hide_key i3 o3 p1 with rfl | ⟨p5, _⟩
        · cases p2
        · exact .inl ⟨i3, o3, m3, p5, p2, p3, p4⟩
      · exact .inr hn
  · rw [backL_len]; exact hlen
  · rcases k6.2.2 id m hm with h1 | h1
    · exact .inl h1
    · exact .inr (by simpa only [hideL_len] using h1)

/-- An operation that makes a new object, in a place kept for it. -/
theorem newOb_goes (hty : TysOk P C.ty) (hs : Sim (C.locs f) σ μ β a w) (o : Oper) (ho : OpOk a.tmps.size o.op) (hd : ∀ x, o.dst = some x → x < a.tmps.size) {ob : Ob} {mk : Nat → V}
    (h : newOb C σ o.op = some (ob, mk)) {id : Nat} (hid : μ id = none) (hlt : id < σ.heap.length) :
    OpGoesB (fun j => j = id) P (C.locs f) o σ μ β a w (({ σ with heap := σ.heap.set id ob } : St).put o.dst (.val (mk id))) := by
  generalize hop : o.op = op at h ho
  unfold newOb at h
  split at h
  · rename_i t
    split at h
    · rename_i hz
      cases h
      obtain ⟨z, h1, h2⟩ := zero_VL (w := w) (μ := μ) (hty.of_size (t := t) (by omega))
      have hl := h2.length
      simp only [Array.length_toList] at hl
      have hgo := HGoesB.fill (es := strideOf (C.ty t) C.ty) (w' := w.alloc (.cells z.cells t)) (fz := (0, 0)) hs.heap hid hlt (cells := (C.ty t).zero) (us := z.cells) (ty := t) (by rw [List.take_of_length_le (by simp; omega)]; exact h2) (by omega) rfl (.inr (Nat.le_refl _)) rfl rfl rfl
      refine OpGoes.value (u := .pointer (some ⟨w.heap.size, 0, none⟩)) (w' := w.alloc (.cells z.cells t)) ?_ (Leads.heap_put hs hgo hd (v := .ptr (some (id, 0))) (VR.ptr _ _ ⟨w.heap.size, 0, (C.ty t).zero.length, strideOf (C.ty t) C.ty, z.cells.size, true⟩ (Mu.add_self _ _ _)))
      unfold execOp
      rw [hop]
      simp [Instr.alloc, h1, Go.newVar, newRow]
    · cases h
  · rename_i t x
    split at h
    · rename_i v h1
      split at h
      · rename_i cs h2
        cases h
        have hc := cellsOf_sound h2 (ev_sound hs (ho x (by simp [Op.operands])) h1)
        have hl := hc.length
        simp only [Array.length_toList] at hl
        have hgo := HGoesB.fill (es := strideOf (C.ty t) C.ty) (w' := w.alloc (.cells (a.eval x).cells t)) (fz := (0, 0)) hs.heap hid hlt (cells := cs) (us := (a.eval x).cells) (ty := t) (by rw [List.take_of_length_le (by simp; omega)]; exact hc) (by omega) rfl (.inr (Nat.le_refl _)) rfl rfl rfl
        refine OpGoes.value (u := .pointer (some ⟨w.heap.size, 0, none⟩)) (w' := w.alloc (.cells (a.eval x).cells t)) ?_ (Leads.heap_put hs hgo hd (v := .ptr (some (id, 0))) (VR.ptr _ _ ⟨w.heap.size, 0, cs.length, strideOf (C.ty t) C.ty, (a.eval x).cells.size, true⟩ (Mu.add_self _ _ _)))
        unfold execOp
        rw [hop]
        simp [Instr.box, Go.newVar, newRow]
      · cases h
    · cases h
  · rename_i t n parts
    split at h
    · rename_i E ps h1 h2
      obtain ⟨e, he, rfl⟩ := elemT_inv h1
      split at h
      · rename_i hE
        split at h
        · rename_i cs h3
          cases h
          obtain ⟨g1, g2, g3⟩ := hE
          have hx : ∀ x ∈ parts.toList, OpdOk a.tmps.size x.2 := fun x hx => ho x.2 (by simp only [Op.operands]; simp; exact ⟨x.1, by simpa using hx⟩)
          have hTE := hty.of_size (t := e) (by omega)
          have ht := (hty.of_desc (t := t) (by rw [he]; simp)).desc
          rw [he] at ht
          obtain ⟨z, hz, hzv⟩ := zero_VL (w := w) (μ := μ) hTE
          have hps := evParts_sound hs hx h2
          have hz0 := zeros_VL hzv n (by omega)
          rw [g2] at hz0
          obtain ⟨c', q3, q4, q5⟩ := fill_sound (pl' := fun i => some (i * (C.ty e).size, (C.ty e).size)) (fun i x hx => hx) hps hz0 h3
          have hl := q4.length
          simp only [Array.length_toList] at hl
          have h5' : c'.size = n * (C.ty e).size := by rw [q5]; simp
          have hgo := HGoesB.fill (es := (C.ty e).size) (w' := w.alloc (.cells c' e)) (fz := (0, 0)) hs.heap hid hlt (cells := cs) (us := c') (ty := e) (by rw [List.take_of_length_le (by simp; omega)]; exact q4) (by omega) rfl (.inr (Nat.le_refl _)) rfl rfl rfl
          have hv := VR.slc (μ := μ.add id ⟨w.heap.size, 0, cs.length, (C.ty e).size, c'.size, true⟩) id 0 n n ⟨w.heap.size, 0, cs.length, (C.ty e).size, c'.size, true⟩
            (Mu.add_self _ _ _) (Nat.le_refl _) (fun _ => by simp only [h5']; omega) (by simp only; omega)
          refine OpGoes.value (u := .slice (some ⟨w.heap.size, 0, none⟩) n n) (w' := w.alloc (.cells c' e)) ?_ (Leads.heap_put hs hgo hd (by simpa using hv))
          unfold execOp
          rw [hop]
          have hsz := run_sizeOf_ok hTE w
          have hmap : (parts.map fun (i, x) => (i, a.eval x)).toList = parts.toList.map fun (i, x) => (i, a.eval x) := by simp
          simp only [Sem.run_bind, Instr.buildSlice, run_underlying ht, Result.andThen_ok, hsz, Sem.run_ite]
          rw [if_neg (by omega)]
          by_cases hn0 : n * (C.ty e).size = 0
          · have hc0 : c' = #[] := Array.eq_empty_of_size_eq_zero (by omega)
            subst hc0
            have hr : (Array.range (n * (C.ty e).size)).map (fun i => z.cells[i % z.cells.size]!) = #[] := by rw [hn0, Array.range_zero', Array.map_empty]
            rw [hr] at q3
            simp only [hn0, if_true, Sem.run_pure, Result.andThen_ok, Array.range_zero', Array.map_empty, hmap]
            simp [q3, newRow]
          · simp only [hn0, if_false, Sem.run_pure, Result.andThen_ok, hz, hmap, Sem.run_bind, q3]
            simp [newRow]
        · cases h
      · cases h
    · cases h
  · cases h

theorem stepR_sound (hty : TysOk P C.ty) (hcall : CallOk P callf) {ro : Option Nat} {Q : Exit → Act → World → Prop} {K : Act → World → Prop} (hs : Sim (C.locs f) σ μ β a w) (hop : OpsOk a.tmps.size ops)
    (hkept : ∀ k, h.res.lookup i = some k → μ (base + k) = none ∧ base + k < σ.heap.length)
    (hst : stepR C callf f ops h base i σ = some σ') (hk : ∀ a' w', LeadsB (fun id => σ.heap.length ≤ id ∨ ∃ k, h.res.lookup i = some k ∧ id = base + k) (C.locs f) σ μ β a w σ' a' w' → K a' w') : wpOpIn (rf ro) 0 P ops Q i K a w := by
  unfold stepR at hst
  split at hst
  · rename_i k hk1
    split at hst
    · rename_i o hi
      have hmem : o ∈ ops.toList := by simpa using Array.mem_of_getElem? hi
      obtain ⟨ho, hd⟩ := hop o hmem
      unfold wpOpIn
      simp only [hi]
      split at hst
      · rename_i hw
        rw [wanted_sound hs (fun o ho => (hop o ho).2) hw]
        simp only [if_true]
        split at hst
        · cases hst
        · split at hst
          · rename_i ob mk hn
            cases hst
            obtain ⟨q1, q2⟩ := hkept k hk1
            refine newOb_goes hty hs o ho hd hn q1 q2 ro _ _ fun a' w' hl => hk a' w' ?_
            obtain ⟨μ', β', k1, k2, k3, k4, k5, k6⟩ := hl
            exact ⟨μ', β', k1, k2, k3, k4, k5, k6.1, k6.2.1, fun id m hm => (k6.2.2 id m hm).imp (fun x => x) fun e => .inr ⟨k, hk1, e⟩⟩
          · cases hst
      · rename_i hw
        cases hst
        rw [wanted_sound hs (fun o ho => (hop o ho).2) hw]
        simp only [Bool.false_eq_true, if_false]
        refine ⟨fun _ _ => trivial, hk _ _ ?_⟩
        obtain ⟨μ', β', k1, k2, k3, k4, k5, k6⟩ := Leads.put hs hd (r := .val (.tup [])) (u := undef) tup0 trivial
        exact ⟨μ', β', k1, k2, k3, k4, k5, k6.1, k6.2.1, fun id m hm => (k6.2.2 id m hm).imp (fun x => x) .inl⟩
      · cases hst
    · cases hst
  · rename_i hk1
    split at hst
    · rename_i σ1 h1
      split at hst
      · cases hst
        obtain ⟨o, hi, _, h2, _⟩ := stepK_inv h1
        refine stepL_sound hty hcall (hs.hide (l := hidOf h i) (base := base)) hop hi h2 fun a' w' hl => hk a' w' ?_
        obtain ⟨μ', β', k1, k2, k3, k4, k5, k6⟩ := Leads.back hs hl
        exact ⟨μ', β', k1, k2, k3, k4, k5, k6.1, k6.2.1, fun id m hm => (k6.2.2 id m hm).imp (fun x => x) .inl⟩
      · cases hst
    · cases hst
end
end Go.Lite
end
