/- Part 03 of the proof of a law: the interpreter, its soundness, and what functions of the program compute over it. Conditions: none but those that each theorem names. -/
import Derived.Test.YtglbhjmpemiijaaGreatDoorT02
import Derived.Orders
import Derived.Test.YtglbhjmpemiijaaGreatDoorT01
import Derived.Lib.Bytealg

section
namespace Go.Lite
open Go
set_option linter.unusedSimpArgs false
set_option linter.unusedVariables false

/-- Two states in which operands are the same. -/
def Same (xs : List Operand) (σ τ : St) : Prop := ∀ x ∈ xs, evR σ x = evR τ x ∧ ev σ x = ev τ x

section
variable {C : Ctx} {callf : CallF} {f : Nat} {σ τ σ' : St}

theorem ev_same {x : Operand} (h : ∀ t, x = .tmp t → σ.regs t = τ.regs t) : evR σ x = evR τ x ∧ ev σ x = ev τ x := by
  cases x with
  | tmp t => simp only [evR, ev, h t rfl, and_self]
  | _ => exact ⟨rfl, rfl⟩

theorem evs_same : ∀ {xs : List Operand}, (∀ x ∈ xs, ev σ x = ev τ x) → evs σ xs = evs τ xs
  | [], _ => rfl
  | x :: xs, h => by
    simp only [evs]
    rw [h x (by simp), evs_same fun y hy => h y (List.mem_cons_of_mem _ hy)]

theorem evParts_same : ∀ {xs : List (Nat × Operand)}, (∀ x ∈ xs, ev σ x.2 = ev τ x.2) → evParts σ xs = evParts τ xs
  | [], _ => rfl
  | (i, x) :: xs, h => by
    simp only [evParts]
    rw [h (i, x) (by simp), evParts_same fun y hy => h y (List.mem_cons_of_mem _ hy)]

theorem boundL_same {d : Nat} {x : Option Operand} (h : ∀ y, x = some y → ev σ y = ev τ y) : boundL σ d x = boundL τ d x := by
  cases x with
  | none => rfl
  | some y => simp only [boundL, h y rfl]

theorem loadAt_same {T : LT} {p : Pl} (h : cellsAt σ p = cellsAt τ p) : loadAt T σ p = loadAt T τ p := by
  simp only [loadAt, h]

theorem slcCells_same {H H' : List Ob} {p : Option (Nat × Nat)} {k : Nat} (h : ∀ id off, p = some (id, off) → H[id]? = H'[id]?) : slcCells H p k = slcCells H' p k := by
  unfold slcCells
  cases p with
  | none => rfl
  | some q => obtain ⟨id, off⟩ := q; simp only [h id off rfl]

theorem convL_same {ty : Nat → LT} {S D : LT} {H H' : List Ob} {x : V} (h : ∀ e id off n, S.desc = .slice e → x = .slc (some (id, off)) n → H[id]? = H'[id]?) : convL ty S D H x = convL ty S D H' x := by
  unfold convL
  split <;> try rfl
  rename_i e p n h1 h2
  split
  · rw [slcCells_same (H' := H') fun id off hp => h e id off n h1 (by rw [hp])]
  · rfl

theorem sliceV_same {T : LT} {ty : Nat → LT} {x : V} {lo hi mx : Option Operand} (h : ∀ y, (lo = some y ∨ hi = some y ∨ mx = some y) → ev σ y = ev τ y)
    (hh : ∀ e id off n, T.desc = .slice e → x = .slc (some (id, off)) n → σ.heap[id]? = τ.heap[id]?) : sliceV T ty σ x lo hi mx = sliceV T ty τ x lo hi mx := by
  have e1 : ∀ d, boundL σ d lo = boundL τ d lo := fun d => boundL_same fun y hy => h y (.inl hy)
  have e2 : ∀ d, boundL σ d hi = boundL τ d hi := fun d => boundL_same fun y hy => h y (.inr (.inl hy))
  have e3 : ∀ d, boundL σ d mx = boundL τ d mx := fun d => boundL_same fun y hy => h y (.inr (.inr hy))
  unfold sliceV
  split
  · rw [e1, e2]
  · rw [e1, e2]
  · rename_i e id off n h1
    have r1 : ∀ a b c, reaches σ.heap id a b c = reaches τ.heap id a b c := fun a b c => by unfold reaches; rw [hh e id off n h1 rfl]
    have r2 : ∀ a, strideIs σ.heap id a = strideIs τ.heap id a := fun a => by unfold strideIs; rw [hh e id off n h1 rfl]
    rw [e1, e2]
    cases mx with
    | none => simp only [r1, r2]
    | some m => simp only [r1, r2, e3]
  · rfl

theorem valL_same {op : Op} (hA : Same op.operands.toList σ τ)
    (hL : ∀ t x r p, op = .load t x → evR σ x = some r → toPl r = some p → cellsAt σ p = cellsAt τ p)
    (hS : ∀ t x lo hi mx e id off n, op = .slice t x lo hi mx → (C.ty t).desc = .slice e → ev σ x = some (.slc (some (id, off)) n) → σ.heap[id]? = τ.heap[id]?)
    (hC : ∀ s d x e id off n, op = .convert s d x → (C.ty s).desc = .slice e → ev σ x = some (.slc (some (id, off)) n) → σ.heap[id]? = τ.heap[id]?) : valL C σ op = valL C τ op := by
  unfold valL
  split <;> try rfl
  all_goals simp only [Same, Op.operands, Call.operands] at hA
  case h_4 t x =>
    have hx := hA x (by simp)
    rw [hx.1]
    cases hr : evR τ x with
    | none => rfl
    | some r =>
      simp only []
      cases hp : toPl r with
      | none => rfl
      | some p => simp only [loadAt_same (hL t x r p rfl (by rw [hx.1, hr]) hp)]
  case h_8 s d x =>
    have hx := hA x (by simp)
    rw [hx.2]
    cases hr : ev τ x with
    | none => rfl
    | some a =>
      have := convL_same (ty := C.ty) (S := C.ty s) (D := C.ty d) (H := σ.heap) (H' := τ.heap) (x := a) fun e id off n h1 h2 => hC s d x e id off n rfl h1 (by rw [hx.2, hr, h2])
      simp only [this]
  case h_14 t x lo hi mx =>
    have hx := hA x (by simp)
    rw [hx.2]
    cases hr : ev τ x with
    | none => rfl
    | some a =>
      simp only []
      rw [sliceV_same (σ := σ) (τ := τ) (fun y hy => (hA y (by rcases hy with h | h | h <;> simp [h])).2) fun e id off n h1 h2 => hS t x lo hi mx e id off n rfl h1 (by rw [hx.2, hr, h2])]
  case h_15 g first cap =>
    rw [evs_same (σ := σ) (τ := τ) (xs := first.toList) fun y hy => (hA y (by simp at hy ⊢; simp [hy])).2, evs_same (σ := σ) (τ := τ) (xs := cap.toList) fun y hy => (hA y (by simp at hy ⊢; simp [hy])).2]
  case h_16 t parts =>
    rw [evParts_same (σ := σ) (τ := τ) fun y hy => (hA y.2 (by simp at hy ⊢; exact ⟨y.1, hy⟩)).2]
  case h_17 args ts =>
    have ha : ∀ x ∈ args.toList, ev σ x = ev τ x := fun y hy => (hA y (by simp at hy ⊢; simp [hy])).2
    split
    · rename_i x t h1 h2
      rw [ha x (by simp [h1])]
    · rfl
  case h_20 args ts =>
    have ha : ∀ x ∈ args.toList, ev σ x = ev τ x := fun y hy => (hA y (by simp at hy ⊢; simp [hy])).2
    split
    · rename_i x t h1 h2
      rw [ha x (by simp [h1])]
    · rfl
  case h_18 args ts => rw [evs_same (σ := σ) (τ := τ) fun y hy => (hA y (by simp at hy ⊢; simp [hy])).2]
  case h_19 args ts => rw [evs_same (σ := σ) (τ := τ) fun y hy => (hA y (by simp at hy ⊢; simp [hy])).2]
  all_goals (simp at hA; simp only [hA])

theorem writeAt_same {id off : Nat} {xs : List V} {σ1 : St} (hh : σ.heap = τ.heap) (h : writeAt σ (.hp id off) xs = some σ1) : ∃ H, σ1 = { σ with heap := H } ∧ writeAt τ (.hp id off) xs = some { τ with heap := H } := by
  simp only [writeAt] at h ⊢
  rw [hh] at h
  split at h
  · rename_i es cells ho
    split at h
    · rename_i hl
      cases h
      try simp only [ho, if_pos hl]
      exact ⟨_, rfl, rfl⟩
    · cases h
  · cases h

/-- What the heap's operations do. -/
theorem effL_same {d : Option Nat} {op : Op} (hA : Same op.operands.toList σ τ) (hh : σ.heap = τ.heap)
    (hN : (∃ t, op = .alloc t) ∨ (∃ t x, op = .box t x) → ∀ e, d = some e → (C.locs f).contains e = false)
    (hP : ∀ t x y r t' c off, op = .store t x y → evR σ x = some r → toPl r ≠ some (.loc t' c off)) (h : effL C callf f σ d op = some σ') :
    ∃ (H : List Ob) (v : V), σ' = ({ σ with heap := H } : St).put d (.val v) ∧ effL C callf f τ d op = some (({ τ with heap := H } : St).put d (.val v)) := by
  unfold effL at h ⊢
  split at h
  all_goals simp only [Same, Op.operands, Call.operands] at hA
  case h_1 t =>
    split at h
    · rename_i hz
      simp only [hz, if_true]
      unfold newVar at h ⊢
      cases d with
      | none => cases h
      | some e =>
        simp only [hN (.inl ⟨t, rfl⟩) e rfl, Bool.false_eq_true, if_false, Option.some.injEq] at h ⊢
        subst h
        exact ⟨σ.heap ++ [.mk true (strideOf (C.ty t) C.ty) (C.ty t).zero], .ptr (some (σ.heap.length, 0)), rfl, by rw [hh]; rfl⟩
    · cases h
  case h_2 t x =>
    rw [(hA x (by simp)).2] at h
    split at h
    · rename_i v h1
      split at h
      · rename_i cs h2
        unfold newVar at h ⊢
        cases d with
        | none => cases h
        | some e =>
          simp only [hN (.inr ⟨t, x, rfl⟩) e rfl, Bool.false_eq_true, if_false, Option.some.injEq, h1, h2] at h ⊢
          subst h
          exact ⟨σ.heap ++ [.mk true (strideOf (C.ty t) C.ty) cs], .ptr (some (σ.heap.length, 0)), rfl, by rw [hh]; rfl⟩
      · cases h
    · cases h
  case h_3 t x y =>
    have h0 := hP t x y
    rw [(hA x (by simp)).1, (hA y (by simp)).2] at h
    split at h
    · rename_i r v h1 h2
      split at h
      · rename_i p h3
        split at h
        · rename_i σ1 h4
          cases h
          try simp only [h1, h2, h3]
          cases p with
          | loc t' c off => exact absurd h3 (h0 r t' c off rfl (by rw [(hA x (by simp)).1, h1]))
          | hp id off =>
            simp only [storeAt] at h4 ⊢
            split at h4
            · rename_i xs hx
              split at h4
              · rename_i hc
                obtain ⟨H, rfl, h5⟩ := writeAt_same hh h4
                try simp only [hx, if_pos hc, h5]
                exact ⟨H, _, rfl, rfl⟩
              · cases h4
            · cases h4
        · cases h
      · cases h
    · cases h
  case h_4 t n parts =>
    rw [evParts_same (σ := σ) (τ := τ) fun y hy => (hA y.2 (by simp at hy ⊢; exact ⟨y.1, hy⟩)).2] at h
    split at h
    · rename_i E ps h1 h2
      split at h
      · rename_i hE
        split at h
        · rename_i cs h3
          cases h
          try simp only [h1, h2, h3, if_pos hE, St.new, hh]
          exact ⟨_, _, rfl, rfl⟩
        · cases h
      · cases h
    · cases h
  case h_5 t l c =>
    rw [(hA l (by simp)).2, (hA c (by simp)).2] at h
    split at h
    · rename_i E l' c' h1 h2 h3
      split at h
      · rename_i hE
        cases h
        try simp only [h1, h2, h3, if_pos hE, St.new, hh]
        exact ⟨_, _, rfl, rfl⟩
      · cases h
    · cases h
  case h_6 s t x =>
    rw [(hA x (by simp)).2] at h
    split at h
    · rename_i e b h1 h2 h3
      split at h
      · rename_i h4
        split at h
        · rename_i h5
          cases h
          try simp only [h1, h2, h3, h4, if_pos h5, St.new, hh]
          exact ⟨_, _, rfl, rfl⟩
        · cases h
      · cases h
    · cases h
  case h_7 args ts =>
    have ha : ∀ x ∈ args.toList, ev σ x = ev τ x := fun y hy => (hA y (by simp at hy ⊢; simp [hy])).2
    split at h
    · rename_i s x t u h1 h2
      rw [ha s (by simp [h1]), ha x (by simp [h1]), hh] at h
      split at h
      · rename_i E s' x' h3 h4 h5
        split at h
        · rename_i v H h6
          cases h
          try simp only [h1, h2, h3, h4, h5, h6]
          exact ⟨_, _, rfl, rfl⟩
        · cases h
      · cases h
    · cases h
  case h_8 args ts =>
    have ha : ∀ x ∈ args.toList, ev σ x = ev τ x := fun y hy => (hA y (by simp at hy ⊢; simp [hy])).2
    split at h
    · rename_i s x t rest h1 h2
      rw [ha s (by simp [h1]), ha x (by simp [h1])] at h
      split at h
      · rename_i E s' x' h3 h4 h5
        split at h
        · rename_i v σ1 h6
          cases h
          try simp only [h1, h2, h3, h4, h5]
          unfold copyV at h6 ⊢
          split at h6
          · cases h6
          · rename_i hz
            try simp only [hz, if_false]
            split at h6
            · split at h6
              · cases h6
              · rename_i k hk
                rw [hh] at h6
                split at h6
                · cases h6
                · rename_i xs hxs
                  try simp only [hk, hxs]
                  split at h6
                  · rename_i hk0
                    cases h6
                    try simp only [hk0, if_true]
                    exact ⟨σ.heap, _, rfl, by rw [hh]⟩
                  · rename_i hk0
                    try simp only [hk0, if_false]
                    split at h6
                    · cases h6
                    · split at h6
                      · rename_i hone
                        try simp only [hone, if_true]
                        split at h6
                        · rename_i σ2 h7
                          cases h6
                          obtain ⟨H, rfl, h8⟩ := writeAt_same hh h7
                          try simp only [h8]
                          exact ⟨H, _, rfl, rfl⟩
                        · cases h6
                      · cases h6
            · cases h6
        · cases h
      · cases h
    · cases h
  case h_9 args ts =>
    have ha : ∀ x ∈ args.toList, ev σ x = ev τ x := fun y hy => (hA y (by simp at hy ⊢; simp [hy])).2
    split at h
    · rename_i s t h1 h2
      rw [ha s (by simp [h1])] at h
      split at h
      · rename_i E h3 h4
        cases h
        try simp only [h1, h2, h3, h4]
        exact ⟨σ.heap, _, rfl, by rw [hh]⟩
      · rename_i E id off n h3 h4
        try simp only [h1, h2, h3, h4]
        split at h
        · rename_i hn
          cases h
          simp only [hn, if_true]
          exact ⟨σ.heap, _, rfl, by rw [hh]⟩
        · rename_i hn
          simp only [hn, if_false]
          split at h
          · rename_i hz
            simp only [if_pos hz]
            split at h
            · rename_i σ2 h7
              cases h
              obtain ⟨H, rfl, h8⟩ := writeAt_same hh h7
              try simp only [h8]
              exact ⟨H, _, rfl, rfl⟩
            · cases h
          · cases h
      · cases h
    · cases h
  case h_10 g args ts =>
    rw [(hA g (by simp)).2, evs_same (σ := σ) (τ := τ) fun y hy => (hA y (by simp at hy ⊢; simp [hy])).2, hh] at h
    split at h
    · rename_i g' a b xs h1 h2
      split at h
      · rename_i r H h3
        cases h
        try simp only [h1, h2, h3]
        exact ⟨_, _, rfl, rfl⟩
      · cases h
    · cases h
  case h_11 => cases h

end
end Go.Lite
end

section
namespace Go.Lite
open Go
set_option linter.unusedSimpArgs false
set_option linter.unusedVariables false

structure Foot where
  U : List Nat
  W : List Nat
  rc : Bool
  rh : Bool
  wh : Bool

def isSlc (T : LT) : Bool := match T.desc with | .slice _ => true | _ => false

def inLocs (C : Ctx) (f : Nat) (d : Option Nat) : Bool := match d with | some d => (C.locs f).contains d | none => false

/-- What an operation reads, and what it writes. -/
def footK (C : Ctx) (f : Nat) (ops : Array Oper) (h : Hint) (i : Nat) (o : Oper) : Foot :=
  match o.op with
  | .load _ _ => match h.locs.lookup i with
    | some t => ⟨t :: o.looksAt ops, o.dst.toList, false, false, false⟩
    | none => if h.old.contains i then ⟨o.looksAt ops, o.dst.toList, false, true, false⟩ else ⟨o.looksAt ops ++ C.locs f, o.dst.toList, false, true, false⟩
  | .store _ _ _ => match h.locs.lookup i with
    | some t => ⟨t :: o.looksAt ops, t :: o.dst.toList, false, false, false⟩
    | none => if h.old.contains i then ⟨o.looksAt ops, o.dst.toList, false, true, true⟩ else ⟨o.looksAt ops ++ C.locs f, o.dst.toList ++ C.locs f, false, true, true⟩
  | .alloc _ => if inLocs C f o.dst then ⟨o.looksAt ops, o.dst.toList, true, false, false⟩ else ⟨o.looksAt ops, o.dst.toList, false, true, true⟩
  | .box _ _ => if inLocs C f o.dst then ⟨o.looksAt ops, o.dst.toList, true, false, false⟩ else ⟨o.looksAt ops, o.dst.toList, false, true, true⟩
  | .slice t _ _ _ _ => ⟨o.looksAt ops, o.dst.toList, false, isSlc (C.ty t), false⟩
  | .convert s t x => if isEff C (.convert s t x) then ⟨o.looksAt ops, o.dst.toList, false, true, true⟩ else ⟨o.looksAt ops, o.dst.toList, false, isSlc (C.ty s), false⟩
  | op => if isEff C op then ⟨o.looksAt ops, o.dst.toList, false, true, true⟩ else ⟨o.looksAt ops, o.dst.toList, false, false, false⟩

theorem footK_U (C : Ctx) (f : Nat) (ops : Array Oper) (h : Hint) (i : Nat) (o : Oper) : ∀ t ∈ o.looksAt ops, t ∈ (footK C f ops h i o).U := by
  intro t ht
  unfold footK
  repeat' split
  all_goals simp [ht]

theorem footK_W (C : Ctx) (f : Nat) (ops : Array Oper) (h : Hint) (i : Nat) (o : Oper) : ∀ t ∈ (footK C f ops h i o).W, t ∈ o.dst.toList ∨ t ∈ (footK C f ops h i o).U := by
  intro t ht
  unfold footK at *
  repeat' split at ht
  all_goals simp_all
  all_goals grind

theorem footK_D (C : Ctx) (f : Nat) (ops : Array Oper) (h : Hint) (i : Nat) (o : Oper) : ∀ t ∈ o.dst.toList, t ∈ (footK C f ops h i o).W := by
  intro t ht
  unfold footK
  repeat' split
  all_goals simp_all

theorem footK_wr (C : Ctx) (f : Nat) (ops : Array Oper) (h : Hint) (i : Nat) (o : Oper) : (footK C f ops h i o).wh = true → (footK C f ops h i o).rh = true := by
  unfold footK
  repeat' split
  all_goals simp

/-- The same doing in another state. -/
structure Moves (F : Foot) (σ' τ τ' : St) : Prop where
  w : ∀ t ∈ F.W, τ'.regs t = σ'.regs t
  k : ∀ t, t ∉ F.W → τ'.regs t = τ.regs t
  cnt : τ'.cnt = if F.rc = true then σ'.cnt else τ.cnt
  heap : τ'.heap = if F.wh = true then σ'.heap else τ.heap

section
variable {C : Ctx} {callf : CallF} {f : Nat} {σ τ σ' : St} {ops : Array Oper} {h : Hint} {base i : Nat} {o : Oper}

theorem evR_of_ev {x : Operand} {v : V} (h : ev σ x = some v) : evR σ x = some (.val v) := by
  cases x with
  | tmp t =>
    simp only [ev, evR] at *
    split at h
    · rename_i u hu; cases h; rw [hu]
    · cases h
  | const c => simp only [ev, evR, Option.some.injEq] at *; rw [h]
  | func g => simp only [ev, evR, Option.some.injEq] at *; rw [h]
  | global g => cases h

theorem same_of {U : List Nat} (hU : ∀ t ∈ o.looksAt ops, t ∈ U) (hA : ∀ t ∈ U, σ.regs t = τ.regs t) : Same o.op.operands.toList σ τ := by
  intro x hx
  refine ev_same fun t ht => hA t (hU t ?_)
  subst ht
  exact List.mem_append_left _ (List.mem_filterMap.2 ⟨.tmp t, hx, rfl⟩)

theorem putr_regs (σ : St) (d : Option Nat) (x : R) (t : Nat) : (σ.put d x).regs t = if t ∈ d.toList then x else σ.regs t := by
  cases d with
  | none => simp [St.put]
  | some e => simp only [St.put, upd, Option.toList, List.mem_singleton]
theorem putr_cnt (σ : St) (d : Option Nat) (x : R) : (σ.put d x).cnt = σ.cnt := by cases d <;> rfl
theorem putr_heap (σ : St) (d : Option Nat) (x : R) : (σ.put d x).heap = σ.heap := by cases d <;> rfl

theorem lookOf_mem {op : Op} {x : Operand} (h : lookOf op = some x) : x ∈ op.operands.toList := by
  cases op <;> simp only [lookOf, reduceCtorEq, Option.some.injEq] at h <;> subst h <;> simp [Op.operands]

theorem fitsAt_same (hS : Same o.op.operands.toList σ τ) : fitsAt h base i o σ = fitsAt h base i o τ := by
  unfold fitsAt
  cases hl : lookOf o.op with
  | none => rfl
  | some x => simp only [Option.bind_some, (hS x (lookOf_mem hl)).1]

theorem fits_old {x : Operand} (hl : lookOf o.op = some x) (hn : isStore o.op = false) (hf : fitsAt h base i o σ = true) (ho : h.old.contains i = true) :
    (∀ t c off, evR σ x ≠ some (.ref t c off)) ∧ (∀ id off, evR σ x = some (.val (.ptr (some (id, off)))) → id < base) ∧ (∀ id off n, evR σ x = some (.val (.slc (some (id, off)) n)) → id < base) := by
  unfold fitsAt at hf
  simp only [hl, Option.bind_some, ho, if_true, Bool.and_eq_true] at hf
  refine ⟨fun t c off he => ?_, fun id off he => ?_, fun id off n he => ?_⟩ <;> rw [he] at hf <;> simp_all

theorem fits_store {x : Operand} (hl : lookOf o.op = some x) (hf : fitsAt h base i o σ = true) (ho : h.old.contains i = true) : ∀ t c off, evR σ x ≠ some (.ref t c off) := by
  unfold fitsAt at hf
  simp only [hl, Option.bind_some, ho, if_true, Bool.and_eq_true] at hf
  intro t c off he
  rw [he] at hf
  simp_all

theorem fits_loc {x : Operand} {t : Nat} (hl : lookOf o.op = some x) (hf : fitsAt h base i o σ = true) (ho : h.locs.lookup i = some t) :
    (∀ t' c off, evR σ x = some (.ref t' c off) → t' = t) ∧ (∀ p, evR σ x ≠ some (.val (.ptr p))) := by
  unfold fitsAt at hf
  simp only [hl, Option.bind_some, ho, Bool.and_eq_true] at hf
  refine ⟨fun t c off he => ?_, fun p he => ?_⟩ <;> rw [he] at hf <;> simp_all

theorem toPl_inv {r : R} {p : Pl} (h : toPl r = some p) : (∃ t c off, r = .ref t c off ∧ p = .loc t c off) ∨ (∃ id off, r = .val (.ptr (some (id, off))) ∧ p = .hp id off) := by
  unfold toPl at h
  split at h
  · cases h; exact .inl ⟨_, _, _, rfl, rfl⟩
  · cases h; exact .inr ⟨_, _, rfl, rfl⟩
  · cases h

/-- What is read does not hang on the rest. -/
theorem valL_local (hi : isEff C o.op = false) (hA : ∀ t ∈ (footK C f ops h i o).U, σ.regs t = τ.regs t)
    (hheap : (footK C f ops h i o).rh = true → σ.heap = τ.heap ∨ (h.old.contains i = true ∧ Keep base σ.heap τ.heap)) (hf : fitsAt h base i o σ = true)
    (hR : ∀ x ∈ o.op.operands.toList, ∀ t c off, evR σ x = some (.ref t c off) → t ∈ C.locs f) : valL C σ o.op = valL C τ o.op := by
  have hS := same_of (footK_U C f ops h i o) hA
  refine valL_same hS ?_ ?_ ?_
  · intro t x r p hop hr hp
    have hl : lookOf o.op = some x := by rw [hop]; rfl
    have hx := hR x (lookOf_mem hl)
    have hns : isStore o.op = false := by rw [hop]; rfl
    unfold footK at hA hheap
    simp only [hop] at hA hheap
    rcases toPl_inv hp with ⟨t', c, off, rfl, rfl⟩ | ⟨id, off, rfl, rfl⟩
    · have : σ.regs t' = τ.regs t' := by
        cases hlk : h.locs.lookup i with
        | some t =>
          simp only [hlk] at hA
          rw [(fits_loc hl hf hlk).1 _ _ _ hr]
          exact hA t (by simp)
        | none =>
          simp only [hlk] at hA
          by_cases ho : h.old.contains i = true
          · exact absurd hr ((fits_old hl hns hf ho).1 _ _ _)
          · simp only [if_neg ho] at hA
            exact hA t' (by simp [hx _ _ _ hr])
      simp only [cellsAt, this]
    · have : σ.heap[id]? = τ.heap[id]? := by
        cases hlk : h.locs.lookup i with
        | some t => exact absurd hr ((fits_loc hl hf hlk).2 _)
        | none =>
          simp only [hlk] at hheap
          by_cases ho : h.old.contains i = true
          · simp only [if_pos ho] at hheap
            rcases hheap (by trivial) with h1 | h1
            · rw [h1]
            · exact (h1.2 id ((fits_old hl hns hf ho).2.1 _ _ hr)).symm
          · simp only [if_neg ho] at hheap
            rcases hheap (by trivial) with h1 | h1
            · rw [h1]
            · exact absurd h1.1 ho
      simp only [cellsAt, this]
  · intro t x lo hi mx e id off n hop hd hx
    have hl : lookOf o.op = some x := by rw [hop]; rfl
    have hns : isStore o.op = false := by rw [hop]; rfl
    unfold footK at hheap
    simp only [hop, isSlc, hd] at hheap
    rcases hheap (by trivial) with h1 | h1
    · rw [h1]
    · exact (h1.2 id ((fits_old hl hns hf h1.1).2.2 _ _ _ (evR_of_ev hx))).symm
  · intro s d x e id off n hop hd hx
    have hl : lookOf o.op = some x := by rw [hop]; rfl
    have hns : isStore o.op = false := by rw [hop]; rfl
    rw [hop] at hi
    unfold footK at hheap
    simp only [hop, hi, isSlc, hd, Bool.false_eq_true, if_false] at hheap
    rcases hheap (by trivial) with h1 | h1
    · rw [h1]
    · exact (h1.2 id ((fits_old hl hns hf h1.1).2.2 _ _ _ (evR_of_ev hx))).symm

theorem footK_noeff (hi : isEff C o.op = false) : (footK C f ops h i o).W = o.dst.toList ∧ (footK C f ops h i o).rc = false ∧ (footK C f ops h i o).wh = false := by
  unfold footK
  repeat' split
  all_goals simp_all [isEff]

theorem Moves.put_put {F : Foot} {d : Option Nat} {r : R} (h1 : F.W = d.toList) (h2 : F.rc = false) (h3 : F.wh = false) : Moves F (σ.put d r) τ (τ.put d r) := by
  refine ⟨fun t ht => ?_, fun t ht => ?_, ?_, ?_⟩
  · rw [putr_regs, putr_regs]; rw [h1] at ht; simp only [ht, if_true]
  · rw [putr_regs]; rw [h1] at ht; simp only [ht, if_false]
  · rw [putr_cnt, h2]; rfl
  · rw [putr_heap, h3]; rfl

theorem Moves.put_heap {F : Foot} {d : Option Nat} {r : R} {H : List Ob} (h1 : F.W = d.toList) (h2 : F.rc = false) (h3 : F.wh = true) : Moves F (({ σ with heap := H } : St).put d r) τ (({ τ with heap := H } : St).put d r) := by
  refine ⟨fun t ht => ?_, fun t ht => ?_, ?_, ?_⟩
  · rw [putr_regs, putr_regs]; rw [h1] at ht; simp only [ht, if_true]
  · rw [putr_regs]; rw [h1] at ht; simp only [ht, if_false]
  · rw [putr_cnt, h2]; rfl
  · rw [putr_heap, putr_heap, h3]; rfl

theorem effL_heap_local (hF : (footK C f ops h i o) = ⟨o.looksAt ops, o.dst.toList, false, true, true⟩) (hi : isEff C o.op = true) (hA : ∀ t ∈ (footK C f ops h i o).U, σ.regs t = τ.regs t) (hh : σ.heap = τ.heap)
    (hN : (∃ t, o.op = .alloc t) ∨ (∃ t x, o.op = .box t x) → ∀ e, o.dst = some e → (C.locs f).contains e = false)
    (hP : ∀ t x y r t' c off, o.op = .store t x y → evR σ x = some r → toPl r ≠ some (.loc t' c off))
    (hstep : opL C callf f o σ = some σ') : ∃ τ', opL C callf f o τ = some τ' ∧ Moves (footK C f ops h i o) σ' τ τ' := by
  unfold opL at *
  simp only [hi, if_true] at *
  obtain ⟨H, v, rfl, h2⟩ := effL_same (same_of (footK_U C f ops h i o) hA) hh hN hP hstep
  refine ⟨_, h2, ?_⟩
  rw [hF]
  exact Moves.put_heap rfl rfl rfl

theorem writeLoc {t c off : Nat} {xs : List V} (hr : σ.regs t = τ.regs t) (h : writeAt σ (.loc t c off) xs = some σ') :
    ∃ b, σ' = { σ with regs := upd σ.regs t b } ∧ writeAt τ (.loc t c off) xs = some { τ with regs := upd τ.regs t b } := by
  simp only [writeAt, ← hr] at *
  split at h
  · rename_i c' cells hb
    split at h
    · rename_i hc
      cases h
      try simp only [hb, if_pos hc]
      exact ⟨_, rfl, rfl⟩
    · cases h
  · cases h

theorem opL_local (hA : ∀ t ∈ (footK C f ops h i o).U, σ.regs t = τ.regs t) (hcnt : (footK C f ops h i o).rc = true → σ.cnt = τ.cnt)
    (hheap : (footK C f ops h i o).rh = true → σ.heap = τ.heap ∨ (h.old.contains i = true ∧ (footK C f ops h i o).wh = false ∧ Keep base σ.heap τ.heap)) (hf : fitsAt h base i o σ = true)
    (hR : ∀ x ∈ o.op.operands.toList, ∀ t c off, evR σ x = some (.ref t c off) → t ∈ C.locs f)
    (hstep : opL C callf f o σ = some σ') : ∃ τ', opL C callf f o τ = some τ' ∧ Moves (footK C f ops h i o) σ' τ τ' := by
  cases hi : isEff C o.op with
  | false =>
    obtain ⟨h1, h2, h3⟩ := footK_noeff (f := f) (ops := ops) (h := h) (i := i) hi
    have := valL_local hi hA (fun hh => (hheap hh).imp id fun k => ⟨k.1, k.2.2⟩) hf hR
    unfold opL at *
    simp only [hi, Bool.false_eq_true, if_false, this] at *
    split at hstep
    · rename_i r hr
      cases hstep
      exact ⟨_, by try simp only [hr], Moves.put_put h1 h2 h3⟩
    · cases hstep
  | true =>
    have hS := same_of (footK_U C f ops h i o) hA
    have hwh : (footK C f ops h i o).wh = true → σ.heap = τ.heap := fun hw => (hheap (footK_wr C f ops h i o hw)).elim id fun k => by rw [hw] at k; exact absurd k.2.1 (by decide)
    have gen : (footK C f ops h i o) = ⟨o.looksAt ops, o.dst.toList, false, true, true⟩ → ((∃ t, o.op = .alloc t) ∨ (∃ t x, o.op = .box t x) → ∀ e, o.dst = some e → (C.locs f).contains e = false) →
        (∀ t x y r t' c off, o.op = .store t x y → evR σ x = some r → toPl r ≠ some (.loc t' c off)) → ∃ τ', opL C callf f o τ = some τ' ∧ Moves (footK C f ops h i o) σ' τ τ' :=
      fun hF hN hP => effL_heap_local hF hi hA (hwh (by rw [hF])) hN hP hstep
    generalize hop : o.op = op at hi
    cases op
    case alloc t =>
      cases hin : inLocs C f o.dst with
      | false =>
        refine gen (by unfold footK; simp only [hop, hin]; rfl) (fun _ e he => ?_) (fun t x y r t' c off h => by simp [hop] at h)
        simpa [inLocs, he] using hin
      | true =>
        have hF : footK C f ops h i o = ⟨o.looksAt ops, o.dst.toList, true, false, false⟩ := by unfold footK; simp only [hop, hin, if_true]
        have hc := hcnt (by rw [hF])
        unfold opL at *
        simp only [hop, isEff, if_true, effL] at *
        split at hstep
        · rename_i hz
          simp only [if_pos hz]
          unfold newVar at *
          cases hd : o.dst with
          | none => rw [hd] at hstep; cases hstep
          | some d =>
            simp only [hd, inLocs] at hin hstep ⊢
            simp only [hin, if_true, Option.some.injEq] at hstep ⊢
            subst hstep
            refine ⟨_, rfl, ?_⟩
            rw [hF]
            refine ⟨fun t ht => ?_, fun t ht => ?_, by simp [hc], rfl⟩ <;> simp only [hd, Option.toList, List.mem_singleton] at ht <;> simp only [upd, ht, if_true, if_false, hc]
        · cases hstep
    case box t x =>
      cases hin : inLocs C f o.dst with
      | false =>
        refine gen (by unfold footK; simp only [hop, hin]; rfl) (fun _ e he => ?_) (fun t x y r t' c off h => by simp [hop] at h)
        simpa [inLocs, he] using hin
      | true =>
        have hF : footK C f ops h i o = ⟨o.looksAt ops, o.dst.toList, true, false, false⟩ := by unfold footK; simp only [hop, hin, if_true]
        have hc := hcnt (by rw [hF])
        have hx := (hS x (by simp [hop, Op.operands])).2
        unfold opL at *
        simp only [hop, isEff, if_true, effL, hx] at *
        split at hstep
        · rename_i v hv
          try simp only [hv]
          split at hstep
          · rename_i cs hcs
            try simp only [hcs]
            unfold newVar at *
            cases hd : o.dst with
            | none => rw [hd] at hstep; cases hstep
            | some d =>
              simp only [hd, inLocs] at hin hstep ⊢
              simp only [hin, if_true, Option.some.injEq] at hstep ⊢
              subst hstep
              refine ⟨_, rfl, ?_⟩
              rw [hF]
              refine ⟨fun t ht => ?_, fun t ht => ?_, by simp [hc], rfl⟩ <;> simp only [hd, Option.toList, List.mem_singleton] at ht <;> simp only [upd, ht, if_true, if_false, hc]
          · cases hstep
        · cases hstep
    case store t x y =>
      have hl : lookOf o.op = some x := by rw [hop]; rfl
      have hx := hS x (by simp [hop, Op.operands])
      have hy := hS y (by simp [hop, Op.operands])
      have nol : (∃ t, o.op = .alloc t) ∨ (∃ t x, o.op = .box t x) → ∀ e, o.dst = some e → (C.locs f).contains e = false := by rintro (⟨t, ht⟩ | ⟨t, x, ht⟩) <;> simp [hop] at ht
      cases hlk : h.locs.lookup i with
      | some t' =>
        have hF : footK C f ops h i o = ⟨t' :: o.looksAt ops, t' :: o.dst.toList, false, false, false⟩ := by unfold footK; simp only [hop, hlk]
        have hAt : σ.regs t' = τ.regs t' := hA t' (by rw [hF]; simp)
        have fl := fits_loc hl hf hlk
        unfold opL at *
        simp only [hop, isEff, if_true, effL, ← hx.1, ← hy.2] at *
        split at hstep
        · rename_i r v h1 h2
          try simp only [h1, h2]
          split at hstep
          · rename_i p hp
            try simp only [hp]
            split at hstep
            · rename_i σ1 h4
              cases hstep
              rcases toPl_inv hp with ⟨t'', c, off, rfl, rfl⟩ | ⟨id, off, rfl, rfl⟩
              · have ht := fl.1 _ _ _ h1
                subst ht
                simp only [storeAt] at h4 ⊢
                split at h4
                · rename_i xs hxs
                  split at h4
                  · rename_i hc
                    obtain ⟨b, rfl, h6⟩ := writeLoc hAt h4
                    simp only [h6, if_pos hc]
                    refine ⟨_, rfl, ?_⟩
                    rw [hF]
                    refine ⟨fun t ht => ?_, fun t ht => ?_, ?_, ?_⟩
                    · rw [putr_regs, putr_regs]
                      simp only [List.mem_cons] at ht
                      by_cases hd : t ∈ o.dst.toList
                      · simp only [hd, if_true]
                      · simp only [hd, or_false] at ht; simp only [hd, if_false, upd, ht, if_true]
                    · rw [putr_regs]
                      simp only [List.mem_cons, not_or] at ht
                      simp only [ht.2, if_false, upd, ht.1]
                    · rw [putr_cnt]; rfl
                    · rw [putr_heap]; rfl
                  · cases h4
                · cases h4
              · exact absurd h1 (fl.2 _)
            · cases hstep
          · cases hstep
        · cases hstep
      | none =>
        by_cases ho : h.old.contains i = true
        · refine gen (by unfold footK; simp only [hop, hlk, if_pos ho]) nol (fun t x' y r t' c off hop' hr hp => ?_)
          rw [hop] at hop'
          cases hop'
          rcases toPl_inv hp with ⟨t'', c', off', rfl, _⟩ | ⟨id, off', _, hh⟩
          · exact fits_store hl hf ho _ _ _ hr
          · cases hh
        · have hF : footK C f ops h i o = ⟨o.looksAt ops ++ C.locs f, o.dst.toList ++ C.locs f, false, true, true⟩ := by unfold footK; simp only [hop, hlk, if_neg ho]
          have hh := hwh (by rw [hF])
          unfold opL at *
          simp only [hop, isEff, if_true, effL, ← hx.1, ← hy.2] at *
          split at hstep
          · rename_i r v h1 h2
            try simp only [h1, h2]
            split at hstep
            · rename_i p hp
              try simp only [hp]
              split at hstep
              · rename_i σ1 h4
                cases hstep
                simp only [storeAt] at h4 ⊢
                split at h4
                · rename_i xs hxs
                  try simp only [hxs]
                  split at h4
                  · rename_i hc
                    simp only [if_pos hc]
                    have base : ∀ t, t ∈ o.dst.toList ++ C.locs f → t ∉ o.dst.toList → σ.regs t = τ.regs t := fun t ht hd => by
                      refine hA t ?_
                      rw [hF]
                      simp only [List.mem_append, hd, false_or] at ht ⊢
                      exact .inr ht
                    rcases toPl_inv hp with ⟨t'', c, off, rfl, rfl⟩ | ⟨id, off, rfl, rfl⟩
                    · have htL : t'' ∈ C.locs f := hR x (by simp [Op.operands]) _ _ _ h1
                      have hAt : σ.regs t'' = τ.regs t'' := hA t'' (by rw [hF]; simp [htL])
                      obtain ⟨b, rfl, h6⟩ := writeLoc hAt h4
                      simp only [h6]
                      refine ⟨_, rfl, ?_⟩
                      rw [hF]
                      refine ⟨fun t ht => ?_, fun t ht => ?_, ?_, ?_⟩
                      · rw [putr_regs, putr_regs]
                        by_cases hd : t ∈ o.dst.toList
                        · simp only [hd, if_true]
                        · simp only [hd, if_false, upd, base t ht hd]
                      · rw [putr_regs]
                        simp only [List.mem_append, not_or] at ht
                        have : t ≠ t'' := fun e => ht.2 (e ▸ htL)
                        simp only [ht.1, if_false, upd, this]
                      · rw [putr_cnt]; rfl
                      · rw [putr_heap, putr_heap]; exact hh.symm
                    · obtain ⟨H, rfl, h6⟩ := writeAt_same hh h4
                      simp only [h6]
                      refine ⟨_, rfl, ?_⟩
                      rw [hF]
                      refine ⟨fun t ht => ?_, fun t ht => ?_, ?_, ?_⟩
                      · rw [putr_regs, putr_regs]
                        by_cases hd : t ∈ o.dst.toList
                        · simp only [hd, if_true]
                        · simp only [hd, if_false, base t ht hd]
                      · rw [putr_regs]
                        simp only [List.mem_append, not_or] at ht
                        simp only [ht.1, if_false]
                      · rw [putr_cnt]; rfl
                      · rw [putr_heap, putr_heap]; rfl
                  · cases h4
                · cases h4
              · cases hstep
            · cases hstep
          · cases hstep
    all_goals first
      | (exfalso; simp [isEff] at hi; done)
      | exact gen (by unfold footK; simp only [hop, hi, if_true]) (by rintro (⟨t, ht⟩ | ⟨t, x, ht⟩) <;> simp [hop] at ht) (fun t x y r t' c off h => by simp [hop] at h)

end
end Go.Lite
end

section
namespace Go.Lite
open Go
set_option linter.unusedSimpArgs false
set_option linter.unusedVariables false

section
variable {C : Ctx} {callf : CallF} {f : Nat} {σ τ σ' : St} {ops : Array Oper} {h : Hint} {base i : Nat} {o : Oper}

/-- Variables of the frame's own stand only in their registers. -/
def Refs (L : List Nat) (n : Nat) (σ : St) : Prop := ∀ u, u < n → (∀ c cells, σ.regs u = .box c cells → u ∈ L) ∧ (∀ t c off, σ.regs u = .ref t c off → t ∈ L)

theorem Sim.refs {L : List Nat} {μ : Mu} {β : List Nat} {a : Act} {w : World} (hs : Sim L σ μ β a w) : Refs L a.tmps.size σ := by
  intro u hu
  refine ⟨fun c cells hb => hs.loc u c cells hu hb, fun t c off hr => ?_⟩
  have := hs.reg u hu
  rw [hr] at this
  exact this.2.1

theorem Refs.evd {L : List Nat} {n : Nat} (hI : Refs L n σ) {x : Operand} (hx : OpdOk n x) {t c off : Nat} (h : evR σ x = some (.ref t c off)) : t ∈ L := by
  cases x with
  | tmp y =>
    simp only [evR] at h
    split at h
    · cases h
    · rename_i c' cells hb; cases h; exact (hI _ hx).1 _ _ hb
    · rename_i t' c' off' hb; cases h; exact (hI _ hx).2 _ _ _ hb
  | const => cases h
  | func => cases h
  | global => cases h

theorem evR_nobox {x : Operand} {c : Nat} {cells : List V} : evR σ x ≠ some (.box c cells) := by
  cases x with
  | tmp u => simp only [evR]; split <;> simp
  | const => simp [evR]
  | func => simp [evR]
  | global => simp [evR]

theorem valL_ref {op : Op} {r : R} (h : valL C σ op = some r) : (∀ c cells, r ≠ .box c cells) ∧ ∀ t c off, r = .ref t c off → ∃ x ∈ op.operands.toList, ∃ c' off', evR σ x = some (.ref t c' off') := by
  unfold valL at h
  split at h
  case h_1 x => exact ⟨fun c cells he => evR_nobox (h.trans (by rw [he])), fun t c off he => ⟨x, by simp [Op.operands], c, off, h.trans (by rw [he])⟩⟩
  case h_2 x => exact ⟨fun c cells he => evR_nobox (h.trans (by rw [he])), fun t c off he => ⟨x, by simp [Op.operands], c, off, h.trans (by rw [he])⟩⟩
  case h_5 x =>
    split at h <;> cases h
    · rename_i a b c hx
      exact ⟨fun _ _ he => (nomatch he), fun t c off he => (by cases he; exact ⟨x, by simp [Op.operands], _, _, hx⟩)⟩
    · exact ⟨fun _ _ he => (nomatch he), fun t c off he => (nomatch he)⟩
    · exact ⟨fun _ _ he => (nomatch he), fun t c off he => (nomatch he)⟩
  case h_9 t x f =>
    split at h
    · rename_i r' hr
      unfold fieldR at h
      repeat' split at h
      all_goals cases h
      · exact ⟨fun _ _ he => (nomatch he), fun t c off he => (by cases he; exact ⟨x, by simp [Op.operands], _, _, hr⟩)⟩
      · exact ⟨fun _ _ he => (nomatch he), fun t c off he => (nomatch he)⟩
    · cases h
  case h_11 t x f =>
    split at h
    · rename_i r' i' hr hi
      unfold indexR at h
      repeat' split at h
      all_goals cases h
      · exact ⟨fun _ _ he => (nomatch he), fun t c off he => (nomatch he)⟩
      · exact ⟨fun _ _ he => (nomatch he), fun t c off he => (by cases he; exact ⟨x, by simp [Op.operands], _, _, hr⟩)⟩
      · exact ⟨fun _ _ he => (nomatch he), fun t c off he => (nomatch he)⟩
    · cases h
  all_goals
    repeat' split at h
    all_goals cases h
    all_goals exact ⟨fun _ _ he => (nomatch he), fun t c off he => (nomatch he)⟩

theorem Refs.put {L : List Nat} {n : Nat} (hI : Refs L n σ) {d : Option Nat} {r : R} (hb : ∀ c cells, r ≠ .box c cells) (hr : ∀ t c off, r = .ref t c off → t ∈ L) : Refs L n (σ.put d r) := by
  intro u hu
  rw [putr_regs]
  by_cases hd : u ∈ d.toList
  · simp only [hd, if_true]
    exact ⟨fun c cells he => absurd he (hb c cells), hr⟩
  · simp only [hd, if_false]
    exact hI u hu

theorem Refs.val {L : List Nat} {n : Nat} (hI : Refs L n σ) {d : Option Nat} {v : V} : Refs L n (σ.put d (.val v)) :=
  hI.put (fun _ _ h => by cases h) (fun _ _ _ h => by cases h)

theorem Refs.updBox {L : List Nat} {n : Nat} (hI : Refs L n σ) {d c cnt : Nat} {cells : List V} {H : List Ob} (hd : d < n → d ∈ L) : Refs L n { σ with regs := upd σ.regs d (.box c cells), cnt := cnt, heap := H } := by
  intro u hu
  simp only [upd]
  by_cases he : u = d
  · simp only [he, if_true]
    exact ⟨fun _ _ _ => hd (he ▸ hu), fun t c off h => by cases h⟩
  · simp only [he, if_false]
    exact hI u hu

theorem effL_refs {n : Nat} {d : Option Nat} {op : Op} (hI : Refs (C.locs f) n σ) (hst : effL C callf f σ d op = some σ') : Refs (C.locs f) n σ' := by
  have gen : ((∃ t, op = .alloc t) ∨ (∃ t x, op = .box t x) → ∀ e, d = some e → (C.locs f).contains e = false) →
      (∀ t x y r t' c off, op = .store t x y → evR σ x = some r → toPl r ≠ some (.loc t' c off)) → Refs (C.locs f) n σ' := fun hN hP => by
    obtain ⟨H, v, rfl, _⟩ := effL_same (τ := σ) (fun _ _ => ⟨rfl, rfl⟩) rfl hN hP hst
    exact Refs.val (σ := { σ with heap := H }) (fun u hu => hI u hu)
  cases op
  case alloc t =>
    cases hin : inLocs C f d with
    | false => exact gen (fun _ e he => by simpa [inLocs, he] using hin) (fun _ _ _ _ _ _ _ h => by cases h)
    | true =>
      simp only [effL] at hst
      split at hst
      · unfold newVar at hst
        cases d with
        | none => cases hst
        | some e =>
          simp only [inLocs] at hin
          simp only [hin, if_true, Option.some.injEq] at hst
          subst hst
          exact hI.updBox fun _ => by simpa using hin
      · cases hst
  case box t x =>
    cases hin : inLocs C f d with
    | false => exact gen (fun _ e he => by simpa [inLocs, he] using hin) (fun _ _ _ _ _ _ _ h => by cases h)
    | true =>
      simp only [effL] at hst
      split at hst
      · split at hst
        · unfold newVar at hst
          cases d with
          | none => cases hst
          | some e =>
            simp only [inLocs] at hin
            simp only [hin, if_true, Option.some.injEq] at hst
            subst hst
            exact hI.updBox fun _ => by simpa using hin
        · cases hst
      · cases hst
  case store t x y =>
    simp only [effL] at hst
    split at hst
    · rename_i r v h1 h2
      split at hst
      · rename_i p hp
        split at hst
        · rename_i σ1 h4
          cases hst
          refine Refs.val ?_
          unfold storeAt at h4
          split at h4
          · split at h4
            · rcases toPl_inv hp with ⟨t', c, off, rfl, rfl⟩ | ⟨id, off, rfl, rfl⟩
              · simp only [writeAt] at h4
                split at h4
                · rename_i c' cells hb
                  split at h4
                  · cases h4
                    exact hI.updBox fun hlt => (hI _ hlt).1 _ _ hb
                  · cases h4
                · cases h4
              · simp only [writeAt] at h4
                split at h4
                · split at h4
                  · cases h4; exact fun u hu => hI u hu
                  · cases h4
                · cases h4
            · cases h4
          · cases h4
        · cases hst
      · cases hst
    · cases hst
  all_goals exact gen (by rintro (⟨t, ht⟩ | ⟨t, x, ht⟩) <;> cases ht) (fun _ _ _ _ _ _ _ h => by cases h)

theorem stepL_refs {n : Nat} (ho : OpOk n o.op) (hI : Refs (C.locs f) n σ) (hst : stepL C callf f ops o σ = some σ') : Refs (C.locs f) n σ' := by
  unfold stepL at hst
  split at hst
  · unfold opL at hst
    split at hst
    · exact effL_refs hI hst
    · split at hst
      · rename_i r hr
        cases hst
        obtain ⟨h1, h2⟩ := valL_ref hr
        refine hI.put h1 fun t c off he => ?_
        obtain ⟨x, hx, c', off', hev⟩ := h2 t c off he
        exact hI.evd (ho x (by simpa using hx)) hev
      · cases hst
  · cases hst
    exact hI.val
  · cases hst

theorem stepK_inv (hst : stepK C callf f ops h base i σ = some σ') : ∃ o, ops[i]? = some o ∧ fitsAt h base i o σ = true ∧ stepL C callf f ops o σ = some σ' ∧ (h.calm.contains i = true → Keep base σ.heap σ'.heap) := by
  unfold stepK at hst
  split at hst
  · rename_i o ho
    split at hst
    · rename_i hf
      split at hst
      · rename_i σ1 h1
        split at hst
        · rename_i hc
          cases hst
          exact ⟨o, ho, hf, h1, hc⟩
        · cases hst
      · cases hst
    · cases hst
  · cases hst

theorem stepK_intro (ho : ops[i]? = some o) (hf : fitsAt h base i o σ = true) (h1 : stepL C callf f ops o σ = some σ') (hc : h.calm.contains i = true → Keep base σ.heap σ'.heap) : stepK C callf f ops h base i σ = some σ' := by
  unfold stepK
  simp only [ho, hf, if_true, h1, if_pos hc]

theorem wantedL_same {F : Foot} (hU : ∀ t ∈ o.looksAt ops, t ∈ F.U) (hA : ∀ t ∈ F.U, σ.regs t = τ.regs t) : wantedL ops σ o.guard = wantedL ops τ o.guard := by
  unfold wantedL
  split
  · rfl
  · rename_i j want hg
    split
    · rename_i t ht
      rw [hA t (hU t (by simp [Oper.looksAt, hg, ht]))]
    · rfl

theorem stepL_local (hA : ∀ t ∈ (footK C f ops h i o).U, σ.regs t = τ.regs t) (hcnt : (footK C f ops h i o).rc = true → σ.cnt = τ.cnt)
    (hheap : (footK C f ops h i o).rh = true → σ.heap = τ.heap ∨ (h.old.contains i = true ∧ (footK C f ops h i o).wh = false ∧ Keep base σ.heap τ.heap)) (hf : fitsAt h base i o σ = true)
    (hR : ∀ x ∈ o.op.operands.toList, ∀ t c off, evR σ x = some (.ref t c off) → t ∈ C.locs f)
    (hstep : stepL C callf f ops o σ = some σ') : ∃ τ', stepL C callf f ops o τ = some τ' ∧ Moves (footK C f ops h i o) σ' τ τ' := by
  unfold stepL at *
  rw [← wantedL_same (footK_U C f ops h i o) hA]
  split at hstep
  · rename_i hw
    try simp only [hw]
    exact opL_local hA hcnt hheap hf hR hstep
  · rename_i hw
    try simp only [hw]
    cases hstep
    refine ⟨_, rfl, fun t ht => ?_, fun t ht => ?_, ?_, ?_⟩
    · rw [putr_regs, putr_regs]
      by_cases hd : t ∈ o.dst.toList
      · simp only [hd, if_true]
      · simp only [hd, if_false]
        exact (hA t ((footK_W C f ops h i o t ht).resolve_left hd)).symm
    · rw [putr_regs]
      have : t ∉ o.dst.toList := fun hd => ht (footK_D C f ops h i o t hd)
      simp only [this, if_false]
    · rw [putr_cnt, putr_cnt]
      split
      · rename_i hc; exact (hcnt hc).symm
      · rfl
    · rw [putr_heap, putr_heap]
      split
      · rename_i hc
        rcases hheap (footK_wr C f ops h i o hc) with h1 | h1
        · exact h1.symm
        · rw [hc] at h1; exact absurd h1.2.1 (by decide)
      · rfl
  · cases hstep

theorem stepK_local (ho : ops[i]? = some o) (hA : ∀ t ∈ (footK C f ops h i o).U, σ.regs t = τ.regs t) (hcnt : (footK C f ops h i o).rc = true → σ.cnt = τ.cnt)
    (hheap : (footK C f ops h i o).rh = true → σ.heap = τ.heap ∨ (h.old.contains i = true ∧ (footK C f ops h i o).wh = false ∧ Keep base σ.heap τ.heap))
    (hR : ∀ x ∈ o.op.operands.toList, ∀ t c off, evR σ x = some (.ref t c off) → t ∈ C.locs f)
    (hstep : stepK C callf f ops h base i σ = some σ') : ∃ τ', stepK C callf f ops h base i τ = some τ' ∧ Moves (footK C f ops h i o) σ' τ τ' := by
  obtain ⟨o', ho', hf, h1, hc⟩ := stepK_inv hstep
  rw [ho] at ho'
  cases ho'
  obtain ⟨τ', h2, h3⟩ := stepL_local hA hcnt hheap hf hR h1
  refine ⟨τ', stepK_intro ho ?_ h2 fun hcalm => ?_, h3⟩
  · rw [← fitsAt_same (same_of (footK_U C f ops h i o) hA)]; exact hf
  · have := h3.heap
    split at this
    · rename_i hw
      rcases hheap (footK_wr C f ops h i o hw) with h4 | h4
      · rw [this, ← h4]; exact hc hcalm
      · rw [hw] at h4; exact absurd h4.2.1 (by decide)
    · rw [this]; exact fun _ _ => rfl

/-- Two operations that do not meet: the first may be done later. -/
def apartK (h : Hint) (i j : Nat) (F G : Foot) : Bool :=
  F.W.all (fun t => !G.U.contains t && !G.W.contains t) && G.W.all (fun t => !F.U.contains t) && !(F.rc && G.rc) && !(F.wh && G.rh) &&
    (!(G.wh && F.rh) || (h.old.contains i && h.calm.contains j && !F.wh))

theorem commute {n : Nat} {j : Nat} {oi oj : Oper} {σ1 σ2 : St} (hi : ops[i]? = some oi) (hj : ops[j]? = some oj) (hoi : OpOk n oi.op) (hoj : OpOk n oj.op) (hI : Refs (C.locs f) n σ)
    (hap : apartK h i j (footK C f ops h i oi) (footK C f ops h j oj) = true) (h1 : stepK C callf f ops h base i σ = some σ1) (h2 : stepK C callf f ops h base j σ1 = some σ2) :
    ∃ τ1, stepK C callf f ops h base j σ = some τ1 ∧ stepK C callf f ops h base i τ1 = some σ2 := by
  generalize hF : footK C f ops h i oi = F at hap
  generalize hG : footK C f ops h j oj = G at hap
  simp only [apartK, Bool.and_eq_true, List.all_eq_true, Bool.not_eq_true', List.contains_eq_mem, decide_eq_false_iff_not, Bool.or_eq_true, decide_eq_true_eq, Bool.and_eq_false_imp] at hap
  obtain ⟨⟨⟨⟨a1, a2⟩, a3⟩, a4⟩, a5⟩ := hap
  have hI1 : Refs (C.locs f) n σ1 := by
    obtain ⟨o, ho, _, hs, _⟩ := stepK_inv h1
    rw [hi] at ho; cases ho
    exact stepL_refs hoi hI hs
  have rf : ∀ {ρ : St} {op : Op}, Refs (C.locs f) n ρ → OpOk n op → ∀ x ∈ op.operands.toList, ∀ t c off, evR ρ x = some (.ref t c off) → t ∈ C.locs f := fun hr ho x hx t c off he => hr.evd (ho x (by simpa using hx)) he
  have frame : ∀ {k : Nat} {ok : Oper} {ρ ρ1 : St}, ops[k]? = some ok → OpOk n ok.op → Refs (C.locs f) n ρ → stepK C callf f ops h base k ρ = some ρ1 → Moves (footK C f ops h k ok) ρ1 ρ ρ1 := fun hk hok hr hs => by
    obtain ⟨ρ', k1, k2⟩ := stepK_local hk (fun _ _ => rfl) (fun _ => rfl) (fun _ => .inl rfl) (rf hr hok) hs
    rw [hs] at k1; cases k1; exact k2
  have m1 := frame hi hoi hI h1
  have m2 := frame hj hoj hI1 h2
  rw [hF] at m1
  rw [hG] at m2
  have wrF : F.wh = true → F.rh = true := by rw [← hF]; exact footK_wr C f ops h i oi
  have wrG : G.wh = true → G.rh = true := by rw [← hG]; exact footK_wr C f ops h j oj
  obtain ⟨τ1, t1, t2⟩ := stepK_local (σ := σ1) (τ := σ) hj (fun t ht => m1.k t fun hw => by rw [hG] at ht; exact (a1 t hw).1 ht)
    (fun hc => by rw [hG] at hc; have := m1.cnt; by_cases hr : F.rc = true; · rw [a3 hr] at hc; cases hc
                  · rw [if_neg hr] at this; exact this)
    (fun hc => by rw [hG] at hc; have := m1.heap; by_cases hr : F.wh = true; · rw [a4 hr] at hc; cases hc
                  · rw [if_neg hr] at this; exact .inl this) (rf hI1 hoj) h2
  rw [hG] at t2
  have mt := frame hj hoj hI t1
  rw [hG] at mt
  have hIτ : Refs (C.locs f) n τ1 := by
    obtain ⟨o, ho, _, hs, _⟩ := stepK_inv t1
    rw [hj] at ho; cases ho
    exact stepL_refs hoj hI hs
  obtain ⟨σ2', u1, u2⟩ := stepK_local (σ := σ) (τ := τ1) hi (fun t ht => (mt.k t fun hw => by rw [hF] at ht; exact a2 t hw ht).symm)
    (fun hc => by rw [hF] at hc; have := mt.cnt; rw [if_neg (by rw [a3 hc]; decide)] at this; exact this.symm)
    (fun hc => by
      rw [hF] at hc ⊢
      by_cases hw : G.wh = true
      · rcases a5 with a5 | a5
        · rw [a5 hw] at hc; cases hc
        · obtain ⟨o, ho, _, _, hk⟩ := stepK_inv t1
          exact .inr ⟨by simpa using a5.1.1, a5.2, hk (by simpa using a5.1.2)⟩
      · have := mt.heap; rw [if_neg hw] at this; exact .inl this.symm) (rf hI hoi) h1
  rw [hF] at u2
  refine ⟨τ1, t1, ?_⟩
  rw [u1]
  congr 1
  have er : σ2'.regs = σ2.regs := by
    funext t
    by_cases hw : t ∈ F.W
    · rw [u2.w t hw, m2.k t (a1 t hw).2]
    · rw [u2.k t hw]
      by_cases hg : t ∈ G.W
      · rw [t2.w t hg]
      · rw [t2.k t hg, m2.k t hg, m1.k t hw]
  have ec : σ2'.cnt = σ2.cnt := by
    have x1 := u2.cnt; have x2 := t2.cnt; have x3 := m2.cnt; have x4 := m1.cnt
    by_cases hr : F.rc = true
    · rw [if_pos hr] at x1; rw [if_neg (by rw [a3 hr]; decide)] at x3; rw [x1, x3]
    · rw [if_neg hr] at x1 x4
      rw [x1]
      by_cases hg : G.rc = true
      · rw [if_pos hg] at x2; exact x2
      · rw [if_neg hg] at x2 x3; rw [x2, x3, x4]
  have eh : σ2'.heap = σ2.heap := by
    have x1 := u2.heap; have x2 := t2.heap; have x3 := m2.heap; have x4 := m1.heap
    by_cases hr : F.wh = true
    · have hg : ¬ G.wh = true := fun hg => by have := a4 hr; rw [wrG hg] at this; cases this
      rw [if_pos hr] at x1; rw [if_neg hg] at x3; rw [x1, x3]
    · rw [if_neg hr] at x1 x4
      rw [x1]
      by_cases hg : G.wh = true
      · rw [if_pos hg] at x2; exact x2
      · rw [if_neg hg] at x2 x3; rw [x2, x3, x4]
  cases σ2'; cases σ2; simp only at er ec eh; subst er ec eh; rfl

theorem front {n : Nat} {oi : Oper} {β : List Nat} (hi : ops[i]? = some oi) (hops : OpsOk n ops) :
    ∀ {α : List Nat} {σ σ' : St}, Refs (C.locs f) n σ → (∀ a ∈ α, ∀ oa, ops[a]? = some oa → apartK h a i (footK C f ops h a oa) (footK C f ops h i oi) = true) →
      runK C callf f ops h base (α ++ i :: β) σ = some σ' → ∃ σ1, stepK C callf f ops h base i σ = some σ1 ∧ runK C callf f ops h base (α ++ β) σ1 = some σ'
  | [], σ, σ', hI, _, hr => by
    simp only [List.nil_append, runK] at hr ⊢
    split at hr
    · rename_i σ1 h1; exact ⟨σ1, h1, hr⟩
    · cases hr
  | a :: α, σ, σ', hI, hap, hr => by
    simp only [List.cons_append, runK] at hr ⊢
    split at hr
    · rename_i σa ha
      obtain ⟨oa, hoa, _, hsa, _⟩ := stepK_inv ha
      have mem : ∀ {k : Nat} {o : Oper}, ops[k]? = some o → OpOk n o.op := fun hk => (hops _ (by simpa using Array.mem_of_getElem? hk)).1
      obtain ⟨σ1, k1, k2⟩ := front hi hops (stepL_refs (mem hoa) hI hsa) (fun b hb => hap b (List.mem_cons_of_mem _ hb)) hr
      obtain ⟨τ1, t1, t2⟩ := commute hoa hi (mem hoa) (mem hi) hI (hap a (by simp) oa hoa) ha k1
      exact ⟨τ1, t1, by rw [t2]; exact k2⟩
    · cases hr

end
end Go.Lite
end

section
namespace Go.Lite
open Go
set_option linter.unusedSimpArgs false
set_option linter.unusedVariables false

section
variable {P : Program} {C : Ctx} {callf : CallF} {f : Nat} {σ τ σ' : St} {ops : Array Oper} {h : Hint} {base i : Nat} {o : Oper} {μ : Mu} {β : List Nat} {a : Act} {w : World}

theorem stepL_sound (hty : TysOk P C.ty) (hcall : CallOk P callf) {ro : Option Nat} {Q : Exit → Act → World → Prop} {K : Act → World → Prop} (hs : Sim (C.locs f) σ μ β a w) (hop : OpsOk a.tmps.size ops) (hi : ops[i]? = some o)
    (h : stepL C callf f ops o σ = some σ') (hk : ∀ a' w', Leads (C.locs f) σ μ β a w σ' a' w' → K a' w') : wpOpIn (rf ro) 0 P ops Q i K a w := by
  unfold wpOpIn
  simp only [hi]
  have hmem : o ∈ ops.toList := by simpa using Array.mem_of_getElem? hi
  obtain ⟨ho, hd⟩ := hop o hmem
  unfold stepL at h
  split at h
  · rename_i hw
    rw [wanted_sound hs (fun o ho => (hop o ho).2) hw]
    simp only [if_true]
    exact opL_sound hty hcall hs o ho hd h ro _ _ hk
  · rename_i hw
    cases h
    rw [wanted_sound hs (fun o ho => (hop o ho).2) hw]
    simp only [Bool.false_eq_true, if_false]
    exact ⟨fun _ _ => trivial, hk _ _ (Leads.put hs hd (r := .val (.tup [])) (u := undef) tup0 trivial)⟩
  · cases h

/-- What a set that holds all that its members wait for holds with 'i'. -/
def Behind (ops : Array Oper) (a i : Nat) : Prop := ∀ S : Nat → Prop, (∀ (j : Nat) (o : Oper), ops[j]? = some o → S j → ∀ e ∈ o.after, Region.binds .any e = true → S e.on) → S i → S a

def NoEdge (ops : Array Oper) (a i : Nat) : Prop := ∀ o, ops[a]? = some o → ∀ e ∈ o.after, Region.binds .any e = true → e.on ≠ i

def ApartAt (C : Ctx) (f : Nat) (ops : Array Oper) (h : Hint) (a i : Nat) : Prop := ∀ oa oi, ops[a]? = some oa → ops[i]? = some oi → apartK h a i (footK C f ops h a oa) (footK C f ops h i oi) = true

theorem any_sound (hty : TysOk P C.ty) (hcall : CallOk P callf) {ro : Option Nat} {Q : Exit → Act → World → Prop}
    (hedge : ∀ (i : Nat) (o : Oper), ops[i]? = some o → ∀ e ∈ o.after, Region.binds .any e = true → e.on < ops.size ∧ e.on ≠ i) :
    ∀ (fuel : Nat) {rest : List Nat} {listed : Array Bool} {σ : St} {μ : Mu} {β : List Nat} {a : Act} {w : World}, rest.length = fuel → Sim (C.locs f) σ μ β a w → OpsOk a.tmps.size ops →
      rest.Pairwise (fun a i => NoEdge ops a i ∧ (Behind ops a i ∨ ApartAt C f ops h a i)) → rest.Nodup → (∀ j, j ∈ rest ↔ listed[j]? = some false) → listed.size = ops.size →
      (∀ (j : Nat) (o : Oper), ops[j]? = some o → listed[j]? = some true → ∀ e ∈ o.after, Region.binds .any e = true → listed[e.on]? = some true) →
      runK C callf f ops h base rest σ = some σ' → (∀ a' w', Leads (C.locs f) σ μ β a w σ' a' w' → Q .normal a' w') → wpAnyIn (rf ro) 0 P .any ops Q fuel listed a w := by
  have getT : ∀ {l : Array Bool} {j : Nat}, l.getD j true = false ↔ l[j]? = some false := fun {l j} => by
    rw [Array.getD_eq_getD_getElem?]; cases l[j]? with
    | none => simp
    | some b => simp
  have getF : ∀ {l : Array Bool} {j : Nat}, l.getD j false = true ↔ l[j]? = some true := fun {l j} => by
    rw [Array.getD_eq_getD_getElem?]; cases l[j]? with
    | none => simp
    | some b => simp
  intro fuel
  induction fuel with
  | zero =>
    intro rest listed σ μ β a w hl hs hop hp hn hr hz hcl hrun hq
    cases List.length_eq_zero_iff.1 hl
    simp only [runK, Option.some.injEq] at hrun
    subst hrun
    refine ⟨?_, hq a w (.refl hs)⟩
    refine List.eq_nil_iff_forall_not_mem.2 fun j hj => ?_
    have := (mem_ready.1 hj).1
    exact absurd ((hr j).2 (getT.1 this)) (by simp)
  | succ fuel ih =>
    intro rest listed σ μ β a w hl hs hop hp hn hr hz hcl hrun hq
    refine ⟨fun hempty => ?_, fun i hi => ?_⟩
    · cases rest with
      | nil => cases hl
      | cons x xs =>
        exfalso
        have hx := (hr x).1 (by simp)
        have hxs : x < ops.size := hz ▸ (Array.getElem?_eq_some_iff.1 hx).1
        have : x ∈ Region.ready .any ops listed := by
          refine mem_ready.2 ⟨getT.2 hx, ops[x], by simp [hxs], fun e he hb => getF.2 ?_⟩
          obtain ⟨h1, h2⟩ := hedge x _ (by simp [hxs]) e he hb
          cases hv : listed[e.on]? with
          | none => rw [Array.getElem?_eq_none_iff] at hv; omega
          | some b =>
            cases b with
            | true => rfl
            | false =>
              have hm := (hr e.on).2 hv
              simp only [List.mem_cons, h2, false_or] at hm
              exact absurd rfl ((List.pairwise_cons.1 hp).1 e.on hm |>.1 _ (by simp [hxs]) e he hb)
        rw [hempty] at this
        cases this
    · obtain ⟨h1, oi, hoi, hpre⟩ := mem_ready.1 hi
      have hir := (hr i).2 (getT.1 h1)
      obtain ⟨α, γ, rfl⟩ := List.append_of_mem hir
      have hni : i ∉ α ∧ i ∉ γ := by
        rw [List.nodup_append] at hn
        simp only [List.nodup_cons, List.mem_cons] at hn
        exact ⟨fun hm => hn.2.2 i hm i (.inl rfl) rfl, hn.2.1.1⟩
      obtain ⟨hpα, hpγ, hpx⟩ := List.pairwise_append.1 hp
      have hfr := front hoi hop (base := base) (h := h) (callf := callf) (C := C) (f := f) (β := γ) (α := α) hs.refs (fun x hx ox hox => by
        rcases (hpx x hx i (by simp)).2 with hb | hb
        · exfalso
          have := hb (fun j => listed[j]? = some true ∨ j = i) (fun j oj hoj hj e he hbd => by
            rcases hj with hj | rfl
            · exact .inl (hcl j oj hoj hj e he hbd)
            · rw [hoi] at hoj; cases hoj
              exact .inl (getF.1 (hpre e he hbd))) (.inr rfl)
          have hxu := (hr x).1 (List.mem_append_left _ hx)
          rcases this with h3 | rfl
          · rw [hxu] at h3; cases h3
          · exact hni.1 hx
        · exact hb ox oi hox hoi) hrun
      obtain ⟨σ1, k1, k2⟩ := hfr
      obtain ⟨o', ho', _, hst, _⟩ := stepK_inv k1
      rw [hoi] at ho'; cases ho'
      refine stepL_sound hty hcall hs hop hoi hst fun a1 w1 hl1 => ?_
      obtain ⟨μ1, β1, g1, g2, g3, g4, g5, g6⟩ := hl1
      have hne : ∀ j, j ≠ i → (listed.setIfInBounds i true)[j]? = listed[j]? := fun j hj => by rw [Array.getElem?_setIfInBounds_ne (Ne.symm hj)]
      have heq : (listed.setIfInBounds i true)[i]? = some true := by
        have hlt : i < listed.size := (Array.getElem?_eq_some_iff.1 (getT.1 h1)).1
        rw [Array.getElem?_setIfInBounds]
        simp [hlt]
      refine ih (rest := α ++ γ) ?_ g1 (by rw [g4]; exact hop) ?_ ?_ ?_ (by simp [hz]) ?_ k2 fun a' w' hl' => hq a' w' (hl'.then g2 g3 g4 g5 g6)
      · simp only [List.length_append, List.length_cons] at hl ⊢; omega
      · exact List.pairwise_append.2 ⟨hpα, (List.pairwise_cons.1 hpγ).2, fun x hx y hy => hpx x hx y (List.mem_cons_of_mem _ hy)⟩
      · rw [List.nodup_append] at hn ⊢
        simp only [List.nodup_cons, List.mem_cons] at hn
        exact ⟨hn.1, hn.2.1.2, fun x hx y hy => hn.2.2 x hx y (.inr hy)⟩
      · intro j
        by_cases hj : j = i
        · subst hj
          rw [heq]
          simp [hni.1, hni.2]
        · rw [hne j hj, ← hr j]
          simp [hj]
      · intro j oj hoj hj e he hb
        have hon : listed[e.on]? = some true := by
          by_cases hji : j = i
          · subst hji; rw [hoi] at hoj; cases hoj; exact getF.1 (hpre e he hb)
          · rw [hne j hji] at hj; exact hcl j oj hoj hj e he hb
        by_cases hei : e.on = i
        · rw [hei]; exact heq
        · rw [hne _ hei]; exact hon

/-! What is looked up in the code. -/

def edgeTo (o : Oper) (i : Nat) : Bool := o.after.any fun e => Region.binds .any e && e.on == i

def maskOf (acc : List Nat) (o : Oper) : Nat := o.after.toList.foldl (fun s e => if Region.binds .any e then s ||| 2 ^ e.on ||| acc.getD e.on 0 else s) 0

def masksOf : List Oper → List Nat → List Nat
  | [], acc => acc
  | o :: os, acc => masksOf os (acc ++ [maskOf acc o])

theorem maskOf_sound {S : Nat → Prop} {acc : List Nat} (hacc : ∀ k x, (acc.getD k 0).testBit x = true → S k → S x) {o : Oper} (ho : ∀ e ∈ o.after, Region.binds .any e = true → S e.on) {x : Nat}
    (h : (maskOf acc o).testBit x = true) : S x := by
  unfold maskOf at h
  have key : ∀ (es : List Edge) (s : Nat), (∀ e ∈ es, Region.binds .any e = true → S e.on) → (s.testBit x = true → S x) →
      ((es.foldl (fun s e => if Region.binds .any e then s ||| 2 ^ e.on ||| acc.getD e.on 0 else s) s).testBit x = true → S x) := by
    intro es
    induction es with
    | nil => intro s _ hs hx; exact hs hx
    | cons e es ih =>
      intro s he hs hx
      refine ih _ (fun e' h' => he e' (List.mem_cons_of_mem _ h')) ?_ hx
      intro hb
      dsimp only at hb
      split at hb
      · rename_i hbind
        rw [Nat.testBit_or, Nat.testBit_or, Bool.or_eq_true, Bool.or_eq_true] at hb
        rcases hb with (hb | hb) | hb
        · exact hs hb
        · rw [Nat.testBit_two_pow] at hb
          have : e.on = x := by simpa using hb
          subst this
          exact he e (by simp) hbind
        · exact hacc _ _ hb (he e (by simp) hbind)
      · exact hs hb
  exact key _ _ (fun e he => ho e (by simpa using he)) (by simp) h

theorem masksOf_sound {S : Nat → Prop} (hS : ∀ (j : Nat) (o : Oper), ops[j]? = some o → S j → ∀ e ∈ o.after, Region.binds .any e = true → S e.on) :
    ∀ (os : List Oper) (acc : List Nat), ops.toList.drop acc.length = os → (∀ k x, (acc.getD k 0).testBit x = true → S k → S x) → ∀ k x, ((masksOf os acc).getD k 0).testBit x = true → S k → S x
  | [], acc, _, hacc => hacc
  | o :: os, acc, hd, hacc => by
    have hi : ops[acc.length]? = some o := by
      have := congrArg (fun l => l[0]?) hd
      simpa using this
    refine masksOf_sound hS os _ (by have := congrArg List.tail hd; simpa using this) ?_
    intro k x hb hk
    rcases Nat.lt_trichotomy k acc.length with hlt | heq | hgt
    · refine hacc k x ?_ hk
      simpa [List.getD_eq_getElem?_getD, List.getElem?_append_left hlt] using hb
    · subst heq
      refine maskOf_sound hacc (fun e he hbd => hS _ o hi hk e he hbd) (x := x) ?_
      simpa [List.getD_eq_getElem?_getD] using hb
    · simp [List.getD_eq_getElem?_getD, List.getElem?_append_right (Nat.le_of_lt hgt)] at hb
      have : k - acc.length ≠ 0 := by omega
      cases hk' : k - acc.length with
      | zero => exact absurd hk' this
      | succ m => simp [hk'] at hb

def allPairs (p : Nat → Nat → Bool) : List Nat → Bool
  | [] => true
  | x :: xs => xs.all (p x) && allPairs p xs

theorem allPairs_spec {p : Nat → Nat → Bool} : ∀ {l : List Nat}, allPairs p l = true → l.Pairwise (fun a b => p a b = true)
  | [], _ => .nil
  | x :: xs, h => by
    simp only [allPairs, Bool.and_eq_true, List.all_eq_true] at h
    exact .cons h.1 (allPairs_spec h.2)

def pairOk (C : Ctx) (f : Nat) (ops : Array Oper) (h : Hint) (ms : List Nat) (a i : Nat) : Bool :=
  match ops[a]?, ops[i]? with
  | some oa, some oi => !edgeTo oa i && ((ms.getD i 0).testBit a || apartK h a i (footK C f ops h a oa) (footK C f ops h i oi))
  | _, _ => true

/-- May the region be read in the hint's order? -/
def drawOk (C : Ctx) (f : Nat) (ops : Array Oper) (h : Hint) : Bool :=
  h.ord.length == ops.size && h.ord.all (fun i => decide (i < ops.size)) && (List.range ops.size).all (fun i => h.ord.contains i) && allPairs (fun a b => a != b) h.ord &&
    ops.toList.zipIdx.all (fun x => x.1.after.all fun e => !Region.binds .any e || (decide (e.on < ops.size) && e.on != x.2)) && allPairs (pairOk C f ops h (masksOf ops.toList [])) h.ord

theorem drawOk_sound (hty : TysOk P C.ty) (hcall : CallOk P callf) {ro : Option Nat} {Q : Exit → Act → World → Prop} (hd : drawOk C f ops h = true) (hs : Sim (C.locs f) σ μ β a w) (hop : OpsOk a.tmps.size ops)
    (hrun : runK C callf f ops h base h.ord σ = some σ') (hq : ∀ a' w', Leads (C.locs f) σ μ β a w σ' a' w' → Q .normal a' w') : wpAnyIn (rf ro) 0 P .any ops Q ops.size (Array.replicate ops.size false) a w := by
  simp only [drawOk, Bool.and_eq_true, beq_iff_eq] at hd
  obtain ⟨⟨⟨⟨⟨d1, d0⟩, d2⟩, d3⟩, d4⟩, d5⟩ := hd
  have hnd : h.ord.Nodup := (allPairs_spec d3).imp fun hne => by simpa using hne
  have hmem : ∀ j, j ∈ h.ord ↔ j < ops.size := fun j =>
    ⟨fun hj => by simpa using List.all_eq_true.1 d0 j hj, fun hj => by simpa using List.all_eq_true.1 d2 j (List.mem_range.2 hj)⟩
  refine any_sound hty hcall ?_ ops.size d1 hs hop ?_ hnd ?_ (by simp) ?_ hrun hq
  · intro i o ho e he hb
    have hx : (o, i) ∈ ops.toList.zipIdx := by
      rw [List.mk_mem_zipIdx_iff_getElem?]
      simpa using ho
    have := List.all_eq_true.1 d4 _ hx
    have := Array.all_eq_true_iff_forall_mem.1 this e he
    simpa [hb] using this
  · refine (allPairs_spec d5).imp_of_mem fun {x y} hx hy hp => ?_
    have hxs := (hmem x).1 hx
    have hys := (hmem y).1 hy
    unfold pairOk at hp
    rw [Array.getElem?_eq_getElem hxs, Array.getElem?_eq_getElem hys] at hp
    simp only [Bool.and_eq_true, Bool.not_eq_true', Bool.or_eq_true] at hp
    refine ⟨fun o ho e he hb heq => ?_, hp.2.imp (fun hm S hS hy => ?_) fun hap oa oi hoa hoi => ?_⟩
    · rw [Array.getElem?_eq_getElem hxs] at ho
      cases ho
      have := hp.1
      unfold edgeTo at this
      rw [Array.any_eq_false'] at this
      exact absurd (this e he) (by simp [hb, heq])
    · exact masksOf_sound hS ops.toList [] rfl (by simp) y x hm hy
    · rw [Array.getElem?_eq_getElem hxs] at hoa
      rw [Array.getElem?_eq_getElem hys] at hoi
      cases hoa; cases hoi
      exact hap
  · intro j
    rw [hmem]
    rw [Array.getElem?_replicate]
    by_cases hj : j < ops.size <;> simp [hj]
  · intro j o ho hj
    simp [Array.getElem?_replicate] at hj

/-- The order of the text. -/
def plainHint (ops : Array Oper) : Hint := ⟨List.range ops.size, [], [], []⟩

theorem runK_plain : ∀ (k : Nat) (os : List Oper) (σ : St), ops.toList.drop k = os → runK C callf f ops (plainHint ops) base (List.range' k os.length) σ = runL C callf f ops os σ := by
  intro k os
  induction os generalizing k with
  | nil => intro σ _; rfl
  | cons o os ih =>
    intro σ h
    have hi : ops[k]? = some o := by
      have := congrArg (fun l => l[0]?) h
      simpa using this
    have hd : ops.toList.drop (k + 1) = os := by
      have := congrArg List.tail h
      simpa using this
    rw [List.length_cons, List.range'_succ]
    have hfit : fitsAt (plainHint ops) base k o σ = true := by simp [fitsAt, plainHint]
    have hcalm : ∀ σ1 : St, ((plainHint ops).calm.contains k = true → Keep base σ.heap σ1.heap) := fun σ1 hc => by simp [plainHint] at hc
    simp only [runK, stepK, hi, runL, hfit, if_true, if_pos (hcalm _)]
    cases stepL C callf f ops o σ with
    | none => rfl
    | some σ1 => exact ih (k + 1) σ1 hd

def hintOf (C : Ctx) (f id : Nat) (ops : Array Oper) : Hint := (C.ord f id).getD (plainHint ops)

theorem regionL_runK {id : Nat} (hr : regionL C callf f id ops true σ = some σ') : runK C callf f ops (hintOf C f id ops) σ.heap.length (hintOf C f id ops).ord σ = some σ' := by
  unfold regionL at hr
  unfold hintOf
  cases hc : C.ord f id with
  | some h => rw [hc] at hr; exact hr
  | none =>
    rw [hc] at hr
    simp only [Option.getD_none]
    rw [← hr]
    show runK C callf f ops (plainHint ops) _ (List.range ops.size) σ = _
    rw [List.range_eq_range', ← Array.length_toList]
    exact runK_plain 0 ops.toList σ rfl

end
end Go.Lite
end

section
namespace Go.Lite
open Go
set_option linter.unusedSimpArgs false
set_option linter.unusedVariables false

section
variable {P : Program} {C : Ctx} {μ μ' : Mu} {w w' : World} {H H' : List Ob}

/-! ### What is new is forgotten -/

theorem lowVs_get : ∀ {cs : List V} {i : Nat} {v : V}, lowVs H cs → cs[i]? = some v → lowV H v
  | [], i, v, _, h => by simp at h
  | c :: cs, 0, v, hl, h => by simp at h; subst h; simp only [lowVs] at hl; exact hl.1
  | c :: cs, i + 1, v, hl, h => by simp only [lowVs] at hl; exact lowVs_get hl.2 (by simpa using h)

theorem VR.down (hle : μ.le μ') (hmap : ∀ id, thereAt H id → ∃ m, μ id = some m) {v : V} {u : Value} (h : VR μ' v u) : lowV H v → VR μ v u := by
  have key : ∀ id m, thereAt H id → μ' id = some m → μ id = some m := fun id m ht hm => by
    obtain ⟨m', h1⟩ := hmap id ht
    rw [hle _ _ h1] at hm
    cases hm; exact h1
  induction h with
  | undef u => exact fun _ => .undef u
  | int k n => exact fun _ => .int k n
  | bool b => exact fun _ => .bool b
  | str b => exact fun _ => .str b
  | ptrN => exact fun _ => .ptrN
  | ptr id off m h => exact fun hl => .ptr id off m (key _ _ (by simpa only [lowV] using hl) h)
  | slcN => exact fun _ => .slcN
  | slc id off n c m h hn hr hre => exact fun hl => .slc id off n c m (key _ _ (by simpa only [lowV] using hl) h) hn hr hre
  | slcZ id off m a h hr => exact fun hl => .slcZ id off m a (key _ _ (by simpa only [lowV] using hl) h) hr
  | agg cs us hl h ih => exact fun hl' => .agg cs us hl fun i v u hv hu => ih i v u hv hu (lowVs_get (by simpa only [lowV] using hl') hv)
  | tup cs us hl h ih => exact fun hl' => .tup cs us hl fun i v u hv hu => ih i v u hv hu (lowVs_get (by simpa only [lowV] using hl') hv)
  | fn f az bs us vs hl h hl' h' ih ih' =>
    intro hlo
    simp only [lowV] at hlo
    exact .fn f az bs us vs hl (fun i v u hv hu => ih i v u hv hu (lowVs_get hlo.1 hv)) hl' (fun i v u hv hu => ih' i v u hv hu (lowVs_get hlo.2 hv))
  | nilfn => exact fun _ => .nilfn
  | niface => exact fun _ => .niface
  | someif t u => exact fun _ => .someif t u

theorem VR.down2 (hle : μ.le μ') {v : V} {u u0 : Value} (h : VR μ' v u) : VR μ v u0 → VR μ v u := by
  have key : ∀ id m m0, μ id = some m0 → μ' id = some m → μ id = some m := fun id m m0 h0 hm => by
    rw [hle _ _ h0] at hm
    cases hm; exact h0
  induction h generalizing u0 with
  | undef u => exact fun _ => .undef u
  | int k n => exact fun _ => .int k n
  | bool b => exact fun _ => .bool b
  | str b => exact fun _ => .str b
  | ptrN => exact fun _ => .ptrN
  | ptr id off m h => intro h0; cases h0 with | ptr _ _ m0 h1 => exact .ptr id off m (key _ _ _ h1 h)
  | slcN => exact fun _ => .slcN
  | slc id off n c m h hn hr hre => intro h0; cases h0 with
    | slc _ _ _ c0 m0 h1 => exact .slc id off n c m (key _ _ _ h1 h) hn hr hre
    | slcZ _ _ m0 a0 h1 => exact .slc id off _ c m (key _ _ _ h1 h) hn hr hre
  | slcZ id off m a h hr => intro h0; cases h0 with
    | slc _ _ _ c0 m0 h1 => exact .slcZ id off m a (key _ _ _ h1 h) hr
    | slcZ _ _ m0 a0 h1 => exact .slcZ id off m a (key _ _ _ h1 h) hr
  | agg cs us hl h ih => intro h0; cases h0 with
    | agg _ us0 hl0 g0 =>
      refine .agg cs us hl fun i v u hv hu => ?_
      have hi : i < us0.size := by rw [← hl0]; exact (List.getElem?_eq_some_iff.1 hv).1
      exact ih i v u hv hu (g0 i v us0[i] hv (by simp [hi]))
  | tup cs us hl h ih => intro h0; cases h0 with
    | tup _ us0 hl0 g0 =>
      refine .tup cs us hl fun i v u hv hu => ?_
      have hi : i < us0.size := by rw [← hl0]; exact (List.getElem?_eq_some_iff.1 hv).1
      exact ih i v u hv hu (g0 i v us0[i] hv (by simp [hi]))
  | fn f az bs us vs hl h hl' h' ih ih' => intro h0; cases h0 with
    | fn _ _ _ us0 vs0 hl0 g0 hl0' g0' =>
      refine .fn f az bs us vs hl (fun i v u hv hu => ?_) hl' (fun i v u hv hu => ?_)
      · have hi : i < us0.size := by rw [← hl0]; exact (List.getElem?_eq_some_iff.1 hv).1
        exact ih i v u hv hu (g0 i v us0[i] hv (by simp [hi]))
      · have hi : i < vs0.size := by rw [← hl0']; exact (List.getElem?_eq_some_iff.1 hv).1
        exact ih' i v u hv hu (g0' i v vs0[i] hv (by simp [hi]))
  | nilfn => exact fun _ => .nilfn
  | niface => exact fun _ => .niface
  | someif t u => exact fun _ => .someif t u

theorem gc_sound (hs : HSim H μ w) (h : HGoes H μ w H' μ' w') {r : V} {u : Value} (hv : VR μ' r u) : ∃ μ'', HGoes H μ w (gcH H H' r) μ'' w' ∧ VR μ'' r u := by
  unfold gcH
  split
  · rename_i hc
    obtain ⟨⟨T, rfl⟩, hlow⟩ := hc
    have old : ∀ (id : Nat) (o : Ob), H[id]? = some o → (H ++ T)[id]? = some o := fun id o ho => by
      rw [List.getElem?_append_left (List.getElem?_eq_some_iff.1 ho).1]; exact ho
    refine ⟨μ, ⟨⟨hs.dom, hs.map, fun id o m ho hm => ?_, hs.sep, fun id es cells m ho hm h3 => h.sim.plain id es cells m (old id _ ho) (h.mle _ _ hm) h3⟩, μ.le_refl, ⟨h.grow.size, h.grow.same, fun b hb => .inl hb, h.grow.os, h.grow.tape, h.grow.output, h.grow.drawn⟩, Lives.refl _ _ _⟩, ?_⟩
    · have h1 := h.sim.obj id o m (old id o ho) (h.mle _ _ hm)
      have h0 := hs.obj id o m ho hm
      cases o with
      | dead => trivial
      | mk own es cells =>
        refine ⟨h1.1, h1.2.1, h1.2.2.1, fun j v hj => ?_, h1.2.2.2.2.1, h1.2.2.2.2.2⟩
        obtain ⟨u, k1, k2⟩ := h1.2.2.2.1 j v hj
        obtain ⟨u0, _, k3⟩ := h0.2.2.2.1 j v hj
        exact ⟨u, k1, VR.down2 h.mle k2 k3⟩
    · exact VR.down h.mle (fun id ⟨own, es, cells, ht⟩ => hs.map id _ ht rfl) hv hlow
  · exact ⟨μ', h, hv⟩

/-! ### Results -/

def ResOk (n : Nat) : ResultVar → Prop
  | .tmp t => t < n
  | .cell t _ => t < n

variable {L : List Nat} {σ σ' : St} {β : List Nat} {a a' : Act}

def resOne (tmps : Array Value) : ResultVar → Sem Value
  | .tmp t => pure (tmps.getD t undef)
  | .cell a t => do loadVar t (← asAddr (tmps.getD a undef))

theorem resVar_sound (hty : TysOk P C.ty) (hs : Sim L σ μ β a w) {x : ResultVar} (hx : ResOk a.tmps.size x) {v : V} (h : resVar C σ x = some v) : ∃ u, (resOne a.tmps x).run P w = .ok u w ∧ VR μ v u := by
  cases x with
  | tmp t =>
    have := ev_sound hs (x := .tmp t) hx h
    refine ⟨_, rfl, ?_⟩
    simpa [Act.eval] using this
  | cell p t =>
    simp only [resVar] at h
    split at h
    · rename_i r h1
      split at h
      · rename_i pl h2
        unfold loadAt at h
        split at h
        · cases h
        · rename_i hz
          split at h
          · rename_i cells h4
            split at h
            · rename_i cs h5
              cases h
              obtain ⟨b, base, hu, hc⟩ := cellsAt_sound hs (evR_sound hs (x := .tmp p) hx h1) h2 h4
              obtain ⟨u, h6, h7⟩ := loadVar_sound (hty.of_size hz) hc h5
              have hu' : a.tmps.getD p undef = .pointer (some ⟨b, base + pl.off, none⟩) := by simpa [Act.eval] using hu
              exact ⟨u, by simp [resOne, hu', asAddr, h6], h7⟩
            · cases h
          · cases h
      · cases h
    · cases h

theorem resVars_sound (hty : TysOk P C.ty) (hs : Sim L σ μ β a w) : ∀ {xs : List ResultVar}, (∀ x ∈ xs, ResOk a.tmps.size x) → ∀ {vs : List V}, resVars C σ xs = some vs → ∃ us, (xs.mapM (resOne a.tmps)).run P w = .ok us w ∧ VL μ vs us
  | [], _, vs, h => by simp only [resVars, Option.some.injEq] at h; subst h; exact ⟨[], rfl, .nil⟩
  | x :: xs, hx, vs, h => by
    simp only [resVars] at h
    split at h
    · rename_i v vs' h1 h2
      cases h
      obtain ⟨u, k1, k2⟩ := resVar_sound hty hs (hx x (by simp)) h1
      obtain ⟨us, k3, k4⟩ := resVars_sound hty hs (fun y hy => hx y (List.mem_cons_of_mem _ hy)) h2
      exact ⟨u :: us, by simp [List.mapM_cons, k1, k3], .cons k2 k4⟩
    · cases h

theorem results_sound (hty : TysOk P C.ty) (hs : Sim L σ μ β a w) {F : Func} (hx : ∀ x ∈ F.results.toList, ResOk a.tmps.size x) {vs : List V} (h : resVars C σ F.results.toList = some vs) :
    ∃ u, (results F a.tmps).run P w = .ok u w ∧ VR μ (tupleOf vs) u := by
  obtain ⟨us, k1, k2⟩ := resVars_sound hty hs hx h
  have e : results F a.tmps = (do let vs ← F.results.mapM (resOne a.tmps); pure (if h : vs.size = 1 then vs[0] else .tuple vs)) := by
    unfold results
    congr 1
  have e2 : (F.results.mapM (resOne a.tmps)).run P w = .ok us.toArray w := by
    rw [Array.mapM_eq_mapM_toList]
    simp [k1]
  refine ⟨if h : us.toArray.size = 1 then us.toArray[0] else .tuple us.toArray, by rw [e]; simp [e2], ?_⟩
  cases k2 with
  | nil => exact .tup _ _ rfl (fun i v u hv => by simp at hv)
  | cons h1 h2 =>
    cases h2 with
    | nil => simpa [tupleOf] using h1
    | cons h2 h3 =>
      rw [dif_neg (by simp)]
      exact .tup _ _ (by simp [VL.length h3]) fun i v u hv hu => VL.get (.cons h1 (.cons h2 h3)) i v u hv (by simpa using hu)

/-! ### Calls -/

/-- A function that is given by hand. -/
def PrimOk (P : Program) (g : Nat) (pr : List V → List Ob → Option (V × List Ob)) : Prop :=
  ∀ (args : List V) (H : List Ob) (r : V) (H' : List Ob), pr args H = some (r, H') → ∀ (μ : Mu) (w : World) (us : Array Value), HSim H μ w → VL μ args us.toList →
    CallTo P g us w fun v w' => ∃ μ', HGoes H μ w H' μ' w' ∧ VR μ' r v

/-- A function of the program's. -/
structure FnOk (P : Program) (C : Ctx) (g : Nat) (F : Func) (c : Code) : Prop where
  func : P.funcs[g]? = some F
  body : F.body = some c
  name : (F.name == "runtime.NumGoroutine") = false
  code : CodeOk P C g F.ntmps c
  res : ∀ x ∈ F.results.toList, ResOk F.ntmps x

structure ProgOk (P : Program) (C : Ctx) : Prop where
  ty : TysOk P C.ty
  prim : ∀ g pr, C.prim g = some pr → PrimOk P g pr
  fn : ∀ g F c, C.fids g = true → C.funcs g = some F → F.body = some c → FnOk P C g F c

theorem ResOk.mono {n m : Nat} (h : n ≤ m) {x : ResultVar} (hx : ResOk n x) : ResOk m x := by
  cases x <;> exact Nat.lt_of_lt_of_le hx h

theorem frame_sim (hs : HSim H μ w) {args : List V} {us : Array Value} (ha : VL μ args us.toList) (k : Nat) : Sim L ⟨initRegs args, 0, H⟩ μ [] { tmps := us ++ Array.replicate k undef, defers := [] } w where
  heap := hs
  lenβ := rfl
  reg t ht := by
    show VR μ (args.getD t .undef) _
    have hl := VL.length ha
    rw [List.getD_eq_getElem?_getD]
    cases hv : args[t]? with
    | none => exact .undef _
    | some v =>
      have hlt : t < us.size := by rw [← Array.length_toList, ← hl]; exact (List.getElem?_eq_some_iff.1 hv).1
      have hu : us.toList[t]? = some us[t] := by simp [hlt]
      have := VL.get ha t v _ hv hu
      simpa [Array.getD_eq_getD_getElem?, Array.getElem?_append, hlt] using this
  box t c cells b ht h := by simp [initRegs] at h
  sepβ id o m b _ _ _ h := by cases h
  injβ c c' b h := by simp at h
  ltβ b h := by cases h
  uniq t t' c cells cells' _ _ h := by simp [initRegs] at h
  loc t c cells _ h := by simp [initRegs] at h
  defs := rfl

theorem callN_ok (hp : ProgOk P C) : ∀ n, CallOk P (callN C n) := by
  intro n
  induction n with
  | zero => intro g args H r H' h; cases h
  | succ n ih =>
    intro g args H r H' h μ w us hs ha
    simp only [callN] at h
    split at h
    · rename_i pr hpr
      exact hp.prim g pr hpr args H r H' h μ w us hs ha
    · split at h
      · rename_i hid
        split at h
        · rename_i F hF
          split at h
          · rename_i c hc
            have hfn := hp.fn g F c hid hF hc
            refine .inr ⟨by simp [callFunc, hfn.func, (by simpa using hfn.name : ¬F.name = "runtime.NumGoroutine"), hc], calls_of_wp hfn.func hc ?_⟩
            have hsim := frame_sim (L := C.locs g) hs ha (F.ntmps - us.size)
            have hsz : F.ntmps ≤ (us ++ Array.replicate (F.ntmps - us.size) undef).size := by simp; omega
            unfold finL at h
            have fin : ∀ {σ' : St} {vs : List V} {a' : Act} {w' : World}, resVars C σ' F.results.toList = some vs → r = tupleOf vs → H' = gcH H σ'.heap (tupleOf vs) →
                Leads (C.locs g) ⟨initRegs args, 0, H⟩ μ [] { tmps := us ++ Array.replicate (F.ntmps - us.size) undef, defers := [] } w σ' a' w' →
                a'.defers = [] ∧ ∃ v, (results F a'.tmps).run P w' = .ok v w' ∧ ∃ v', Ending.returned v = .returned v' ∧ ∃ μ', HGoes H μ w H' μ' w' ∧ VR μ' r v' := by
              intro σ' vs a' w' hv hr hH hl
              obtain ⟨μ', β', k1, k2, k3, k4, k5, k6⟩ := hl
              obtain ⟨u, h1, h2⟩ := results_sound hp.ty k1 (fun x hx => (hfn.res x hx).mono (by rw [k4]; exact hsz)) hv
              have hg : HGoes H μ w σ'.heap μ' w' := ⟨k1.heap, k2, ⟨k5.size, k5.same, fun b hb => k5.own b (hb.elim .inl fun hb => by cases hb), k5.os, k5.tape, k5.output, k5.drawn⟩, k6⟩
              obtain ⟨μ'', h3, h4⟩ := gc_sound hs hg h2
              exact ⟨k1.defs, u, h1, u, rfl, μ'', by rw [hH]; exact h3, by rw [hr]; exact h4⟩
            split at h
            · rename_i σ' hex
              split at h
              · rename_i vs hv
                cases h
                exact wpIn_rf.1 (exec_sound (ro := none) hp.ty ih c hsim (hfn.code.mono hsz) hex fun a' w' hl => fin hv rfl rfl hl)
              · cases h
            · rename_i σ' hex
              split at h
              · rename_i vs hv
                cases h
                exact wpIn_rf.1 (exec_sound (ro := none) hp.ty ih c hsim (hfn.code.mono hsz) hex fun a' w' hl => fin hv rfl rfl hl)
              · cases h
            · cases h
          · cases h
        · cases h
      · cases h

theorem DrawsOk.of {f id : Nat} {ops : Array Oper} (hty : TysOk P C.ty) (hm : P.follows .mixedOrders = true) (hd : drawOk C f ops (hintOf C f id ops) = true) : DrawsOk P C f id ops := by
  intro callf σ σ' μ β a w Q ro t hcall hs hop hr hq
  simp only [Region.schedule, hm, Bool.true_or, if_true]
  exact wpAnyIn_sound ops.size t _ _ _ (drawOk_sound hty hcall hd hs hop (regionL_runK hr) hq)

end
end Go.Lite
end

section
namespace Go.Lite
open Go
set_option linter.unusedSimpArgs false
set_option linter.unusedVariables false

/-! ### Types -/

def descOf (P : Program) (t : Nat) : Option LD :=
  match P.underlying t with
  | none => none
  | some (.int k) => some (.int k)
  | some .bool => some .bool
  | some .string => some .str
  | some (.pointer _) => some .ptr
  | some (.func _ _ _) => some .func
  | some (.interface _) => some .iface
  | some (.slice e) => some (.slice e)
  | some (.array n e) => some (.array n e)
  | some (.struct Fs) => if Fs.toList.all (fun F => (P.info? F.type).isSome) then some (.struct (Fs.toList.map fun f => (f.offset, f.type))) else none
  | some _ => some .other

def tyOf (P : Program) (t : Nat) : LT :=
  match P.info? t, descOf P t with
  | some i, some d => match i.zero with
    | some z => ⟨d, i.size, i.bytes, z.cells.toList.map toV1⟩
    | none => .none
  | _, _ => .none

theorem tyOf_ok (P : Program) : TysOk P (tyOf P) := by
  intro t
  unfold tyOf
  split
  · rename_i i d hi hd
    split
    · rename_i z hz
      refine .inr ⟨⟨i, z, hi, rfl, rfl, hz, rfl⟩, ?_⟩
      show DescOk P t d
      unfold descOf at hd
      cases hu : P.underlying t with
      | none => rw [hu] at hd; cases hd
      | some e =>
        rw [hu] at hd
        cases e
        case struct Fs =>
          simp only at hd
          split at hd
          · rename_i hall
            cases hd
            exact ⟨Fs, hu, rfl, fun F hF => List.all_eq_true.1 hall F hF⟩
          · cases hd
        all_goals cases hd
        all_goals first
          | exact hu
          | exact ⟨_, hu⟩
          | exact ⟨_, _, _, hu⟩
          | exact ⟨_, hu, trivial⟩
    · exact .inl rfl
  · exact .inl rfl

/-! ### Code -/

def opdB (n : Nat) : Operand → Bool
  | .tmp t => decide (t < n)
  | _ => true

def operB (n : Nat) (o : Oper) : Bool := o.op.operands.all (opdB n) && (match o.dst with | some d => decide (d < n) | none => true)

def codeB (C : Ctx) (f n : Nat) : Code → Bool
  | .region id ops draw => ops.all (operB n) && (!draw || drawOk C f ops (hintOf C f id ops))
  | .seq a b => codeB C f n a && codeB C f n b
  | .cond c a b => opdB n c && codeB C f n a && codeB C f n b
  | .block _ b => codeB C f n b
  | .loop b => codeB C f n b
  | _ => true

def resB (n : Nat) : ResultVar → Bool
  | .tmp t => decide (t < n)
  | .cell t _ => decide (t < n)

def funcB (C : Ctx) (f : Nat) (F : Func) : Bool :=
  match F.body with
  | some c => !(F.name == "runtime.NumGoroutine") && codeB C f F.ntmps c && F.results.all (resB F.ntmps)
  | none => false

theorem opdB_sound {n : Nat} {x : Operand} (h : opdB n x = true) : OpdOk n x := by
  cases x <;> simp_all [opdB, OpdOk]

theorem operB_sound {n : Nat} {ops : Array Oper} (h : ops.all (operB n) = true) : OpsOk n ops := by
  intro o ho
  have := Array.all_eq_true_iff_forall_mem.1 h o (by simpa using ho)
  simp only [operB, Bool.and_eq_true] at this
  refine ⟨fun x hx => opdB_sound (Array.all_eq_true_iff_forall_mem.1 this.1 x hx), fun d hd => ?_⟩
  have h2 := this.2
  rw [hd] at h2
  simpa using h2

theorem codeB_sound {P : Program} {C : Ctx} {f n : Nat} (hty : TysOk P C.ty) (hm : P.follows .mixedOrders = true) : ∀ {c : Code}, codeB C f n c = true → CodeOk P C f n c
  | .region id ops draw, h => by
    simp only [codeB, Bool.and_eq_true, Bool.or_eq_true, Bool.not_eq_true'] at h
    refine ⟨operB_sound h.1, fun hd => DrawsOk.of hty hm (h.2.resolve_left (by rw [hd]; decide))⟩
  | .seq a b, h => by
    simp only [codeB, Bool.and_eq_true] at h
    exact ⟨codeB_sound hty hm h.1, codeB_sound hty hm h.2⟩
  | .cond c a b, h => by
    simp only [codeB, Bool.and_eq_true] at h
    exact ⟨opdB_sound h.1.1, codeB_sound hty hm h.1.2, codeB_sound hty hm h.2⟩
  | .block _ b, h => codeB_sound (c := b) hty hm h
  | .loop b, h => codeB_sound (c := b) hty hm h
  | .skip, _ | .rangeFunc .., _ | .exit _, _ | .scope _, _ | .label _, _ | .goto _, _ | .ret, _ | .refuse _, _ => trivial

theorem resB_sound {n : Nat} {x : ResultVar} (h : resB n x = true) : ResOk n x := by
  cases x <;> simpa [resB, ResOk] using h

/-- The interpreter over a program's own text. -/
structure Tabs where
  locs : Nat → List Nat
  ord : Nat → Nat → Option Hint
  prim : Nat → Option (List V → List Ob → Option (V × List Ob))
  fids : List Nat

def ctxOf (P : Program) (T : Tabs) : Ctx :=
  { ty := tyOf P, locs := T.locs, ord := T.ord, prim := T.prim, fids := fun g => T.fids.contains g, funcs := fun g => P.funcs[g]? }

def progB (P : Program) (T : Tabs) : Bool := T.fids.all fun g => match P.funcs[g]? with | some F => funcB (ctxOf P T) g F | none => false

theorem progB_sound {P : Program} {T : Tabs} (hm : P.follows .mixedOrders = true) (hB : progB P T = true) (hp : ∀ g pr, T.prim g = some pr → PrimOk P g pr) : ProgOk P (ctxOf P T) where
  ty := tyOf_ok P
  prim := hp
  fn g F c hid hF hc := by
    have hid' : g ∈ T.fids := by simpa [ctxOf] using hid
    have hF' : P.funcs[g]? = some F := hF
    have := List.all_eq_true.1 hB g hid'
    rw [hF'] at this
    simp only [funcB, hc, Bool.and_eq_true, Bool.not_eq_true'] at this
    exact ⟨hF', hc, this.1.1, codeB_sound (tyOf_ok P) hm this.1.2, fun x hx => resB_sound (Array.all_eq_true_iff_forall_mem.1 this.2 x (by simpa using hx))⟩

end Go.Lite
end

section
namespace Go.Lite
open Go

/-- Two texts are compared. -/
def cmpPrim : List V → List Ob → Option (V × List Ob)
  | [.str a, .str b], H => some (.int .i64 (Lib.compareBytes a b), H)
  | _, _ => none

/-- A function that is not told. -/
def nonePrim : List V → List Ob → Option (V × List Ob) := fun _ _ => none

/-- Cells that hold texts. -/
def strsOf : List V → Option (List (List UInt8))
  | [] => some []
  | .str s :: vs => match strsOf vs with
    | some l => some (s :: l)
    | none => none
  | _ => none

/-- A slice of texts is sorted where it stands. -/
def sortPrim : List V → List Ob → Option (V × List Ob)
  | [.slc p n], H => if n = 0 then some (.tup [], H) else match p with
    | some (id, off) => (match H[id]? with
      | some (.mk true es cells) => if es = 1 ∧ off + n ≤ cells.length ∧ n ≤ 1000000 then (match strsOf ((cells.drop off).take n) with
        | some ss => some (.tup [], H.set id (.mk true es (setRange cells off ((ss.mergeSort fun x y => decide (x ≤ y)).map V.str))))
        | none => none) else none
      | _ => none)
    | none => none
  | _, _ => none
end Go.Lite
end

section
namespace Go.Lite
open Go
set_option linter.unusedSimpArgs false
set_option linter.unusedVariables false

/-- What the one answers, the other answers. -/
def Sub (cf cf' : CallF) : Prop := ∀ g a H x, cf g a H = some x → cf' g a H = some x

section
variable {C : Ctx} {cf cf' : CallF} {f : Nat} {σ : St}

theorem effL_sub (hs : Sub cf cf') {d : Option Nat} {op : Op} {x : St} (h : effL C cf f σ d op = some x) : effL C cf' f σ d op = some x := by
  unfold effL at h ⊢
  split at h
  case h_10 g args ts =>
    split at h
    · rename_i g' a b xs h1 h2
      split at h
      · rename_i r H h3
        cases h
        try simp only [h1, h2]
        rw [hs _ _ _ _ h3]
      · cases h
    · cases h
  case h_11 => cases h
  all_goals exact h

theorem opL_sub (hs : Sub cf cf') {o : Oper} {x : St} (h : opL C cf f o σ = some x) : opL C cf' f o σ = some x := by
  unfold opL at *
  split at h
  · rename_i hi; rw [if_pos hi]; exact effL_sub hs h
  · rename_i hi; rw [if_neg hi]; exact h

theorem stepL_sub (hs : Sub cf cf') {ops : Array Oper} {o : Oper} {x : St} (h : stepL C cf f ops o σ = some x) : stepL C cf' f ops o σ = some x := by
  unfold stepL at *
  split at h
  · rename_i hw; try rw [hw]
    exact opL_sub hs h
  · rename_i hw; try rw [hw]
    exact h
  · cases h

theorem runL_sub (hs : Sub cf cf') {ops : Array Oper} : ∀ {os : List Oper} {σ x : St}, runL C cf f ops os σ = some x → runL C cf' f ops os σ = some x
  | [], _, _, h => h
  | o :: os, σ, x, h => by
    simp only [runL] at *
    split at h
    · rename_i σ1 h1
      rw [stepL_sub hs h1]
      exact runL_sub hs h
    · cases h

theorem stepK_sub (hs : Sub cf cf') {ops : Array Oper} {k : Hint} {base i : Nat} {x : St} (h : stepK C cf f ops k base i σ = some x) : stepK C cf' f ops k base i σ = some x := by
  obtain ⟨o, h1, h2, h3, h4⟩ := stepK_inv h
  exact stepK_intro h1 h2 (stepL_sub hs h3) h4

theorem runK_sub (hs : Sub cf cf') {ops : Array Oper} {k : Hint} {base : Nat} : ∀ {is : List Nat} {σ x : St}, runK C cf f ops k base is σ = some x → runK C cf' f ops k base is σ = some x
  | [], _, _, h => h
  | i :: is, σ, x, h => by
    simp only [runK] at *
    split at h
    · rename_i σ1 h1
      rw [stepK_sub hs h1]
      exact runK_sub hs h
    · cases h

theorem regionL_sub (hs : Sub cf cf') {id : Nat} {ops : Array Oper} {draw : Bool} {x : St} (h : regionL C cf f id ops draw σ = some x) : regionL C cf' f id ops draw σ = some x := by
  unfold regionL at *
  split at h
  · exact runK_sub hs h
  · exact runL_sub hs h

theorem loopN_sub {g g' : St → Option (Ex × St)} (hg : ∀ σ x, g σ = some x → g' σ = some x) : ∀ {n m : Nat} {σ : St} {x : Ex × St}, n ≤ m → loopN g n σ = some x → loopN g' m σ = some x
  | 0, _, _, _, _, h => by cases h
  | n + 1, 0, _, _, hnm, _ => by omega
  | n + 1, m + 1, σ, x, hnm, h => by
    simp only [loopN] at *
    split at h
    · rename_i σ1 h1
      rw [hg _ _ h1]
      exact loopN_sub hg (by omega) h
    · rename_i hn
      have := hg _ _ h
      rw [this]
      split
      · rename_i σ1 he; cases he; exact absurd h (hn _)
      · rfl

theorem execN_sub (hs : Sub cf cf') {n m : Nat} (hnm : n ≤ m) : ∀ {c : Code} {σ : St} {x : Ex × St}, execN C cf f n c σ = some x → execN C cf' f m c σ = some x := by
  intro c
  induction c with
  | region id ops draw =>
    intro σ x h
    simp only [execN] at *
    split at h
    · rename_i σ1 h1
      rw [regionL_sub hs h1]
      exact h
    · cases h
  | seq a b iha ihb =>
    intro σ x h
    simp only [execN, thenL] at *
    split at h
    · rename_i σ1 h1
      rw [iha h1]
      exact ihb h
    · rename_i hn
      rw [iha h]
      split
      · rename_i σ1 he; cases he; exact absurd h (hn _)
      · rfl
  | cond c a b iha ihb =>
    intro σ x h
    simp only [execN, condL] at *
    split at h
    · split at h
      · rename_i hb; simp only [hb, if_true]; exact iha h
      · rename_i hb; simp only [hb, if_false]; exact ihb h
    · cases h
  | block id b ih =>
    intro σ x h
    simp only [execN, blockL] at *
    split at h
    · rename_i i σ1 h1
      rw [ih h1]
      exact h
    · rename_i hn
      rw [ih h]
      split
      · rename_i i σ1 he; cases he; exact absurd h (hn _ _)
      · rfl
  | loop b ih =>
    intro σ x h
    simp only [execN] at *
    exact loopN_sub (fun σ x h => ih h) hnm h
  | skip => intro σ x h; exact h
  | exit => intro σ x h; exact h
  | ret => intro σ x h; exact h
  | _ => intro σ x h; cases h

theorem finL_sub {F : Func} {H : List Ob} {r r' : Option (Ex × St)} (hr : ∀ x, r = some x → r' = some x) {y : V × List Ob} (h : finL C F H r = some y) : finL C F H r' = some y := by
  cases r with
  | none => cases h
  | some x => rw [hr x rfl]; exact h

theorem callN_succ : ∀ n, Sub (callN C n) (callN C (n + 1)) := by
  intro n
  induction n with
  | zero => intro g a H x h; cases h
  | succ n ih =>
    intro g a H x h
    rw [callN] at h ⊢
    dsimp only at h ⊢
    split at h
    · exact h
    · split at h
      · rename_i hid
        rw [if_pos hid]
        split at h
        · rename_i F hF
          split at h
          · rename_i c hc
            try simp only [hF, hc]
            exact finL_sub (fun y hy => execN_sub ih (Nat.le_succ n) hy) h
          · cases h
        · cases h
      · cases h

theorem callN_mono {n m : Nat} (h : n ≤ m) : Sub (callN C n) (callN C m) := by
  induction h with
  | refl => exact fun _ _ _ _ h => h
  | step _ ih => exact fun g a H x hx => callN_succ _ g a H x (ih g a H x hx)

open Classical in
noncomputable def callW (C : Ctx) : CallF := fun g a H => if h : ∃ x n, callN C n g a H = some x then some h.choose else none

open Classical in
noncomputable def execW (C : Ctx) (f : Nat) (c : Code) (σ : St) : Option (Ex × St) := if h : ∃ x n, execN C (callN C n) f n c σ = some x then some h.choose else none

theorem callW_iff {g : Nat} {a : List V} {H : List Ob} {x : V × List Ob} : callW C g a H = some x ↔ ∃ n, callN C n g a H = some x := by
  unfold callW
  constructor
  · intro h
    split at h
    · rename_i he; cases h; exact he.choose_spec
    · cases h
  · rintro ⟨n, hn⟩
    have he : ∃ x n, callN C n g a H = some x := ⟨x, n, hn⟩
    rw [dif_pos he]
    obtain ⟨m, hm⟩ := he.choose_spec
    have h1 := callN_mono (C := C) (Nat.le_max_left n m) _ _ _ _ hn
    have h2 := callN_mono (C := C) (Nat.le_max_right n m) _ _ _ _ hm
    rw [h1] at h2
    exact h2.symm

theorem execW_iff {c : Code} {x : Ex × St} : execW C f c σ = some x ↔ ∃ n, execN C (callN C n) f n c σ = some x := by
  unfold execW
  constructor
  · intro h
    split at h
    · rename_i he; cases h; exact he.choose_spec
    · cases h
  · rintro ⟨n, hn⟩
    have he : ∃ x n, execN C (callN C n) f n c σ = some x := ⟨x, n, hn⟩
    rw [dif_pos he]
    obtain ⟨m, hm⟩ := he.choose_spec
    have h1 := execN_sub (callN_mono (C := C) (Nat.le_max_left n m)) (Nat.le_max_left n m) hn
    have h2 := execN_sub (callN_mono (C := C) (Nat.le_max_right n m)) (Nat.le_max_right n m) hm
    rw [h1] at h2
    exact h2.symm

theorem sub_W (n : Nat) : Sub (callN C n) (callW C) := fun g a H x h => callW_iff.2 ⟨n, h⟩

theorem effL_lim {d : Option Nat} {op : Op} {x : St} (h : effL C (callW C) f σ d op = some x) : ∃ n, effL C (callN C n) f σ d op = some x := by
  unfold effL at h ⊢
  split at h
  case h_10 g args ts =>
    split at h
    · rename_i g' a b xs h1 h2
      split at h
      · rename_i r H h3
        cases h
        obtain ⟨n, hn⟩ := callW_iff.1 h3
        refine ⟨n, ?_⟩
        try simp only [h1, h2]
        rw [hn]
      · cases h
    · cases h
  case h_11 => cases h
  all_goals exact ⟨0, h⟩

theorem stepL_lim {ops : Array Oper} {o : Oper} {x : St} (h : stepL C (callW C) f ops o σ = some x) : ∃ n, stepL C (callN C n) f ops o σ = some x := by
  unfold stepL at *
  split at h
  · rename_i hw
    unfold opL at *
    split at h
    · rename_i hi
      obtain ⟨n, hn⟩ := effL_lim h
      exact ⟨n, by simp only [hi, if_true]; exact hn⟩
    · rename_i hi
      exact ⟨0, by simp only [hi, if_false]; exact h⟩
  · exact ⟨0, h⟩
  · cases h

theorem runL_lim {ops : Array Oper} : ∀ {os : List Oper} {σ x : St}, runL C (callW C) f ops os σ = some x → ∃ n, runL C (callN C n) f ops os σ = some x
  | [], _, _, h => ⟨0, h⟩
  | o :: os, σ, x, h => by
    simp only [runL] at *
    split at h
    · rename_i σ1 h1
      obtain ⟨n, hn⟩ := stepL_lim h1
      obtain ⟨m, hm⟩ := runL_lim h
      refine ⟨max n m, ?_⟩
      rw [stepL_sub (callN_mono (Nat.le_max_left n m)) hn]
      exact runL_sub (callN_mono (Nat.le_max_right n m)) hm
    · cases h

theorem runK_lim {ops : Array Oper} {k : Hint} {base : Nat} : ∀ {is : List Nat} {σ x : St}, runK C (callW C) f ops k base is σ = some x → ∃ n, runK C (callN C n) f ops k base is σ = some x
  | [], _, _, h => ⟨0, h⟩
  | i :: is, σ, x, h => by
    simp only [runK] at *
    split at h
    · rename_i σ1 h1
      obtain ⟨o, g1, g2, g3, g4⟩ := stepK_inv h1
      obtain ⟨n, hn⟩ := stepL_lim g3
      obtain ⟨m, hm⟩ := runK_lim h
      refine ⟨max n m, ?_⟩
      rw [stepK_intro g1 g2 (stepL_sub (callN_mono (Nat.le_max_left n m)) hn) g4]
      exact runK_sub (callN_mono (Nat.le_max_right n m)) hm
    · cases h

theorem regionL_lim {id : Nat} {ops : Array Oper} {draw : Bool} {x : St} (h : regionL C (callW C) f id ops draw σ = some x) : ∃ n, regionL C (callN C n) f id ops draw σ = some x := by
  unfold regionL at *
  split at h
  · exact runK_lim h
  · exact runL_lim h

/-! ### The equations -/

theorem opt_ext {α : Type} {x y : Option α} (h : ∀ v, x = some v ↔ y = some v) : x = y := by
  cases x with
  | none =>
    cases y with
    | none => rfl
    | some v => exact (h v).2 rfl
  | some v => exact ((h v).1 rfl).symm

theorem execW_skip : execW C f .skip σ = some (.norm, σ) := execW_iff.2 ⟨0, rfl⟩
theorem execW_ret : execW C f .ret σ = some (.ret, σ) := execW_iff.2 ⟨0, rfl⟩
theorem execW_exit {id : Nat} : execW C f (.exit id) σ = some (.exit id, σ) := execW_iff.2 ⟨0, rfl⟩

theorem execW_region {id : Nat} {ops : Array Oper} {draw : Bool} : execW C f (.region id ops draw) σ = match regionL C (callW C) f id ops draw σ with
    | some σ => some (.norm, σ)
    | none => none := by
  refine opt_ext fun v => execW_iff.trans ⟨?_, ?_⟩
  · rintro ⟨n, hn⟩
    simp only [execN] at hn
    split at hn
    · rename_i σ1 h1
      rw [regionL_sub (sub_W n) h1]; exact hn
    · cases hn
  · intro h
    split at h
    · rename_i σ1 h1
      obtain ⟨n, hn⟩ := regionL_lim h1
      exact ⟨n, by simp only [execN, hn]; exact h⟩
    · cases h

theorem thenL_some {r : Option (Ex × St)} {g : St → Option (Ex × St)} {v : Ex × St} : thenL r g = some v ↔ (∃ σ1, r = some (.norm, σ1) ∧ g σ1 = some v) ∨ (r = some v ∧ v.1 ≠ .norm) := by
  unfold thenL
  split
  · rename_i σ1
    constructor
    · intro h; exact .inl ⟨σ1, rfl, h⟩
    · rintro (⟨σ2, h1, h2⟩ | ⟨h1, h2⟩)
      · cases h1; exact h2
      · cases h1; exact absurd rfl h2
  · rename_i hn
    constructor
    · intro h
      refine .inr ⟨h, fun he => ?_⟩
      obtain ⟨e, σ1⟩ := v
      simp only at he
      subst he
      exact hn _ h
    · rintro (⟨σ2, h1, h2⟩ | ⟨h1, h2⟩)
      · exact absurd h1 (hn _)
      · exact h1

theorem execW_seq {a b : Code} : execW C f (.seq a b) σ = thenL (execW C f a σ) (execW C f b) := by
  refine opt_ext fun v => execW_iff.trans ⟨?_, ?_⟩
  · rintro ⟨n, hn⟩
    simp only [execN] at hn
    rcases thenL_some.1 hn with ⟨σ1, h1, h2⟩ | ⟨h1, h2⟩
    · exact thenL_some.2 (.inl ⟨σ1, execW_iff.2 ⟨n, h1⟩, execW_iff.2 ⟨n, h2⟩⟩)
    · exact thenL_some.2 (.inr ⟨execW_iff.2 ⟨n, h1⟩, h2⟩)
  · intro h
    rcases thenL_some.1 h with ⟨σ1, h1, h2⟩ | ⟨h1, h2⟩
    · obtain ⟨n, hn⟩ := execW_iff.1 h1
      obtain ⟨m, hm⟩ := execW_iff.1 h2
      refine ⟨max n m, ?_⟩
      simp only [execN]
      exact thenL_some.2 (.inl ⟨σ1, execN_sub (callN_mono (Nat.le_max_left n m)) (Nat.le_max_left n m) hn, execN_sub (callN_mono (Nat.le_max_right n m)) (Nat.le_max_right n m) hm⟩)
    · obtain ⟨n, hn⟩ := execW_iff.1 h1
      exact ⟨n, by simp only [execN]; exact thenL_some.2 (.inr ⟨hn, h2⟩)⟩

theorem execW_cond {c : Operand} {a b : Code} : execW C f (.cond c a b) σ = condL σ c (execW C f a σ) (execW C f b σ) := by
  refine opt_ext fun v => execW_iff.trans ⟨?_, ?_⟩
  · rintro ⟨n, hn⟩
    simp only [execN, condL] at hn ⊢
    split at hn
    · split at hn
      · rename_i hb; simp only [hb, if_true]; exact execW_iff.2 ⟨n, hn⟩
      · rename_i hb; simp only [hb, if_false]; exact execW_iff.2 ⟨n, hn⟩
    · cases hn
  · intro h
    simp only [execN, condL] at h ⊢
    split at h
    · split at h
      · rename_i hb; simp only [hb, if_true]; exact execW_iff.1 h
      · rename_i hb; simp only [hb, if_false]; exact execW_iff.1 h
    · cases h

theorem blockL_some {id : Nat} {r : Option (Ex × St)} {v : Ex × St} : blockL id r = some v ↔ ∃ u, r = some u ∧ blockL id (some u) = some v := by
  cases r with
  | none => simp [blockL]
  | some u => simp

theorem execW_block {id : Nat} {b : Code} : execW C f (.block id b) σ = blockL id (execW C f b σ) := by
  refine opt_ext fun v => execW_iff.trans ⟨?_, ?_⟩
  · rintro ⟨n, hn⟩
    simp only [execN] at hn
    obtain ⟨u, h1, h2⟩ := blockL_some.1 hn
    exact blockL_some.2 ⟨u, execW_iff.2 ⟨n, h1⟩, h2⟩
  · intro h
    obtain ⟨u, h1, h2⟩ := blockL_some.1 h
    obtain ⟨n, hn⟩ := execW_iff.1 h1
    exact ⟨n, by simp only [execN]; exact blockL_some.2 ⟨u, hn, h2⟩⟩

theorem loopN_then {g : St → Option (Ex × St)} {n : Nat} {σ : St} : loopN g (n + 1) σ = thenL (g σ) (loopN g n) := by
  simp only [loopN, thenL]

theorem execW_loop {b : Code} : execW C f (.loop b) σ = thenL (execW C f b σ) (execW C f (.loop b)) := by
  refine opt_ext fun v => execW_iff.trans ⟨?_, ?_⟩
  · rintro ⟨n, hn⟩
    cases n with
    | zero => cases hn
    | succ n =>
      simp only [execN] at hn
      rw [loopN_then] at hn
      rcases thenL_some.1 hn with ⟨σ1, h1, h2⟩ | ⟨h1, h2⟩
      · refine thenL_some.2 (.inl ⟨σ1, execW_iff.2 ⟨n + 1, h1⟩, execW_iff.2 ⟨n + 1, ?_⟩⟩)
        simp only [execN]
        exact loopN_sub (fun _ _ h => h) (Nat.le_succ n) h2
      · exact thenL_some.2 (.inr ⟨execW_iff.2 ⟨n + 1, h1⟩, h2⟩)
  · intro h
    rcases thenL_some.1 h with ⟨σ1, h1, h2⟩ | ⟨h1, h2⟩
    · obtain ⟨n, hn⟩ := execW_iff.1 h1
      obtain ⟨m, hm⟩ := execW_iff.1 h2
      refine ⟨max n m + 1, ?_⟩
      simp only [execN] at hm ⊢
      rw [loopN_then]
      refine thenL_some.2 (.inl ⟨σ1, execN_sub (callN_mono (by omega)) (by omega) hn, ?_⟩)
      exact loopN_sub (fun σ x h => execN_sub (callN_mono (by omega)) (by omega) h) (by omega) hm
    · obtain ⟨n, hn⟩ := execW_iff.1 h1
      refine ⟨n + 1, ?_⟩
      simp only [execN]
      rw [loopN_then]
      exact thenL_some.2 (.inr ⟨execN_sub (callN_succ n) (Nat.le_succ n) hn, h2⟩)

theorem callW_prim {g : Nat} {pr : List V → List Ob → Option (V × List Ob)} (hp : C.prim g = some pr) {a : List V} {H : List Ob} : callW C g a H = pr a H := by
  refine opt_ext fun v => callW_iff.trans ⟨?_, ?_⟩
  · rintro ⟨n, hn⟩
    cases n with
    | zero => cases hn
    | succ n => simp only [callN, hp] at hn; exact hn
  · intro h
    exact ⟨1, by simp only [callN, hp]; exact h⟩

theorem finL_some {F : Func} {H : List Ob} {r : Option (Ex × St)} {v : V × List Ob} : finL C F H r = some v ↔ ∃ u, r = some u ∧ finL C F H (some u) = some v := by
  cases r with
  | none => simp [finL]
  | some u => simp

theorem callW_fn {g : Nat} {F : Func} {c : Code} (hp : C.prim g = none) (hid : C.fids g = true) (hF : C.funcs g = some F) (hc : F.body = some c) {a : List V} {H : List Ob} :
    callW C g a H = finL C F H (execW C g c ⟨initRegs a, 0, H⟩) := by
  refine opt_ext fun v => callW_iff.trans ⟨?_, ?_⟩
  · rintro ⟨n, hn⟩
    cases n with
    | zero => cases hn
    | succ n =>
      simp only [callN, hp, hid, if_true, hF, hc] at hn
      obtain ⟨u, h1, h2⟩ := finL_some.1 hn
      exact finL_some.2 ⟨u, execW_iff.2 ⟨n, h1⟩, h2⟩
  · intro h
    obtain ⟨u, h1, h2⟩ := finL_some.1 h
    obtain ⟨n, hn⟩ := execW_iff.1 h1
    exact ⟨n + 1, by simp only [callN, hp, hid, if_true, hF, hc]; exact finL_some.2 ⟨u, hn, h2⟩⟩

/-- What the interpreter says of a call is so. -/
theorem callW_ok {P : Program} (hp : ProgOk P C) : CallOk P (callW C) := by
  intro g args H r H' h
  obtain ⟨n, hn⟩ := callW_iff.1 h
  exact callN_ok hp n g args H r H' hn

end
end Go.Lite
end

section
namespace Go.Lite
open Go

attribute [simp] runL stepL opL isEff effL valL wantedL evR ev St.put upd toPl thenL condL blockL execW_skip execW_ret execW_exit execW_region execW_seq execW_cond execW_block toV toV1 evs evParts initRegs finL resVars resVar tupleOf pickV binL intBin intShift strBin isShift
  fieldR indexV fieldV LT.num LT.isAgg unL newVar asV boundL sliceV

section
variable {k : IntKind} {n : Int} {b : Bool} {s : List UInt8} {p : Option (Nat × Nat)} {m : Nat} {l l' : List V} {f : Nat}
theorem cellsOf_int : cellsOf (.int k n) = some [.int k n] := rfl
theorem cellsOf_bool : cellsOf (.bool b) = some [.bool b] := rfl
theorem cellsOf_str : cellsOf (.str s) = some [.str s] := rfl
theorem cellsOf_ptr : cellsOf (.ptr p) = some [.ptr p] := rfl
theorem cellsOf_slc : cellsOf (.slc p m) = some [.slc p m] := rfl
theorem cellsOf_fn : cellsOf (.fn f l l') = some [.fn f l l'] := rfl
theorem cellsOf_nilfn : cellsOf .nilfn = some [.nilfn] := rfl
theorem cellsOf_niface : cellsOf .niface = some [.niface] := rfl
theorem cellsOf_someif : cellsOf .someif = some [.someif] := rfl
theorem cellsOf_agg : cellsOf (.agg l) = some l := rfl
theorem isOne_int : isOne (.int k n) = true := rfl
theorem isOne_bool : isOne (.bool b) = true := rfl
theorem isOne_str : isOne (.str s) = true := rfl
theorem isOne_ptr : isOne (.ptr p) = true := rfl
theorem isOne_slc : isOne (.slc p m) = true := rfl
theorem isOne_fn : isOne (.fn f l l') = true := rfl
theorem isOne_nilfn : isOne .nilfn = true := rfl
theorem isOne_niface : isOne .niface = true := rfl
theorem isOne_someif : isOne .someif = true := rfl
attribute [simp] cellsOf_int cellsOf_bool cellsOf_str cellsOf_ptr cellsOf_slc cellsOf_fn cellsOf_nilfn cellsOf_niface cellsOf_someif cellsOf_agg isOne_int isOne_bool isOne_str isOne_ptr isOne_slc isOne_fn isOne_nilfn isOne_niface isOne_someif
end

theorem int_beq {a b : Int} : (a == b) = decide (a = b) := by
  by_cases h : a = b
  · subst h; simp
  · simp [h]
theorem str_beq {a b : List UInt8} : (a == b) = decide (a = b) := by
  by_cases h : a = b
  · subst h; simp
  · simp [h]
theorem int_bne {a b : Int} : (a != b) = !decide (a = b) := by
  show (!(a == b)) = _
  rw [int_beq]
attribute [simp] int_beq str_beq int_bne

theorem regionL_plain {C : Ctx} {callf : CallF} {f id : Nat} {ops : Array Oper} {σ : St} : regionL C callf f id ops false σ = runL C callf f ops ops.toList σ := by
  simp [regionL]
theorem regionL_none {C : Ctx} {callf : CallF} {f id : Nat} {ops : Array Oper} {σ : St} {d : Bool} (h : C.ord f id = none) : regionL C callf f id ops d σ = runL C callf f ops ops.toList σ := by
  cases d <;> simp [regionL, h]
attribute [simp] regionL_plain

theorem rd1 {cells : List V} {k : Nat} {v : V} (h : cells[k]? = some v) : rdCells cells k 1 = some [v] := by
  obtain ⟨hk, rfl⟩ := List.getElem?_eq_some_iff.1 h
  unfold rdCells
  rw [if_pos (by omega), List.drop_eq_getElem_cons hk]
  rfl

theorem rdN {cells : List V} {k n : Nat} (h : k + n ≤ cells.length) : rdCells cells k n = some ((cells.drop k).take n) := by
  unfold rdCells
  rw [if_pos h]

theorem set_last {H : List Ob} {a b : Ob} : (H ++ [a]).set H.length b = H ++ [b] := by
  rw [List.set_append_right _ _ (Nat.le_refl _)]
  simp

theorem setRange_one {cells : List V} {k : Nat} {v : V} (h : k < cells.length) : setRange cells k [v] = cells.set k v := by
  unfold setRange
  rw [List.set_eq_take_append_cons_drop, if_pos h]
  simp

/-- One more element is laid. -/
theorem fill_step {l : List V} {i k : Nat} {v z : V} (h : l[i]? = some v) : (l.take i ++ List.replicate (k + 1) z).set i v = l.take (i + 1) ++ List.replicate k z := by
  obtain ⟨hi, rfl⟩ := List.getElem?_eq_some_iff.1 h
  rw [List.set_append_right _ _ (by simp; omega), List.length_take, Nat.min_eq_left (by omega), Nat.sub_self, List.replicate_succ, List.set_cons_zero, List.take_succ_eq_append_getElem hi, List.append_assoc]
  rfl

theorem wrap_i64 {n : Int} (h1 : -9223372036854775808 ≤ n) (h2 : n ≤ 9223372036854775807) : IntKind.i64.wrap n = n := by
  unfold IntKind.wrap
  simp [IntKind.bits, IntKind.signed]
  omega

theorem indexR_slc {e s b id off n : Nat} {z : List V} {ty : Nat → LT} {k : IntKind} {i : Int} : indexR ⟨.slice e, s, b, z⟩ ty (.val (.slc (some (id, off)) n)) (.int k i) =
    if 0 ≤ i ∧ i < n then (if (ty e).size = 0 then none else some (.val (.ptr (some (id, off + i.toNat * (ty e).size))))) else none := rfl
theorem lenV_slc {e s b n : Nat} {p : Option (Nat × Nat)} {z : List V} : lenV ⟨.slice e, s, b, z⟩ (.slc p n) = some (.int .i64 n) := rfl
theorem lenV_str {s b : Nat} {t : List UInt8} {z : List V} : lenV ⟨.str, s, b, z⟩ (.str t) = some (.int .i64 t.length) := rfl
attribute [simp] indexR_slc lenV_slc lenV_str

theorem get_last {H : List Ob} {a : Ob} : (H ++ [a])[H.length]? = some a := by simp

theorem loadAt_loc {T : LT} {σ : St} {t c off : Nat} : loadAt T σ (.loc t c off) = if T.size = 0 then none else match (match σ.regs t with
      | .box c' cells => if c' = c then some cells else none
      | _ => none) with
    | some cells => (match rdCells cells off T.num with
      | some cs => some (asV T.isAgg cs)
      | none => none)
    | none => none := rfl
theorem storeAt_loc {T : LT} {σ : St} {t c off : Nat} {v : V} : storeAt T σ (.loc t c off) v = match cellsOf v with
    | some xs => if 0 < T.size ∧ xs.length = T.size ∧ xs.all isOne = true then (match σ.regs t with
      | .box c' cells => if c' = c ∧ off + xs.length ≤ cells.length then some { σ with regs := upd σ.regs t (.box c (setRange cells off xs)) } else none
      | _ => none) else none
    | none => none := rfl
theorem thereAt_len {H : List Ob} : thereAt H H.length ↔ False := by
  refine ⟨fun ⟨own, es, cells, h⟩ => ?_, fun h => h.elim⟩
  simp at h
attribute [simp] appV badArg isIntT capV
attribute [simp] loadAt_loc storeAt_loc thereAt_len rdCells setRange lowV lowVs

theorem convL_int {ty : Nat → LT} {j j' k : IntKind} {s b s' b' : Nat} {z z' : List V} {H : List Ob} {n : Int} : convL ty ⟨.int j, s, b, z⟩ ⟨.int k, s', b', z'⟩ H (.int j' n) = some (.int k (k.wrap n)) := rfl
theorem convL_slc {ty : Nat → LT} {e s b s' b' n : Nat} {z z' : List V} {H : List Ob} {p : Option (Nat × Nat)} : convL ty ⟨.slice e, s, b, z⟩ ⟨.str, s', b', z'⟩ H (.slc p n) = if isByte (ty e) then (match slcCells H p n with
      | some cs => (match cs.mapM byteOfV with
        | some bs => some (.str bs)
        | none => none)
      | none => none)
    else none := rfl
attribute [simp] convL_int convL_slc St.new

attribute [simp] set_last

end Go.Lite
end
