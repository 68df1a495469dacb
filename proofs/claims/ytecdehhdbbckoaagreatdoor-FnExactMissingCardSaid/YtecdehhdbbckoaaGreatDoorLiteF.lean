/- The interpreter: how it is reckoned; plain data in its heap. Conditions: none but those that each theorem names. -/
import Derived.Test.YtecdehhdbbckoaaGreatDoorLiteC
import Derived.Test.YtecdehhdbbckoaaGreatDoorLiteD

namespace Go.Lite
open Go

attribute [simp] runL stepL opL isEff effL valL wantedL evR ev St.put upd toPl thenL condL blockL execW_skip execW_ret execW_exit execW_region execW_seq execW_cond execW_block toV toV1 evs evParts initRegs finL resVars resVar tupleOf pickV binL intBin intShift strBin isShift
  fieldR indexV fieldV LT.num LT.isAgg unL newVar asV boundL sliceV

section
variable {k : IntKind} {n : Int} {b : Bool} {s : List UInt8} {p : Option (Nat × Nat)} {m : Nat} {l l' : List V} {f : Nat}
theorem cellsOf_int : cellsOf (.int k n) = some [.int k n] := rfl
theorem cellsOf_bool : cellsOf (.bool b) = some [.bool b] := rfl
theorem cellsOf_str : cellsOf (.str s) = some [.str s] := rfl
theorem cellsOf_ptr : cellsOf (.ptr p) = some [.ptr p] := rfl
theorem cellsOf_slc : cellsOf (.slc p m) = some [.slc p m] := rfl
theorem cellsOf_fn : cellsOf (.fn f l l') = some [.fn f l l'] := rfl
theorem cellsOf_nilfn : cellsOf .nilfn = some [.nilfn] := rfl
theorem cellsOf_niface : cellsOf .niface = some [.niface] := rfl
theorem cellsOf_someif : cellsOf .someif = some [.someif] := rfl
theorem cellsOf_agg : cellsOf (.agg l) = some l := rfl
theorem isOne_int : isOne (.int k n) = true := rfl
theorem isOne_bool : isOne (.bool b) = true := rfl
theorem isOne_str : isOne (.str s) = true := rfl
theorem isOne_ptr : isOne (.ptr p) = true := rfl
theorem isOne_slc : isOne (.slc p m) = true := rfl
theorem isOne_fn : isOne (.fn f l l') = true := rfl
theorem isOne_nilfn : isOne .nilfn = true := rfl
theorem isOne_niface : isOne .niface = true := rfl
theorem isOne_someif : isOne .someif = true := rfl
attribute [simp] cellsOf_int cellsOf_bool cellsOf_str cellsOf_ptr cellsOf_slc cellsOf_fn cellsOf_nilfn cellsOf_niface cellsOf_someif cellsOf_agg isOne_int isOne_bool isOne_str isOne_ptr isOne_slc isOne_fn isOne_nilfn isOne_niface isOne_someif
end

theorem int_beq {a b : Int} : (a == b) = decide (a = b) := by
  by_cases h : a = b
  · subst h; simp
  · simp [h]
theorem str_beq {a b : List UInt8} : (a == b) = decide (a = b) := by
  by_cases h : a = b
  · subst h; simp
  · simp [h]
theorem int_bne {a b : Int} : (a != b) = !decide (a = b) := by
  show (!(a == b)) = _
  rw [int_beq]
attribute [simp] int_beq str_beq int_bne

theorem regionL_plain {C : Ctx} {callf : CallF} {f id : Nat} {ops : Array Oper} {σ : St} : regionL C callf f id ops false σ = runL C callf f ops ops.toList σ := by
  simp [regionL]
theorem regionL_none {C : Ctx} {callf : CallF} {f id : Nat} {ops : Array Oper} {σ : St} {d : Bool} (h : C.ord f id = none) : regionL C callf f id ops d σ = runL C callf f ops ops.toList σ := by
  cases d <;> simp [regionL, h]
attribute [simp] regionL_plain

theorem rd1 {cells : List V} {k : Nat} {v : V} (h : cells[k]? = some v) : rdCells cells k 1 = some [v] := by
  obtain ⟨hk, rfl⟩ := List.getElem?_eq_some_iff.1 h
  unfold rdCells
  rw [if_pos (by omega), List.drop_eq_getElem_cons hk]
  rfl

theorem rdN {cells : List V} {k n : Nat} (h : k + n ≤ cells.length) : rdCells cells k n = some ((cells.drop k).take n) := by
  unfold rdCells
  rw [if_pos h]

theorem set_last {H : List Ob} {a b : Ob} : (H ++ [a]).set H.length b = H ++ [b] := by
  rw [List.set_append_right _ _ (Nat.le_refl _)]
  simp

theorem setRange_one {cells : List V} {k : Nat} {v : V} (h : k < cells.length) : setRange cells k [v] = cells.set k v := by
  unfold setRange
  rw [List.set_eq_take_append_cons_drop, if_pos h]
  simp

/-- One more element is laid. -/
theorem fill_step {l : List V} {i k : Nat} {v z : V} (h : l[i]? = some v) : (l.take i ++ List.replicate (k + 1) z).set i v = l.take (i + 1) ++ List.replicate k z := by
  obtain ⟨hi, rfl⟩ := List.getElem?_eq_some_iff.1 h
  rw [List.set_append_right _ _ (by simp; omega), List.length_take, Nat.min_eq_left (by omega), Nat.sub_self, List.replicate_succ, List.set_cons_zero, List.take_succ_eq_append_getElem hi, List.append_assoc]
  rfl

theorem wrap_i64 {n : Int} (h1 : -9223372036854775808 ≤ n) (h2 : n ≤ 9223372036854775807) : IntKind.i64.wrap n = n := by
  unfold IntKind.wrap
  simp [IntKind.bits, IntKind.signed]
  omega

theorem indexR_slc {e s b id off n : Nat} {z : List V} {ty : Nat → LT} {k : IntKind} {i : Int} : indexR ⟨.slice e, s, b, z⟩ ty (.val (.slc (some (id, off)) n)) (.int k i) =
    if 0 ≤ i ∧ i < n then (if (ty e).size = 0 then none else some (.val (.ptr (some (id, off + i.toNat * (ty e).size))))) else none := rfl
theorem lenV_slc {e s b n : Nat} {p : Option (Nat × Nat)} {z : List V} : lenV ⟨.slice e, s, b, z⟩ (.slc p n) = some (.int .i64 n) := rfl
theorem lenV_str {s b : Nat} {t : List UInt8} {z : List V} : lenV ⟨.str, s, b, z⟩ (.str t) = some (.int .i64 t.length) := rfl
attribute [simp] indexR_slc lenV_slc lenV_str

theorem get_last {H : List Ob} {a : Ob} : (H ++ [a])[H.length]? = some a := by simp

theorem loadAt_loc {T : LT} {σ : St} {t c off : Nat} : loadAt T σ (.loc t c off) = if T.size = 0 then none else match (match σ.regs t with
      | .box c' cells => if c' = c then some cells else none
      | _ => none) with
    | some cells => (match rdCells cells off T.num with
      | some cs => some (asV T.isAgg cs)
      | none => none)
    | none => none := rfl
theorem storeAt_loc {T : LT} {σ : St} {t c off : Nat} {v : V} : storeAt T σ (.loc t c off) v = match cellsOf v with
    | some xs => if 0 < T.size ∧ xs.length = T.size ∧ xs.all isOne = true then (match σ.regs t with
      | .box c' cells => if c' = c ∧ off + xs.length ≤ cells.length then some { σ with regs := upd σ.regs t (.box c (setRange cells off xs)) } else none
      | _ => none) else none
    | none => none := rfl
theorem thereAt_len {H : List Ob} : thereAt H H.length ↔ False := by
  refine ⟨fun ⟨own, es, cells, h⟩ => ?_, fun h => h.elim⟩
  simp at h
attribute [simp] appV badArg isIntT capV
attribute [simp] loadAt_loc storeAt_loc thereAt_len rdCells setRange lowV lowVs

theorem convL_int {ty : Nat → LT} {j j' k : IntKind} {s b s' b' : Nat} {z z' : List V} {H : List Ob} {n : Int} : convL ty ⟨.int j, s, b, z⟩ ⟨.int k, s', b', z'⟩ H (.int j' n) = some (.int k (k.wrap n)) := rfl
theorem convL_slc {ty : Nat → LT} {e s b s' b' n : Nat} {z z' : List V} {H : List Ob} {p : Option (Nat × Nat)} : convL ty ⟨.slice e, s, b, z⟩ ⟨.str, s', b', z'⟩ H (.slc p n) = if isByte (ty e) then (match slcCells H p n with
      | some cs => (match cs.mapM byteOfV with
        | some bs => some (.str bs)
        | none => none)
      | none => none)
    else none := rfl
attribute [simp] convL_int convL_slc St.new

attribute [simp] set_last

end Go.Lite

namespace Go.Lite
open Go
set_option linter.unusedSimpArgs false
set_option linter.unusedVariables false

/-- The code ends so that 'Q'. -/
def WP (C : Ctx) (f : Nat) (c : Code) (σ : St) (Q : Ex → St → Prop) : Prop := ∃ ex σ', execW C f c σ = some (ex, σ') ∧ Q ex σ'

def seqQ (C : Ctx) (f : Nat) (b : Code) (Q : Ex → St → Prop) : Ex → St → Prop
  | .norm, σ => WP C f b σ Q
  | .ret, σ => Q .ret σ
  | .exit i, σ => Q (.exit i) σ

def blockQ (id : Nat) (Q : Ex → St → Prop) : Ex → St → Prop
  | .norm, σ => Q .norm σ
  | .ret, σ => Q .ret σ
  | .exit i, σ => if i = id then Q .norm σ else Q (.exit i) σ

def loopQ (I : Nat → St → Prop) (k : Nat) (Q : Ex → St → Prop) : Ex → St → Prop
  | .norm, σ => ∃ k', k' < k ∧ I k' σ
  | .ret, σ => Q .ret σ
  | .exit i, σ => Q (.exit i) σ

def finQ (C : Ctx) (F : Func) (H : List Ob) (Q : V → List Ob → Prop) : Ex → St → Prop
  | .norm, σ => ∃ vs, resVars C σ F.results.toList = some vs ∧ Q (tupleOf vs) (gcH H σ.heap (tupleOf vs))
  | .ret, σ => ∃ vs, resVars C σ F.results.toList = some vs ∧ Q (tupleOf vs) (gcH H σ.heap (tupleOf vs))
  | .exit _, _ => False

/-- The call returns so that 'Q'. -/
def Ret (C : Ctx) (g : Nat) (args : List V) (H : List Ob) (Q : V → List Ob → Prop) : Prop := ∃ r H', callW C g args H = some (r, H') ∧ Q r H'

section
variable {C : Ctx} {f : Nat} {σ : St} {Q : Ex → St → Prop}

theorem seqQ_norm {b : Code} : seqQ C f b Q .norm σ = WP C f b σ Q := rfl
theorem seqQ_ret {b : Code} : seqQ C f b Q .ret σ = Q .ret σ := rfl
theorem seqQ_exit {b : Code} {i : Nat} : seqQ C f b Q (.exit i) σ = Q (.exit i) σ := rfl
theorem blockQ_norm {id : Nat} : blockQ id Q .norm σ = Q .norm σ := rfl
theorem blockQ_ret {id : Nat} : blockQ id Q .ret σ = Q .ret σ := rfl
theorem blockQ_exit {id i : Nat} : blockQ id Q (.exit i) σ = if i = id then Q .norm σ else Q (.exit i) σ := rfl
theorem loopQ_norm {I : Nat → St → Prop} {k : Nat} : loopQ I k Q .norm σ = ∃ k', k' < k ∧ I k' σ := rfl
theorem loopQ_ret {I : Nat → St → Prop} {k : Nat} : loopQ I k Q .ret σ = Q .ret σ := rfl
theorem loopQ_exit {I : Nat → St → Prop} {k i : Nat} : loopQ I k Q (.exit i) σ = Q (.exit i) σ := rfl
theorem finQ_norm {F : Func} {H : List Ob} {R : V → List Ob → Prop} : finQ C F H R .norm σ = ∃ vs, resVars C σ F.results.toList = some vs ∧ R (tupleOf vs) (gcH H σ.heap (tupleOf vs)) := rfl
theorem finQ_ret {F : Func} {H : List Ob} {R : V → List Ob → Prop} : finQ C F H R .ret σ = ∃ vs, resVars C σ F.results.toList = some vs ∧ R (tupleOf vs) (gcH H σ.heap (tupleOf vs)) := rfl
theorem finQ_exit {F : Func} {H : List Ob} {R : V → List Ob → Prop} {i : Nat} : finQ C F H R (.exit i) σ = False := rfl

theorem ex_some {e : Ex} {s : St} : (∃ ex σ', some (e, s) = some (ex, σ') ∧ Q ex σ') ↔ Q e s :=
  ⟨fun ⟨_, _, h, hq⟩ => by cases h; exact hq, fun h => ⟨_, _, rfl, h⟩⟩

theorem WP_skip : WP C f .skip σ Q ↔ Q .norm σ := by simp only [WP, execW_skip, ex_some]
theorem WP_ret : WP C f .ret σ Q ↔ Q .ret σ := by simp only [WP, execW_ret, ex_some]
theorem WP_exit {id : Nat} : WP C f (.exit id) σ Q ↔ Q (.exit id) σ := by simp only [WP, execW_exit, ex_some]

theorem WP_region {id : Nat} {ops : Array Oper} {draw : Bool} : WP C f (.region id ops draw) σ Q ↔ ∃ σ', regionL C (callW C) f id ops draw σ = some σ' ∧ Q .norm σ' := by
  simp only [WP, execW_region]
  cases regionL C (callW C) f id ops draw σ with
  | none => simp
  | some σ1 => simp only [ex_some]; exact ⟨fun h => ⟨σ1, rfl, h⟩, fun ⟨_, h, hq⟩ => by cases h; exact hq⟩

theorem WP_seq {a b : Code} : WP C f (.seq a b) σ Q ↔ WP C f a σ (seqQ C f b Q) := by
  simp only [WP, execW_seq]
  constructor
  · rintro ⟨ex, σ', h, hq⟩
    rcases thenL_some.1 h with ⟨σ1, h1, h2⟩ | ⟨h1, h2⟩
    · exact ⟨.norm, σ1, h1, ex, σ', h2, hq⟩
    · refine ⟨ex, σ', h1, ?_⟩
      cases ex with
      | norm => exact absurd rfl h2
      | ret => exact hq
      | exit i => exact hq
  · rintro ⟨ex, σ', h, hq⟩
    cases ex with
    | norm =>
      obtain ⟨ex2, σ2, h2, hq2⟩ := hq
      exact ⟨ex2, σ2, thenL_some.2 (.inl ⟨σ', h, h2⟩), hq2⟩
    | ret => exact ⟨.ret, σ', thenL_some.2 (.inr ⟨h, by simp⟩), hq⟩
    | exit i => exact ⟨.exit i, σ', thenL_some.2 (.inr ⟨h, by simp⟩), hq⟩

theorem WP_cond {c : Operand} {a b : Code} : WP C f (.cond c a b) σ Q ↔ ∃ t, ev σ c = some (.bool t) ∧ if t = true then WP C f a σ Q else WP C f b σ Q := by
  simp only [WP, execW_cond, condL]
  constructor
  · rintro ⟨ex, σ', h, hq⟩
    split at h
    · rename_i t ht
      refine ⟨t, ht, ?_⟩
      cases t with
      | true => simp only [if_true] at h ⊢; exact ⟨ex, σ', h, hq⟩
      | false => simp only [Bool.false_eq_true, if_false] at h ⊢; exact ⟨ex, σ', h, hq⟩
    · cases h
  · rintro ⟨t, ht, h⟩
    rw [ht]
    cases t with
    | true => simpa using h
    | false => simpa using h

theorem WP_block {id : Nat} {b : Code} : WP C f (.block id b) σ Q ↔ WP C f b σ (blockQ id Q) := by
  simp only [WP, execW_block]
  constructor
  · rintro ⟨ex, σ', h, hq⟩
    obtain ⟨⟨ex1, σ1⟩, h1, h2⟩ := blockL_some.1 h
    refine ⟨ex1, σ1, h1, ?_⟩
    cases ex1 with
    | norm => simp only [blockL] at h2; cases h2; exact hq
    | ret => simp only [blockL] at h2; cases h2; exact hq
    | exit i =>
      simp only [blockL] at h2
      simp only [blockQ]
      split at h2
      · rename_i hi; cases h2; simp only [hi, if_true]; exact hq
      · rename_i hi; cases h2; simp only [hi, if_false]; exact hq
  · rintro ⟨ex, σ', h, hq⟩
    cases ex with
    | norm => exact ⟨.norm, σ', by rw [h]; rfl, hq⟩
    | ret => exact ⟨.ret, σ', by rw [h]; rfl, hq⟩
    | exit i =>
      simp only [blockQ] at hq
      by_cases hi : i = id
      · simp only [hi, if_true] at hq; exact ⟨.norm, σ', by rw [h]; simp [blockL, hi], hq⟩
      · simp only [hi, if_false] at hq; exact ⟨.exit i, σ', by rw [h]; simp [blockL, hi], hq⟩

theorem WP.mono {c : Code} {Q' : Ex → St → Prop} (h : WP C f c σ Q) (hq : ∀ ex σ', Q ex σ' → Q' ex σ') : WP C f c σ Q' := by
  obtain ⟨ex, σ', h1, h2⟩ := h
  exact ⟨ex, σ', h1, hq _ _ h2⟩

/-- A loop: what stands ahead of each round, and fewer rounds to come each time. -/
theorem WP_loop {b : Code} (I : Nat → St → Prop) (h : ∀ k σ, I k σ → WP C f b σ (loopQ I k Q)) : ∀ k σ, I k σ → WP C f (.loop b) σ Q := by
  intro k
  induction k using Nat.strongRecOn with
  | ind k ih =>
    intro σ hi
    obtain ⟨ex, σ', h1, h2⟩ := h k σ hi
    cases ex with
    | norm =>
      obtain ⟨k', hk, hi'⟩ := h2
      obtain ⟨ex2, σ2, h3, h4⟩ := ih k' hk σ' hi'
      exact ⟨ex2, σ2, by rw [execW_loop]; exact thenL_some.2 (.inl ⟨σ', h1, h3⟩), h4⟩
    | ret => exact ⟨.ret, σ', by rw [execW_loop]; exact thenL_some.2 (.inr ⟨h1, by simp⟩), h2⟩
    | exit i => exact ⟨.exit i, σ', by rw [execW_loop]; exact thenL_some.2 (.inr ⟨h1, by simp⟩), h2⟩

theorem Ret_fn {g : Nat} {F : Func} {c : Code} (hp : C.prim g = none) (hid : C.fids g = true) (hF : C.funcs g = some F) (hc : F.body = some c) {a : List V} {H : List Ob} {R : V → List Ob → Prop} :
    Ret C g a H R ↔ WP C g c ⟨initRegs a, 0, H⟩ (finQ C F H R) := by
  simp only [Ret, callW_fn hp hid hF hc]
  constructor
  · rintro ⟨r, H', h, hq⟩
    obtain ⟨⟨ex, σ1⟩, h1, h2⟩ := finL_some.1 h
    refine ⟨ex, σ1, h1, ?_⟩
    cases ex with
    | norm =>
      simp only [finL] at h2
      split at h2
      · rename_i vs hv; cases h2; exact ⟨vs, hv, hq⟩
      · cases h2
    | ret =>
      simp only [finL] at h2
      split at h2
      · rename_i vs hv; cases h2; exact ⟨vs, hv, hq⟩
      · cases h2
    | exit i => simp [finL] at h2
  · rintro ⟨ex, σ1, h1, hq⟩
    cases ex with
    | norm => obtain ⟨vs, hv, hq⟩ := hq; exact ⟨_, _, by rw [h1]; simp only [finL, hv], hq⟩
    | ret => obtain ⟨vs, hv, hq⟩ := hq; exact ⟨_, _, by rw [h1]; simp only [finL, hv], hq⟩
    | exit i => exact hq.elim

attribute [simp] seqQ_norm seqQ_ret seqQ_exit blockQ_norm blockQ_ret blockQ_exit loopQ_norm loopQ_ret loopQ_exit finQ_norm finQ_ret finQ_exit WP_skip WP_ret WP_exit WP_region WP_seq WP_cond WP_block

theorem gcH_same {H : List Ob} {r : V} : gcH H H r = H := by unfold gcH; split <;> rfl
theorem ext_append {H T : List Ob} : Ext H (H ++ T) := ⟨T, rfl⟩
theorem gcH_low {H T : List Ob} {r : V} (h : lowV H r) : gcH H (H ++ T) r = H := by
  unfold gcH
  rw [if_pos ⟨ext_append, h⟩]
theorem gcH_new {H T : List Ob} {off n : Nat} : gcH H (H ++ T) (.slc (some (H.length, off)) n) = H ++ T := by
  unfold gcH
  rw [if_neg]
  rintro ⟨_, own, es, cells, h⟩
  simp at h
theorem gcH_int {H T : List Ob} {k : IntKind} {n : Int} : gcH H (H ++ T) (.int k n) = H := gcH_low trivial
theorem gcH_bool {H T : List Ob} {b : Bool} : gcH H (H ++ T) (.bool b) = H := gcH_low trivial
theorem gcH_str {H T : List Ob} {s : List UInt8} : gcH H (H ++ T) (.str s) = H := gcH_low trivial
attribute [simp] gcH_same gcH_new gcH_int gcH_bool gcH_str
end
end Go.Lite

namespace Go.Lite
open Go
set_option linter.unusedSimpArgs false
set_option linter.unusedVariables false

abbrev Str := List UInt8

/-- A slice whose elements' cells are so. -/
def Sl {α : Type} (H : List Ob) (es : Nat) (R : List V → α → Prop) (v : V) (xs : List α) : Prop :=
  (v = .slc none 0 ∧ xs = []) ∨ ∃ id off own cells, v = .slc (some (id, off)) xs.length ∧ H[id]? = some (.mk own es cells) ∧ off + xs.length * es ≤ cells.length ∧
    ∀ i x, xs[i]? = some x → R ((cells.drop (off + i * es)).take es) x

def AtStr (cs : List V) (s : Str) : Prop := cs = [.str s]

/-- A slice of texts. -/
abbrev Strs (H : List Ob) (v : V) (xs : List Str) : Prop := Sl H 1 AtStr v xs

section
variable {α : Type} {H T : List Ob} {es : Nat} {R R' : List V → α → Prop} {v : V} {xs : List α}

theorem Sl.mono (h : Sl H es R v xs) (hR : ∀ cs x, R cs x → R' cs x) : Sl (H ++ T) es R' v xs := by
  rcases h with h | ⟨id, off, own, cells, h1, h2, h3, h4⟩
  · exact .inl h
  · exact .inr ⟨id, off, own, cells, h1, by rw [List.getElem?_append_left (List.getElem?_eq_some_iff.1 h2).1]; exact h2, h3, fun i x hx => hR _ _ (h4 i x hx)⟩

theorem Sl.len (h : Sl H es R v xs) {e s b : Nat} {z : List V} : lenV ⟨.slice e, s, b, z⟩ v = some (.int .i64 xs.length) := by
  rcases h with ⟨rfl, rfl⟩ | ⟨id, off, own, cells, rfl, _⟩ <;> rfl

/-- An element's place. -/
theorem Sl.idx (h : Sl H es R v xs) {i : Nat} {x : α} (hx : xs[i]? = some x) (hes : es ≠ 0) : ∃ id o own cells,
    (∀ (e s b : Nat) (z : List V) (ty : Nat → LT) (k : IntKind), (ty e).size = es → indexR ⟨.slice e, s, b, z⟩ ty (.val v) (.int k i) = some (.val (.ptr (some (id, o))))) ∧
    H[id]? = some (.mk own es cells) ∧ o + es ≤ cells.length ∧ R ((cells.drop o).take es) x := by
  rcases h with ⟨rfl, rfl⟩ | ⟨id, off, own, cells, rfl, h2, h3, h4⟩
  · simp at hx
  · have hi : i < xs.length := (List.getElem?_eq_some_iff.1 hx).1
    refine ⟨id, off + i * es, own, cells, fun e s b z ty k he => ?_, h2, ?_, h4 i x hx⟩
    · have h0 : (0 : Int) ≤ (i : Int) := Int.natCast_nonneg i
      have h5 : (i : Int) < (xs.length : Int) := by exact_mod_cast hi
      simp only [indexR, h0, h5, and_self, if_true, he, hes, if_false, Int.toNat_natCast]
    · have : (i + 1) * es ≤ xs.length * es := Nat.mul_le_mul_right _ hi
      rw [Nat.succ_mul] at this
      omega

theorem cells_get {cells l : List V} {o n : Nat} (h : (cells.drop o).take n = l) {j : Nat} {v : V} (hj : l[j]? = some v) : cells[o + j]? = some v := by
  subst h
  have hjn : j < n := by
    rcases Nat.lt_or_ge j n with h | h
    · exact h
    · rw [List.getElem?_eq_none (by simp; omega)] at hj; cases hj
  rwa [List.getElem?_take_of_lt hjn, List.getElem?_drop] at hj

/-- One cell is read. -/
theorem load_one {T : LT} {id o es : Nat} {own : Bool} {cells : List V} {v : V} (h : H[id]? = some (.mk own es cells)) (hc : cells[o]? = some v) (hz : T.size ≠ 0) (ha : T.isAgg = false) :
    ∀ r c, loadAt T ⟨r, c, H⟩ (.hp id o) = some v := by
  intro r c
  obtain ⟨ho, rfl⟩ := List.getElem?_eq_some_iff.1 hc
  simp only [loadAt, hz, if_false, cellsAt, h, Pl.off, LT.num, ha, Bool.false_eq_true, rdCells]
  rw [if_pos (by omega), List.drop_eq_getElem_cons ho]
  rfl

/-- More cells are read. -/
theorem load_agg {T : LT} {id o es : Nat} {own : Bool} {cells l : List V} (h : H[id]? = some (.mk own es cells)) (hl : o + T.size ≤ cells.length) (hc : (cells.drop o).take T.size = l) (hz : T.size ≠ 0) (ha : T.isAgg = true) :
    ∀ r c, loadAt T ⟨r, c, H⟩ (.hp id o) = some (.agg l) := by
  intro r c
  simp only [loadAt, hz, if_false, cellsAt, h, Pl.off, LT.num, ha, if_true, rdCells]
  rw [if_pos hl, hc]
  rfl

/-- A cell is written. -/
theorem store_one {T : LT} {id o es : Nat} {cells : List V} {v : V} (h : H[id]? = some (.mk true es cells)) (ho : o < cells.length) (hz : T.size = 1) (hv : cellsOf v = some [v]) (h1 : isOne v = true) :
    ∀ r c, storeAt T ⟨r, c, H⟩ (.hp id o) v = some ⟨r, c, H.set id (.mk true es (cells.set o v))⟩ := by
  intro r c
  have hl : o + [v].length ≤ cells.length := by simp; omega
  simp only [storeAt, hv, hz, List.length_singleton, List.all_cons, List.all_nil, Bool.and_true, h1, writeAt, h]
  rw [if_pos ⟨by omega, trivial, trivial⟩]
  rw [if_pos (by omega), setRange_one ho]

theorem Sl.one (h : Sl H es R v xs) : isOne v = true ∧ cellsOf v = some [v] := by
  rcases h with ⟨rfl, rfl⟩ | ⟨id, off, own, cells, rfl, _⟩ <;> exact ⟨rfl, rfl⟩

theorem get_mid {a : Ob} : (H ++ a :: T)[H.length]? = some a := by simp
theorem set_mid {a b : Ob} : (H ++ a :: T).set H.length b = H ++ b :: T := by
  rw [List.set_append_right _ _ (Nat.le_refl _)]
  simp

/-- More cells are written. -/
theorem store_agg {T : LT} {id o es : Nat} {cells l : List V} (h : H[id]? = some (.mk true es cells)) (ho : o + l.length ≤ cells.length) (hz : T.size = l.length) (hp : l ≠ []) (h1 : l.all isOne = true) :
    ∀ r c, storeAt T ⟨r, c, H⟩ (.hp id o) (.agg l) = some ⟨r, c, H.set id (.mk true es (setRange cells o l))⟩ := by
  intro r c
  have : 0 < l.length := List.length_pos_iff.2 hp
  simp only [storeAt, cellsOf, hz, writeAt, h]
  rw [if_pos ⟨this, trivial, h1⟩, if_pos ho]

/-- One more element is laid. -/
theorem lay_step {done x zs rest : List V} (hx : x.length = zs.length) : setRange (done ++ (zs ++ rest)) done.length x = (done ++ x) ++ rest := by
  unfold setRange
  rw [List.take_left, ← List.append_assoc done, List.drop_append_of_le_length (by simp; omega)]
  rw [show done.length + x.length = (done ++ zs).length by simp [hx], List.drop_length, List.nil_append]

/-- Elements' cells, one behind the other. -/
theorem Sl.ext_heap (h : Sl H es R v xs) : Sl (H ++ T) es R v xs := h.mono fun _ _ h => h

end
end Go.Lite

namespace Go.Lite
open Go
set_option linter.unusedSimpArgs false
set_option linter.unusedVariables false

theorem Sh.size_int {k : IntKind} : (Sh.int k).size = 1 := rfl
theorem Sh.size_bool : Sh.bool.size = 1 := rfl
theorem Sh.size_str : Sh.str.size = 1 := rfl
theorem Sh.size_slice {e : Sh} : (Sh.slice e).size = 1 := rfl
theorem Sh.size_st {fs : List Sh} : (Sh.st fs).size = Sh.sizes fs := rfl
theorem Sh.sizes_nil : Sh.sizes [] = 0 := rfl
theorem Sh.sizes_cons {f : Sh} {fs : List Sh} : Sh.sizes (f :: fs) = f.size + Sh.sizes fs := rfl
attribute [simp] Sh.size_int Sh.size_bool Sh.size_str Sh.size_slice Sh.size_st Sh.sizes_nil Sh.sizes_cons

/-- A type of one cell, and one of more cells. -/
def LT.one (T : LT) : Prop := T.size = 1 ∧ T.isAgg = false
def LT.many (T : LT) (n : Nat) : Prop := T.size = n ∧ T.isAgg = true
section
variable {b e : Nat} {z : List V}
theorem one_int {k : IntKind} : LT.one ⟨.int k, 1, b, z⟩ := ⟨rfl, rfl⟩
theorem one_bool : LT.one ⟨.bool, 1, b, z⟩ := ⟨rfl, rfl⟩
theorem one_str : LT.one ⟨.str, 1, b, z⟩ := ⟨rfl, rfl⟩
theorem one_ptr : LT.one ⟨.ptr, 1, b, z⟩ := ⟨rfl, rfl⟩
theorem one_func : LT.one ⟨.func, 1, b, z⟩ := ⟨rfl, rfl⟩
theorem one_iface : LT.one ⟨.iface, 1, b, z⟩ := ⟨rfl, rfl⟩
theorem one_slice : LT.one ⟨.slice e, 1, b, z⟩ := ⟨rfl, rfl⟩
theorem many_struct {fs : List (Nat × Nat)} {n m : Nat} : LT.many ⟨.struct fs, n, b, z⟩ m ↔ n = m := ⟨fun h => h.1, fun h => ⟨h, rfl⟩⟩
theorem many_array {k n m : Nat} : LT.many ⟨.array k e, n, b, z⟩ m ↔ n = m := ⟨fun h => h.1, fun h => ⟨h, rfl⟩⟩
end
attribute [simp] one_int one_bool one_str one_ptr one_func one_iface one_slice many_struct many_array

section
variable {H : List Ob}
theorem load1 {id o es : Nat} {own : Bool} {cells : List V} {v : V} (h : H[id]? = some (.mk own es cells)) (hc : cells[o]? = some v) : ∀ T : LT, T.one → ∀ r c, loadAt T ⟨r, c, H⟩ (.hp id o) = some v :=
  fun T hT => load_one h hc (by rw [hT.1]; decide) hT.2
theorem loadN {id o es n : Nat} {own : Bool} {cells l : List V} (h : H[id]? = some (.mk own es cells)) (hl : o + n ≤ cells.length) (hn : n ≠ 0) (hc : (cells.drop o).take n = l) : ∀ T : LT, T.many n → ∀ r c, loadAt T ⟨r, c, H⟩ (.hp id o) = some (.agg l) :=
  fun T hT => load_agg h (by rw [hT.1]; exact hl) (by rw [hT.1]; exact hc) (by rw [hT.1]; exact hn) hT.2
theorem store1 {id o es : Nat} {cells : List V} {v : V} (h : H[id]? = some (.mk true es cells)) (ho : o < cells.length) (hv : cellsOf v = some [v]) (h1 : isOne v = true) : ∀ T : LT, T.one → ∀ r c, storeAt T ⟨r, c, H⟩ (.hp id o) v = some ⟨r, c, H.set id (.mk true es (cells.set o v))⟩ :=
  fun T hT => store_one h ho hT.1 hv h1
theorem storeN {id o es : Nat} {cells l : List V} (h : H[id]? = some (.mk true es cells)) (ho : o + l.length ≤ cells.length) (hp : l ≠ []) (h1 : l.all isOne = true) : ∀ T : LT, T.many l.length → ∀ r c, storeAt T ⟨r, c, H⟩ (.hp id o) (.agg l) = some ⟨r, c, H.set id (.mk true es (setRange cells o l))⟩ :=
  fun T hT => store_agg h ho hT.1 hp h1
end

/-- Plain data; nil is the empty list. -/
inductive U where
  | int (n : Int)
  | bool (b : Bool)
  | str (s : Str)
  | lst (l : List U)
  | st (l : List U)

mutual
/-- The cells are this datum. -/
def At (H : List Ob) : Sh → (List V → U → Prop)
  | .int k => fun cs u => ∃ n, cs = [.int k n] ∧ u = .int n ∧ (Lit.int k n).wf = true
  | .bool => fun cs u => ∃ b, cs = [.bool b] ∧ u = .bool b
  | .str => fun cs u => ∃ s, cs = [.str s] ∧ u = .str s ∧ s.length ≤ maxLen
  | .slice e => fun cs u => ∃ v l, cs = [v] ∧ u = .lst l ∧ l.length ≤ maxLen ∧ Sl H e.size (At H e) v l
  | .st fs => fun cs u => ∃ us, u = .st us ∧ Ats H fs cs us
def Ats (H : List Ob) : List Sh → (List V → List U → Prop)
  | [] => fun cs us => cs = [] ∧ us = []
  | f :: fs => fun cs us => ∃ c1 c2 u us', cs = c1 ++ c2 ∧ us = u :: us' ∧ At H f c1 u ∧ Ats H fs c2 us'
end

section
variable {H : List Ob} {cs : List V} {u : U}
theorem At_int {k : IntKind} : At H (.int k) cs u ↔ ∃ n, cs = [.int k n] ∧ u = .int n ∧ (Lit.int k n).wf = true := by simp only [At]
theorem At_bool : At H .bool cs u ↔ ∃ b, cs = [.bool b] ∧ u = .bool b := by simp only [At]
theorem At_str : At H .str cs u ↔ ∃ s, cs = [.str s] ∧ u = .str s ∧ s.length ≤ maxLen := by simp only [At]
theorem At_slice {e : Sh} : At H (.slice e) cs u ↔ ∃ v l, cs = [v] ∧ u = .lst l ∧ l.length ≤ maxLen ∧ Sl H e.size (At H e) v l := by simp only [At]
theorem At_st {fs : List Sh} : At H (.st fs) cs u ↔ ∃ us, u = .st us ∧ Ats H fs cs us := by simp only [At]
theorem Ats_nil {us : List U} : Ats H [] cs us ↔ cs = [] ∧ us = [] := by simp only [Ats]
theorem Ats_cons {f : Sh} {fs : List Sh} {us : List U} : Ats H (f :: fs) cs us ↔ ∃ c1 c2 u us', cs = c1 ++ c2 ∧ us = u :: us' ∧ At H f c1 u ∧ Ats H fs c2 us' := by simp only [Ats]
end

/-- A slice of one's own: the objects 'F' belong to it. -/
def SlF {α : Type} (H : List Ob) (es : Nat) (R : List V → α → List Nat → Prop) (v : V) (xs : List α) (F : List Nat) : Prop :=
  (v = .slc none 0 ∧ xs = [] ∧ F = []) ∨ ∃ (id off : Nat) (cells : List V) (Fs : List (List Nat)), v = .slc (some (id, off)) xs.length ∧ H[id]? = some (.mk true es cells) ∧ off + xs.length * es ≤ cells.length ∧
    Fs.length = xs.length ∧ F = id :: Fs.flatten ∧ ∀ i x G, xs[i]? = some x → Fs[i]? = some G → R ((cells.drop (off + i * es)).take es) x G

mutual
/-- The cells are this datum, and the objects 'F' belong to it. -/
def AtF (H : List Ob) : Sh → (List V → U → List Nat → Prop)
  | .int k => fun cs u F => (∃ n, cs = [.int k n] ∧ u = .int n ∧ (Lit.int k n).wf = true) ∧ F = []
  | .bool => fun cs u F => (∃ b, cs = [.bool b] ∧ u = .bool b) ∧ F = []
  | .str => fun cs u F => (∃ s, cs = [.str s] ∧ u = .str s ∧ s.length ≤ maxLen) ∧ F = []
  | .slice e => fun cs u F => ∃ v l, cs = [v] ∧ u = .lst l ∧ l.length ≤ maxLen ∧ SlF H e.size (AtF H e) v l F
  | .st fs => fun cs u F => ∃ us, u = .st us ∧ AtsF H fs cs us F
def AtsF (H : List Ob) : List Sh → (List V → List U → List Nat → Prop)
  | [] => fun cs us F => cs = [] ∧ us = [] ∧ F = []
  | f :: fs => fun cs us F => ∃ c1 c2 u us' F1 F2, cs = c1 ++ c2 ∧ us = u :: us' ∧ F = F1 ++ F2 ∧ AtF H f c1 u F1 ∧ AtsF H fs c2 us' F2
end

section
variable {H : List Ob} {cs : List V} {u : U} {F : List Nat}
theorem AtF_int {k : IntKind} : AtF H (.int k) cs u F ↔ (∃ n, cs = [.int k n] ∧ u = .int n ∧ (Lit.int k n).wf = true) ∧ F = [] := by simp only [AtF]
theorem AtF_bool : AtF H .bool cs u F ↔ (∃ b, cs = [.bool b] ∧ u = .bool b) ∧ F = [] := by simp only [AtF]
theorem AtF_str : AtF H .str cs u F ↔ (∃ s, cs = [.str s] ∧ u = .str s ∧ s.length ≤ maxLen) ∧ F = [] := by simp only [AtF]
theorem AtF_slice {e : Sh} : AtF H (.slice e) cs u F ↔ ∃ v l, cs = [v] ∧ u = .lst l ∧ l.length ≤ maxLen ∧ SlF H e.size (AtF H e) v l F := by simp only [AtF]
theorem AtF_st {fs : List Sh} : AtF H (.st fs) cs u F ↔ ∃ us, u = .st us ∧ AtsF H fs cs us F := by simp only [AtF]
theorem AtsF_nil {us : List U} : AtsF H [] cs us F ↔ cs = [] ∧ us = [] ∧ F = [] := by simp only [AtsF]
theorem AtsF_cons {f : Sh} {fs : List Sh} {us : List U} : AtsF H (f :: fs) cs us F ↔ ∃ c1 c2 u us' F1 F2, cs = c1 ++ c2 ∧ us = u :: us' ∧ F = F1 ++ F2 ∧ AtF H f c1 u F1 ∧ AtsF H fs c2 us' F2 := by simp only [AtsF]
end

theorem Ret.eq {C : Ctx} {g : Nat} {a : List V} {H : List Ob} {x : V} (h : Ret C g a H fun r H' => r = x ∧ H' = H) : callW C g a H = some (x, H) := by
  obtain ⟨r, H', hc, rfl, rfl⟩ := h
  exact hc

section
variable {H H' T : List Ob}

theorem Sl.map {α : Type} {es : Nat} {R R' : List V → α → Prop} {v : V} {xs : List α} (h : Sl H es R v xs) (hH : ∀ (id : Nat) o, H[id]? = some o → H'[id]? = some o) (hR : ∀ cs x, R cs x → R' cs x) : Sl H' es R' v xs := by
  rcases h with h | ⟨id, off, own, cells, h1, h2, h3, h4⟩
  · exact .inl h
  · exact .inr ⟨id, off, own, cells, h1, hH _ _ h2, h3, fun i x hx => hR _ _ (h4 i x hx)⟩

mutual
theorem At.up (hH : ∀ (id : Nat) o, H[id]? = some o → H'[id]? = some o) : ∀ (sh : Sh) {cs : List V} {u : U}, At H sh cs u → At H' sh cs u
  | .int k, _, _, h => h
  | .bool, _, _, h => h
  | .str, _, _, h => h
  | .slice e, _, _, h => by
    simp only [At] at h ⊢
    obtain ⟨v, l, h1, h2, h3, h4⟩ := h
    exact ⟨v, l, h1, h2, h3, h4.map hH fun _ _ h => At.up hH e h⟩
  | .st fs, _, _, h => by
    simp only [At] at h ⊢
    obtain ⟨us, h1, h2⟩ := h
    exact ⟨us, h1, Ats.up hH fs h2⟩
theorem Ats.up (hH : ∀ (id : Nat) o, H[id]? = some o → H'[id]? = some o) : ∀ (fs : List Sh) {cs : List V} {us : List U}, Ats H fs cs us → Ats H' fs cs us
  | [], _, _, h => h
  | f :: fs, _, _, h => by
    simp only [Ats] at h ⊢
    obtain ⟨c1, c2, u, us', h1, h2, h3, h4⟩ := h
    exact ⟨c1, c2, u, us', h1, h2, At.up hH f h3, Ats.up hH fs h4⟩
end

theorem up_append : ∀ (id : Nat) o, H[id]? = some o → (H ++ T)[id]? = some o := fun id o h => by
  rw [List.getElem?_append_left (List.getElem?_eq_some_iff.1 h).1]; exact h

theorem At.ext {sh : Sh} {cs : List V} {u : U} (h : At H sh cs u) : At (H ++ T) sh cs u := h.up up_append

theorem take_eq_len {α : Type} {l : List α} {n : Nat} {m : List α} (h : l.take n = m) (hn : m.length = n) : n ≤ l.length := by
  subst h; simp at hn; omega

mutual
theorem At.len : ∀ (sh : Sh) {cs : List V} {u : U}, At H sh cs u → cs.length = sh.size
  | .int k, _, _, h => by simp only [At] at h; obtain ⟨n, rfl, _⟩ := h; rfl
  | .bool, _, _, h => by simp only [At] at h; obtain ⟨n, rfl, _⟩ := h; rfl
  | .str, _, _, h => by simp only [At] at h; obtain ⟨n, rfl, _⟩ := h; rfl
  | .slice e, _, _, h => by simp only [At] at h; obtain ⟨v, l, rfl, _⟩ := h; rfl
  | .st fs, _, _, h => by
    simp only [At] at h
    obtain ⟨us, _, h2⟩ := h
    rw [Ats.len fs h2, Sh.size]
theorem Ats.len : ∀ (fs : List Sh) {cs : List V} {us : List U}, Ats H fs cs us → cs.length = Sh.sizes fs
  | [], _, _, h => by simp only [Ats] at h; rw [h.1]; rfl
  | f :: fs, _, _, h => by
    simp only [Ats] at h
    obtain ⟨c1, c2, u, us', rfl, _, h3, h4⟩ := h
    rw [List.length_append, At.len f h3, Ats.len fs h4, Sh.sizes]
end

theorem SlF.sl {α : Type} {es : Nat} {R : List V → α → List Nat → Prop} {R' : List V → α → Prop} {v : V} {xs : List α} {F : List Nat} (h : SlF H es R v xs F) (hR : ∀ cs x G, R cs x G → R' cs x) : Sl H es R' v xs := by
  rcases h with ⟨h1, h2, _⟩ | ⟨id, off, cells, Fs, h1, h2, h3, h4, _, h5⟩
  · exact .inl ⟨h1, h2⟩
  · refine .inr ⟨id, off, true, cells, h1, h2, h3, fun i x hx => ?_⟩
    have hi : i < Fs.length := by rw [h4]; exact (List.getElem?_eq_some_iff.1 hx).1
    exact hR _ _ _ (h5 i x Fs[i] hx (List.getElem?_eq_getElem hi))

mutual
theorem AtF.at : ∀ (sh : Sh) {cs : List V} {u : U} {F : List Nat}, AtF H sh cs u F → At H sh cs u
  | .int k, _, _, _, h => by simp only [AtF, At] at h ⊢; exact h.1
  | .bool, _, _, _, h => by simp only [AtF, At] at h ⊢; exact h.1
  | .str, _, _, _, h => by simp only [AtF, At] at h ⊢; exact h.1
  | .slice e, _, _, _, h => by
    simp only [AtF, At] at h ⊢
    obtain ⟨v, l, h1, h2, h3, h4⟩ := h
    exact ⟨v, l, h1, h2, h3, h4.sl fun _ _ _ h => AtF.at e h⟩
  | .st fs, _, _, _, h => by
    simp only [AtF, At] at h ⊢
    obtain ⟨us, h1, h2⟩ := h
    exact ⟨us, h1, AtsF.ats fs h2⟩
theorem AtsF.ats : ∀ (fs : List Sh) {cs : List V} {us : List U} {F : List Nat}, AtsF H fs cs us F → Ats H fs cs us
  | [], _, _, _, h => by simp only [AtsF, Ats] at h ⊢; exact ⟨h.1, h.2.1⟩
  | f :: fs, _, _, _, h => by
    simp only [AtsF, Ats] at h ⊢
    obtain ⟨c1, c2, u, us', F1, F2, h1, h2, _, h3, h4⟩ := h
    exact ⟨c1, c2, u, us', h1, h2, AtF.at f h3, AtsF.ats fs h4⟩
end

theorem SlF.frame {α : Type} {es : Nat} {R R' : List V → α → List Nat → Prop} {v : V} {xs : List α} {F : List Nat} (h : SlF H es R v xs F) (hF : ∀ id ∈ F, H'[id]? = H[id]?)
    (hR : ∀ cs x G, (∀ id ∈ G, H'[id]? = H[id]?) → R cs x G → R' cs x G) : SlF H' es R' v xs F := by
  rcases h with h | ⟨id, off, cells, Fs, h1, h2, h3, h4, h5, h6⟩
  · exact .inl h
  · subst h5
    refine .inr ⟨id, off, cells, Fs, h1, by rw [hF id List.mem_cons_self]; exact h2, h3, h4, rfl, fun i x G hx hG => ?_⟩
    exact hR _ _ _ (fun j hj => hF j (List.mem_cons_of_mem _ (List.mem_flatten.2 ⟨G, List.mem_of_getElem? hG, hj⟩))) (h6 i x G hx hG)

mutual
theorem AtF.frame : ∀ (sh : Sh) {cs : List V} {u : U} {F : List Nat}, (∀ id ∈ F, H'[id]? = H[id]?) → AtF H sh cs u F → AtF H' sh cs u F
  | .int k, _, _, _, _, h => by simpa only [AtF] using h
  | .bool, _, _, _, _, h => by simpa only [AtF] using h
  | .str, _, _, _, _, h => by simpa only [AtF] using h
  | .slice e, _, _, _, hF, h => by
    simp only [AtF] at h ⊢
    obtain ⟨v, l, h1, h2, h3, h4⟩ := h
    exact ⟨v, l, h1, h2, h3, h4.frame hF fun _ _ _ hG h => AtF.frame e hG h⟩
  | .st fs, _, _, _, hF, h => by
    simp only [AtF] at h ⊢
    obtain ⟨us, h1, h2⟩ := h
    exact ⟨us, h1, AtsF.frame fs hF h2⟩
theorem AtsF.frame : ∀ (fs : List Sh) {cs : List V} {us : List U} {F : List Nat}, (∀ id ∈ F, H'[id]? = H[id]?) → AtsF H fs cs us F → AtsF H' fs cs us F
  | [], _, _, _, _, h => by simpa only [AtsF] using h
  | f :: fs, _, _, _, hF, h => by
    simp only [AtsF] at h ⊢
    obtain ⟨c1, c2, u, us', F1, F2, h1, h2, rfl, h3, h4⟩ := h
    exact ⟨c1, c2, u, us', F1, F2, h1, h2, rfl, AtF.frame f (fun j hj => hF j (List.mem_append_left _ hj)) h3, AtsF.frame fs (fun j hj => hF j (List.mem_append_right _ hj)) h4⟩
end

/-- The objects that belong to a datum stand in the heap. -/
theorem SlF.mem {α : Type} {es : Nat} {R : List V → α → List Nat → Prop} {v : V} {xs : List α} {F : List Nat} (h : SlF H es R v xs F) (hR : ∀ cs x G, R cs x G → ∀ id ∈ G, id < H.length) : ∀ id ∈ F, id < H.length := by
  rcases h with ⟨_, _, rfl⟩ | ⟨id, off, cells, Fs, h1, h2, h3, h4, rfl, h6⟩
  · intro id h; cases h
  · intro j hj
    rcases List.mem_cons.1 hj with rfl | hj
    · exact (List.getElem?_eq_some_iff.1 h2).1
    · obtain ⟨G, hG, hj⟩ := List.mem_flatten.1 hj
      obtain ⟨i, hi, rfl⟩ := List.getElem_of_mem hG
      exact hR _ _ _ (h6 i (xs[i]'(by omega)) Fs[i] (List.getElem?_eq_getElem _) (List.getElem?_eq_getElem _)) j hj

mutual
theorem AtF.mem : ∀ (sh : Sh) {cs : List V} {u : U} {F : List Nat}, AtF H sh cs u F → ∀ id ∈ F, id < H.length
  | .int k, _, _, _, h => by simp only [AtF] at h; rw [h.2]; intro _ h; cases h
  | .bool, _, _, _, h => by simp only [AtF] at h; rw [h.2]; intro _ h; cases h
  | .str, _, _, _, h => by simp only [AtF] at h; rw [h.2]; intro _ h; cases h
  | .slice e, _, _, _, h => by
    simp only [AtF] at h
    obtain ⟨v, l, h1, h2, h3, h4⟩ := h
    exact h4.mem fun _ _ _ h => AtF.mem e h
  | .st fs, _, _, _, h => by
    simp only [AtF] at h
    obtain ⟨us, h1, h2⟩ := h
    exact AtsF.mem fs h2
theorem AtsF.mem : ∀ (fs : List Sh) {cs : List V} {us : List U} {F : List Nat}, AtsF H fs cs us F → ∀ id ∈ F, id < H.length
  | [], _, _, _, h => by simp only [AtsF] at h; rw [h.2.2]; intro _ h; cases h
  | f :: fs, _, _, _, h => by
    simp only [AtsF] at h
    obtain ⟨c1, c2, u, us', F1, F2, h1, h2, rfl, h3, h4⟩ := h
    intro id hid
    rcases List.mem_append.1 hid with hid | hid
    · exact AtF.mem f h3 id hid
    · exact AtsF.mem fs h4 id hid
end

theorem AtF.ext {sh : Sh} {cs : List V} {u : U} {F : List Nat} (h : AtF H sh cs u F) : AtF (H ++ T) sh cs u F :=
  h.frame sh fun id hid => List.getElem?_append_left (AtF.mem sh h id hid)

/-- A value out of new objects is not low, unless none belong to it: so the heap may be cut. -/
theorem lowVs_append {a b : List V} : lowVs H (a ++ b) ↔ lowVs H a ∧ lowVs H b := by
  induction a with
  | nil => simp [lowVs]
  | cons x xs ih => simp only [List.cons_append, lowVs, ih, and_assoc]

mutual
theorem AtF.cut : ∀ (sh : Sh) {cs : List V} {u : U} {F : List Nat}, AtF (H ++ T) sh cs u F → (∀ id ∈ F, H.length ≤ id) → lowVs H cs → F = []
  | .int k, _, _, _, h, _, _ => by simp only [AtF] at h; exact h.2
  | .bool, _, _, _, h, _, _ => by simp only [AtF] at h; exact h.2
  | .str, _, _, _, h, _, _ => by simp only [AtF] at h; exact h.2
  | .slice e, _, _, _, h, hF, hl => by
    simp only [AtF] at h
    obtain ⟨v, l, rfl, h2, h3, h4⟩ := h
    rcases h4 with ⟨_, _, rfl⟩ | ⟨id, off, cells, Fs, rfl, g2, g3, g4, rfl, g6⟩
    · rfl
    · simp only [lowVs, lowV, thereAt, and_true] at hl
      obtain ⟨own, es, cells, hl⟩ := hl
      have := (List.getElem?_eq_some_iff.1 hl).1
      have := hF id List.mem_cons_self
      omega
  | .st fs, _, _, _, h, hF, hl => by
    simp only [AtF] at h
    obtain ⟨us, h1, h2⟩ := h
    exact AtsF.cut fs h2 hF hl
theorem AtsF.cut : ∀ (fs : List Sh) {cs : List V} {us : List U} {F : List Nat}, AtsF (H ++ T) fs cs us F → (∀ id ∈ F, H.length ≤ id) → lowVs H cs → F = []
  | [], _, _, _, h, _, _ => by simp only [AtsF] at h; exact h.2.2
  | f :: fs, _, _, _, h, hF, hl => by
    simp only [AtsF] at h
    obtain ⟨c1, c2, u, us', F1, F2, rfl, h2, rfl, h3, h4⟩ := h
    rw [lowVs_append] at hl
    rw [AtF.cut f h3 (fun id hid => hF id (List.mem_append_left _ hid)) hl.1, AtsF.cut fs h4 (fun id hid => hF id (List.mem_append_right _ hid)) hl.2]
    rfl
end
end

mutual
/-- How great a datum is, as the laws count it. -/
def wt : U → Nat
  | .str s => s.length
  | .lst l => l.length + wts l
  | .st l => wts l
  | _ => 0
def wts : List U → Nat
  | [] => 0
  | u :: us => wt u + wts us
end
theorem wts_get {l : List U} {i : Nat} {u : U} (h : l[i]? = some u) : wt u ≤ wts l := by
  induction l generalizing i with
  | nil => cases h
  | cons x xs ih =>
    cases i with
    | zero => cases h; simp only [wts]; omega
    | succ i => simp only [wts]; have := ih (i := i) h; omega
theorem wts_take {l : List U} {i : Nat} {u : U} (h : l[i]? = some u) : wts (l.take (i + 1)) = wts (l.take i) + wt u := by
  induction l generalizing i with
  | nil => cases h
  | cons x xs ih =>
    cases i with
    | zero => cases h; simp [wts]
    | succ i => simp only [List.take_succ_cons, wts]; rw [ih (i := i) h]; omega
theorem wts_take_le {l : List U} {i : Nat} : wts (l.take i) ≤ wts l := by
  induction l generalizing i with
  | nil => simp [wts]
  | cons x xs ih =>
    cases i with
    | zero => simp [wts]
    | succ i => simp only [List.take_succ_cons, wts]; have := ih (i := i); omega

/-- The data's way from 'Is'. -/
def dU : D → U
  | .int n => .int n
  | .bool b => .bool b
  | .str s => .str s
  | .nil => .lst []
  | .lst l => .lst (dUs l)
  | .st l => .st (dUs l)
where dUs : List D → List U
  | [] => []
  | d :: ds => dU d :: dUs ds

theorem dUs_len : ∀ (l : List D), (dU.dUs l).length = l.length
  | [] => rfl
  | d :: ds => by simp [dU.dUs, dUs_len ds]
theorem dUs_get : ∀ (l : List D) (i : Nat), (dU.dUs l)[i]? = l[i]?.map dU
  | [], i => by simp [dU.dUs]
  | d :: ds, 0 => by simp [dU.dUs]
  | d :: ds, i + 1 => by simp [dU.dUs, dUs_get ds i]

mutual
theorem Is.at {H : List Ob} : ∀ (sh : Sh) {cs : List V} {d : D}, Is H sh cs d → At H sh cs (dU d)
  | .int k, cs, d, h => by
    unfold Is at h
    split at h <;> first | (exfalso; exact h) | (rename_i he; cases he) | skip
    all_goals (obtain ⟨rfl, rfl, h⟩ := h; exact ⟨_, rfl, rfl, h⟩)
  | .bool, cs, d, h => by
    unfold Is at h
    split at h <;> first | (exfalso; exact h) | (rename_i he; cases he) | skip
    all_goals (subst h; exact ⟨_, rfl, rfl⟩)
  | .str, cs, d, h => by
    unfold Is at h
    split at h <;> first | (exfalso; exact h) | (rename_i he; cases he) | skip
    all_goals (obtain ⟨rfl, h⟩ := h; exact ⟨_, rfl, rfl, h⟩)
  | .slice e, cs, d, h => by
    match cs, d, h with
    | [.slc none n], .nil, h =>
      simp only [Is] at h
      subst h
      simp only [At, dU]
      exact ⟨_, _, rfl, rfl, by simp, .inl ⟨rfl, rfl⟩⟩
    | [.slc (some (id, off)) n], .lst l, h =>
      simp only [Is] at h
      obtain ⟨rfl, h0, own, cells, h2, h3, h4⟩ := h
      simp only [At, dU]
      refine ⟨_, _, rfl, rfl, by rw [dUs_len]; exact h0, .inr ⟨id, off, own, cells, by rw [dUs_len], h2, by rw [dUs_len]; exact h3, fun i x hx => ?_⟩⟩
      rw [dUs_get] at hx
      obtain ⟨d, hd, rfl⟩ := Option.map_eq_some_iff.1 hx
      exact Is.at e (h4 i d hd)
  | .st fs, cs, d, h => by
    match d, h with
    | .st ds, h =>
      simp only [Is] at h
      simp only [At, dU]
      exact ⟨_, rfl, IsAll.ats fs h⟩
theorem IsAll.ats {H : List Ob} : ∀ (fs : List Sh) {cs : List V} {ds : List D}, IsAll H fs cs ds → Ats H fs cs (dU.dUs ds)
  | [], cs, ds, h => by simp only [IsAll] at h; obtain ⟨rfl, rfl⟩ := h; exact ⟨rfl, rfl⟩
  | f :: fs, cs, d :: ds, h => by
    simp only [IsAll] at h
    simp only [Ats, dU.dUs]
    exact ⟨_, _, _, _, (List.take_append_drop _ _).symm, rfl, Is.at f h.1, IsAll.ats fs h.2⟩
  | _ :: _, _, [], h => by simp only [IsAll] at h
end

end Go.Lite

namespace Go.Lite
open Go
set_option linter.unusedSimpArgs false
set_option linter.unusedVariables false

def erO (o : Oper) : Oper := { dst := o.dst, op := o.op, type := 0, pos := "", after := #[], guard := o.guard }

/-- A code without places. -/
def er : Code → Code
  | .region id ops draw => .region id ⟨ops.toList.map erO⟩ draw
  | .seq a b => .seq (er a) (er b)
  | .cond c a b => .cond c (er a) (er b)
  | .block id b => .block id (er b)
  | .loop b => .loop (er b)
  | c => c

/-- Another number. -/
def sub (l : List (Nat × Nat)) (n : Nat) : Nat := match l with
  | [] => n
  | (a, b) :: l => if n = a then b else sub l n

def renX (ρ : List (Nat × Nat)) : Operand → Operand
  | .func f => .func (sub ρ f)
  | x => x

def renP (τ ρ : List (Nat × Nat)) : Op → Op
  | .move x => .move (renX ρ x)
  | .assign x => .assign (renX ρ x)
  | .box t x => .box (sub τ t) (renX ρ x)
  | .alloc t => .alloc (sub τ t)
  | .load t x => .load (sub τ t) (renX ρ x)
  | .store t x y => .store (sub τ t) (renX ρ x) (renX ρ y)
  | .binOp o t x y u => .binOp o (sub τ t) (renX ρ x) (renX ρ y) (sub τ u)
  | .unOp o t x => .unOp o (sub τ t) (renX ρ x)
  | .makeSlice t l c => .makeSlice (sub τ t) (renX ρ l) (renX ρ c)
  | .fieldAddr t x f => .fieldAddr (sub τ t) (renX ρ x) f
  | .indexAddr t x i => .indexAddr (sub τ t) (renX ρ x) (renX ρ i)
  | .call { callee := .value g, args := a, argTypes := t } => .call { callee := .value (renX ρ g), args := ⟨a.toList.map (renX ρ)⟩, argTypes := ⟨t.toList.map (sub τ)⟩ }
  | .call { callee := c, args := a, argTypes := t } => .call { callee := c, args := ⟨a.toList.map (renX ρ)⟩, argTypes := ⟨t.toList.map (sub τ)⟩ }
  | o => o

def renO (τ ρ : List (Nat × Nat)) (o : Oper) : Oper := { dst := o.dst, op := renP τ ρ o.op, type := 0, pos := "", after := #[], guard := o.guard }

/-- The code with other types and functions. -/
def ren (τ ρ : List (Nat × Nat)) : Code → Code
  | .region id ops draw => .region id ⟨ops.toList.map (renO τ ρ)⟩ draw
  | .seq a b => .seq (ren τ ρ a) (ren τ ρ b)
  | .cond c a b => .cond c (ren τ ρ a) (ren τ ρ b)
  | .block id b => .block id (ren τ ρ b)
  | .loop b => .loop (ren τ ρ b)
  | c => c

section
variable {C : Ctx} {callf : CallF} {f : Nat}

theorem stepL_er {ops : Array Oper} {o : Oper} {σ : St} : stepL C callf f ⟨ops.toList.map erO⟩ (erO o) σ = stepL C callf f ops o σ := by
  have hw : wantedL ⟨ops.toList.map erO⟩ σ o.guard = wantedL ops σ o.guard := by
    cases o.guard with
    | none => rfl
    | some g =>
      obtain ⟨j, w⟩ := g
      simp only [wantedL, List.getElem?_toArray, List.getElem?_map, Array.getElem?_toList]
      cases ops[j]? <;> rfl
  show (match wantedL ⟨ops.toList.map erO⟩ σ o.guard with | some true => opL C callf f o σ | some false => some (σ.put o.dst (.val (.tup []))) | none => none) = _
  rw [hw]
  rfl

theorem runL_er {ops : Array Oper} : ∀ (l : List Oper) (σ : St), runL C callf f ⟨ops.toList.map erO⟩ (l.map erO) σ = runL C callf f ops l σ
  | [], σ => rfl
  | o :: os, σ => by
    simp only [List.map_cons, runL, stepL_er]
    cases stepL C callf f ops o σ with
    | none => rfl
    | some σ' => exact runL_er os σ'

theorem runK_er {ops : Array Oper} {h : Hint} {base : Nat} : ∀ (l : List Nat) (σ : St), runK C callf f ⟨ops.toList.map erO⟩ h base l σ = runK C callf f ops h base l σ
  | [], σ => rfl
  | i :: is, σ => by
    have hk : stepK C callf f ⟨ops.toList.map erO⟩ h base i σ = stepK C callf f ops h base i σ := by
      simp only [stepK, List.getElem?_toArray, List.getElem?_map, Array.getElem?_toList]
      cases ops[i]? with
      | none => rfl
      | some o =>
        have hf : fitsAt h base i (erO o) σ = fitsAt h base i o σ := rfl
        simp only [Option.map_some, hf, stepL_er]
    simp only [runK, hk]
    cases stepK C callf f ops h base i σ with
    | none => rfl
    | some σ' => exact runK_er is σ'

theorem regionL_er {id : Nat} {ops : Array Oper} {d : Bool} {σ : St} : regionL C callf f id ⟨ops.toList.map erO⟩ d σ = regionL C callf f id ops d σ := by
  have h : runL C callf f ⟨ops.toList.map erO⟩ (ops.toList.map erO) σ = runL C callf f ops ops.toList σ := runL_er _ _
  cases d with
  | false => exact h
  | true =>
    simp only [regionL]
    cases C.ord f id with
    | none => exact h
    | some k => exact runK_er _ _

theorem execN_er {n : Nat} : ∀ (c : Code), execN C callf f n (er c) = execN C callf f n c
  | .region id ops d => by funext σ; simp only [er, execN, regionL_er]
  | .seq a b => by funext σ; simp only [er, execN, execN_er a, execN_er b]
  | .cond c a b => by funext σ; simp only [er, execN, execN_er a, execN_er b]
  | .block id b => by funext σ; simp only [er, execN, execN_er b]
  | .loop b => by funext σ; simp only [er, execN, execN_er b]
  | .skip | .rangeFunc .. | .exit _ | .scope _ | .label _ | .goto _ | .ret | .refuse _ => rfl

open Classical in
theorem execW_er {c : Code} : execW C f (er c) = execW C f c := by
  funext σ
  unfold execW
  exact congrArg (fun (g : Nat → Option (Ex × St)) => if h : ∃ x n, g n = some x then some h.choose else none) (funext fun n => congrFun (execN_er c) σ)

theorem WP_er {c : Code} {σ : St} {Q : Ex → St → Prop} : WP C f (er c) σ Q ↔ WP C f c σ Q := by
  simp only [WP, execW_er]

theorem op_ren {c c' : Code} {F : Func} (h : er c = c') (ho : ∀ {a : List V} {H : List Ob} {R : V → List Ob → Prop}, Ret C f a H R ↔ WP C f c ⟨initRegs a, 0, H⟩ (finQ C F H R)) {a : List V} {H : List Ob} {R : V → List Ob → Prop} :
    Ret C f a H R ↔ WP C f c' ⟨initRegs a, 0, H⟩ (finQ C F H R) := by
  subst h
  rw [WP_er]
  exact ho
end
end Go.Lite

namespace Go.Lite
open Go
set_option linter.unusedSimpArgs false
set_option linter.unusedVariables false

section
variable {H : List Ob}
mutual
theorem At.ones : ∀ (sh : Sh) {cs : List V} {u : U}, At H sh cs u → cs.all isOne = true
  | .int k, _, _, h => by obtain ⟨n, rfl, _⟩ := At_int.1 h; rfl
  | .bool, _, _, h => by obtain ⟨n, rfl, _⟩ := At_bool.1 h; rfl
  | .str, _, _, h => by obtain ⟨n, rfl, _⟩ := At_str.1 h; rfl
  | .slice e, _, _, h => by
    obtain ⟨v, l, rfl, _, _, h4⟩ := At_slice.1 h
    simp [h4.one.1]
  | .st fs, _, _, h => by
    obtain ⟨us, _, h2⟩ := At_st.1 h
    exact Ats.ones fs h2
theorem Ats.ones : ∀ (fs : List Sh) {cs : List V} {us : List U}, Ats H fs cs us → cs.all isOne = true
  | [], _, _, h => by rw [(Ats_nil.1 h).1]; rfl
  | f :: fs, _, _, h => by
    obtain ⟨c1, c2, u, us', rfl, _, h3, h4⟩ := Ats_cons.1 h
    rw [List.all_append, At.ones f h3, Ats.ones fs h4]
    rfl
end
end

theorem setRange_same {cells c : List V} {o : Nat} (h : o + c.length ≤ cells.length) : ((setRange cells o c).drop o).take c.length = c := by
  unfold setRange
  have h1 : (cells.take o).length = o := by simp; omega
  rw [List.append_assoc, List.drop_append_of_le_length (by omega), List.drop_of_length_le (by omega), List.nil_append, List.take_left']
  rfl
theorem setRange_apart {cells c : List V} {o p n : Nat} (h : o + c.length ≤ cells.length) (hp : p + n ≤ o ∨ o + c.length ≤ p) : ((setRange cells o c).drop p).take n = (cells.drop p).take n := by
  apply List.ext_getElem?
  intro j
  by_cases hj : j < n
  · rw [List.getElem?_take_of_lt hj, List.getElem?_take_of_lt hj, List.getElem?_drop, List.getElem?_drop]
    unfold setRange
    rw [List.append_assoc]
    have h1 : (cells.take o).length = o := by simp; omega
    rcases hp with hp | hp
    · rw [List.getElem?_append_left (by omega), List.getElem?_take_of_lt (by omega)]
    · rw [List.getElem?_append_right (by omega), h1, List.getElem?_append_right (by omega), List.getElem?_drop]
      congr 1
      omega
  · rw [List.getElem?_eq_none (by simp; omega), List.getElem?_eq_none (by simp; omega)]
theorem setRange_len {cells c : List V} {o : Nat} (h : o + c.length ≤ cells.length) : (setRange cells o c).length = cells.length := by
  unfold setRange
  simp
  omega

/-- So many elements of a list are laid into a new object. -/
def ToI (H : List Ob) (e : Sh) (l : List U) (i : Nat) (G : List Ob) : Prop := ∃ (T : List Ob) (cells : List V) (Fs : List (List Nat)), G = H ++ .mk true e.size cells :: T ∧ cells.length = l.length * e.size ∧ Fs.length = i ∧
  (∀ (j : Nat) x F, l[j]? = some x → Fs[j]? = some F → AtF G e ((cells.drop (j * e.size)).take e.size) x F) ∧ Fs.flatten.Nodup ∧ ∀ id ∈ Fs.flatten, H.length + 1 ≤ id

section
variable {H : List Ob} {e : Sh} {l : List U}
theorem ToI.init {zs : List V} (hz : zs.length = l.length * e.size) : ToI H e l 0 (H ++ [.mk true e.size zs]) :=
  ⟨[], zs, [], rfl, hz, rfl, fun j x F _ h => by simp at h, by simp, by simp⟩

theorem mul_step {i n s : Nat} (h : i < n) : i * s + s ≤ n * s := by
  have := Nat.mul_le_mul_right s (show i + 1 ≤ n from h)
  rwa [Nat.succ_mul] at this

theorem ToI.step {i : Nat} {G T : List Ob} {x : U} {c : List V} {F : List Nat} (h : ToI H e l i G) (hx : l[i]? = some x) (hc : AtF (G ++ T) e c x F) (hn : F.Nodup) (hF : ∀ id ∈ F, G.length ≤ id) :
    ∃ cells, (G ++ T)[H.length]? = some (.mk true e.size cells) ∧ i * e.size + c.length ≤ cells.length ∧ c.length = e.size ∧ ToI H e l (i + 1) ((G ++ T).set H.length (.mk true e.size (setRange cells (i * e.size) c))) := by
  obtain ⟨T0, cells, Fs, rfl, h1, rfl, h3, h4, h5⟩ := h
  have hi : Fs.length < l.length := (List.getElem?_eq_some_iff.1 hx).1
  have hm := mul_step (s := e.size) hi
  have hcl : c.length = e.size := At.len e (AtF.at e hc)
  refine ⟨cells, by simp, by omega, hcl, T0 ++ T, setRange cells (Fs.length * e.size) c, Fs ++ [F], ?_, ?_, by simp, ?_, ?_, ?_⟩
  · rw [List.append_assoc, List.cons_append, set_mid]
  · rw [setRange_len (by omega), h1]
  · intro j y K hy hK
    have hfr : ∀ id ∈ K, H.length + 1 ≤ id → ((H ++ .mk true e.size cells :: T0 ++ T).set H.length (.mk true e.size (setRange cells (Fs.length * e.size) c)))[id]? = (H ++ .mk true e.size cells :: T0 ++ T)[id]? := fun id _ hid => by
      rw [List.getElem?_set_ne (by omega)]
    rcases Nat.lt_or_ge j Fs.length with hj | hj
    · rw [List.getElem?_append_left hj] at hK
      have hmj := mul_step (s := e.size) hj
      rw [setRange_apart (by omega) (.inl hmj)]
      refine AtF.frame e (fun id hid => ?_) (h3 j y K hy hK)
      rw [hfr id hid (h5 id (List.mem_flatten.2 ⟨K, List.mem_of_getElem? hK, hid⟩)), List.getElem?_append_left (AtF.mem e (h3 j y K hy hK) id hid)]
    · have hj' : j = Fs.length := by
        have := (List.getElem?_eq_some_iff.1 hK).1
        simp at this
        omega
      subst hj'
      rw [hx] at hy
      cases hy
      rw [List.getElem?_append_right (Nat.le_refl _), Nat.sub_self] at hK
      cases hK
      have hs := setRange_same (cells := cells) (c := c) (o := Fs.length * e.size) (by omega)
      rw [hcl] at hs
      rw [hs]
      refine AtF.frame e (fun id hid => ?_) hc
      exact hfr id hid (by have := hF id hid; simp at this; omega)
  · rw [List.flatten_append, List.nodup_append]
    refine ⟨h4, by simpa using hn, fun a ha b hb hab => ?_⟩
    subst hab
    simp at hb
    have h6 := hF a hb
    obtain ⟨K, hK, ha⟩ := List.mem_flatten.1 ha
    obtain ⟨j, hj, rfl⟩ := List.getElem_of_mem hK
    have := AtF.mem e (h3 j (l[j]'(by omega)) Fs[j] (List.getElem?_eq_getElem _) (List.getElem?_eq_getElem _)) a ha
    omega
  · intro id hid
    rw [List.flatten_append] at hid
    rcases List.mem_append.1 hid with hid | hid
    · exact h5 id hid
    · simp at hid
      have := hF id hid
      simp at this
      omega

theorem ToI.done {G : List Ob} (h : ToI H e l l.length G) (hl : l.length ≤ maxLen) : ∃ T F, G = H ++ T ∧ AtF G (.slice e) [.slc (some (H.length, 0)) l.length] (.lst l) F ∧ F.Nodup ∧ (∀ id ∈ F, H.length ≤ id) ∧ T ≠ [] := by
  obtain ⟨T0, cells, Fs, rfl, h1, h2, h3, h4, h5⟩ := h
  refine ⟨_, H.length :: Fs.flatten, rfl, AtF_slice.2 ⟨_, l, rfl, rfl, hl, .inr ⟨H.length, 0, cells, Fs, rfl, by simp, by omega, h2, rfl, fun i x G hx hG => ?_⟩⟩, ?_, ?_, by simp⟩
  · rw [Nat.zero_add]; exact h3 i x G hx hG
  · rw [List.nodup_cons]
    exact ⟨fun h => by have := h5 _ h; omega, h4⟩
  · intro id hid
    rcases List.mem_cons.1 hid with rfl | hid
    · exact Nat.le_refl _
    · have := h5 id hid; omega

theorem zerosL_len {E : LT} {n : Nat} : (zerosL E n).length = n * E.zero.length := by
  simp [zerosL]
end

/-! ### Marks -/
def markLoop (k : Nat) (out : Str) : Str := if h : k = 0 then out else markLoop (k / 10) ((48 + UInt8.ofNat (k % 10)) :: out)
  termination_by k
  decreasing_by omega
def markStr (k : Nat) : Str := if k = 0 then [109, 48] else 109 :: markLoop k []
theorem markLoop_step {k : Nat} (h : k ≠ 0) (out : Str) : markLoop k out = markLoop (k / 10) ((48 + UInt8.ofNat (k % 10)) :: out) := by
  rw [markLoop, dif_neg h]
theorem markLoop_zero (out : Str) : markLoop 0 out = out := by
  rw [markLoop, dif_pos rfl]
theorem markLoop_len : ∀ (k : Nat) (out : Str), (markLoop k out).length ≤ out.length + k := by
  intro k
  induction k using Nat.strongRecOn with
  | ind k ih =>
    intro out
    by_cases h : k = 0
    · rw [h, markLoop_zero]; omega
    · rw [markLoop_step h]
      have := ih (k / 10) (by omega) ((48 + UInt8.ofNat (k % 10)) :: out)
      simp at this
      omega
theorem markStr_len {k : Nat} : (markStr k).length ≤ k + 2 := by
  unfold markStr
  split
  · simp
  · have := markLoop_len k []
    simp at this ⊢
    omega

mutual
/-- How many marks a datum in memory takes. -/
def cntP : U → Nat
  | .lst l => cntPs l
  | .st l => cntPs l
  | _ => 1
def cntPs : List U → Nat
  | [] => 0
  | u :: us => cntP u + cntPs us
end
mutual
/-- A datum in memory with marks. -/
def mkP : U → Nat → U
  | .int _, k => .int k
  | .bool _, k => .bool (k % 3 == 0)
  | .str _, k => .str (markStr k)
  | .lst l, k => .lst (mkPs l k)
  | .st l, k => .st (mkPs l k)
def mkPs : List U → Nat → List U
  | [], _ => []
  | u :: us, k => mkP u k :: mkPs us (k + cntP u)
end
mutual
/-- How many marks a datum takes that is passed by value. -/
def cntV : U → Nat
  | .lst l => cntPs l
  | .st l => cntVs l
  | _ => 0
def cntVs : List U → Nat
  | [] => 0
  | u :: us => cntV u + cntVs us
end
mutual
/-- A datum that was passed by value with marks. -/
def mkV : U → Nat → U
  | .lst l, k => .lst (mkPs l k)
  | .st l, k => .st (mkVs l k)
  | u, _ => u
def mkVs : List U → Nat → List U
  | [], _ => []
  | u :: us, k => mkV u k :: mkVs us (k + cntV u)
end
theorem mkPs_len : ∀ (l : List U) (k : Nat), (mkPs l k).length = l.length
  | [], _ => rfl
  | u :: us, k => by simp [mkPs, mkPs_len us]
theorem cntPs_append : ∀ (a b : List U), cntPs (a ++ b) = cntPs a + cntPs b
  | [], b => by simp [cntPs]
  | u :: us, b => by simp [cntPs, cntPs_append us]; omega
theorem mkPs_append : ∀ (a b : List U) (k : Nat), mkPs (a ++ b) k = mkPs a k ++ mkPs b (k + cntPs a)
  | [], b, k => by simp [mkPs, cntPs]
  | u :: us, b, k => by simp [mkPs, cntPs, mkPs_append us, Nat.add_assoc]
theorem take_get {α : Type} {l : List α} {i : Nat} {x : α} (h : l[i]? = some x) : l.take (i + 1) = l.take i ++ [x] := by
  rw [List.take_add_one, h]
  rfl
theorem cntPs_take {l : List U} {i : Nat} {x : U} (h : l[i]? = some x) : cntPs (l.take (i + 1)) = cntPs (l.take i) + cntP x := by
  rw [take_get h, cntPs_append]
  simp [cntPs]
theorem cntPs_take_le {l : List U} {i : Nat} : cntPs (l.take i) ≤ cntPs l := by
  have := cntPs_append (l.take i) (l.drop i)
  rw [List.take_append_drop] at this
  omega
theorem mk_get {l : List U} {i k : Nat} (hi : i < l.length) : (mkPs (l.take i) k ++ l.drop i)[i]? = l[i]? := by
  have : (mkPs (l.take i) k).length = i := by rw [mkPs_len]; simp; omega
  rw [List.getElem?_append_right (by omega), this, Nat.sub_self, List.getElem?_drop]
  rfl
theorem mk_set {l : List U} {i k : Nat} {x : U} (h : l[i]? = some x) : (mkPs (l.take i) k ++ l.drop i).set i (mkP x (k + cntPs (l.take i))) = mkPs (l.take (i + 1)) k ++ l.drop (i + 1) := by
  have hi : i < l.length := (List.getElem?_eq_some_iff.1 h).1
  have : (mkPs (l.take i) k).length = i := by rw [mkPs_len]; simp; omega
  rw [List.set_append_right _ _ (by omega), this, Nat.sub_self, List.drop_eq_getElem_cons hi, List.set_cons_zero, take_get h, mkPs_append, List.append_assoc]
  rfl

theorem mkPs_get {l : List U} {i k : Nat} {x : U} (h : l[i]? = some x) : (mkPs l k)[i]? = some (mkP x (k + cntPs (l.take i))) := by
  induction l generalizing i k with
  | nil => simp at h
  | cons u us ih =>
    cases i with
    | zero => cases h; simp [mkPs, cntPs]
    | succ i =>
      simp only [mkPs, List.getElem?_cons_succ, List.take_succ_cons, cntPs]
      rw [ih (i := i) (by simpa using h), Nat.add_assoc]
theorem mkV_lst {u : U} {k : Nat} {l : List U} (h : mkV u k = .lst l) : ∃ m, u = .lst m ∧ l = mkPs m k := by
  cases u <;> simp [mkV] at h
  exact ⟨_, rfl, h.symm⟩
theorem mkV_st {u : U} {k : Nat} {l : List U} (h : mkV u k = .st l) : ∃ m, u = .st m ∧ l = mkVs m k := by
  cases u <;> simp [mkV] at h
  exact ⟨_, rfl, h.symm⟩
theorem mkP_st {u : U} {k : Nat} {l : List U} (h : mkP u k = .st l) : ∃ m, u = .st m ∧ l = mkPs m k := by
  cases u <;> simp [mkP] at h
  exact ⟨_, rfl, h.symm⟩
theorem mkPs_cons {us b : List U} {a : U} {k : Nat} (h : mkPs us k = a :: b) : ∃ u us', us = u :: us' ∧ a = mkP u k ∧ b = mkPs us' (k + cntP u) := by
  cases us with
  | nil => cases h
  | cons u us' => simp only [mkPs, List.cons.injEq] at h; exact ⟨u, us', rfl, h.1.symm, h.2.symm⟩
theorem mkPs_nil {us : List U} {k : Nat} (h : mkPs us k = []) : us = [] := by
  cases us with
  | nil => rfl
  | cons u us' => cases h
theorem mkVs_cons {us b : List U} {a : U} {k : Nat} (h : mkVs us k = a :: b) : ∃ u us', us = u :: us' ∧ a = mkV u k ∧ b = mkVs us' (k + cntV u) := by
  cases us with
  | nil => cases h
  | cons u us' => simp only [mkVs, List.cons.injEq] at h; exact ⟨u, us', rfl, h.1.symm, h.2.symm⟩
theorem mkVs_nil {us : List U} {k : Nat} (h : mkVs us k = []) : us = [] := by
  cases us with
  | nil => rfl
  | cons u us' => cases h
theorem mkP_lst {u : U} {k : Nat} {l : List U} (h : mkP u k = .lst l) : ∃ m, u = .lst m ∧ l = mkPs m k := by
  cases u <;> simp [mkP] at h
  exact ⟨_, rfl, h.symm⟩
theorem mkV_str {u : U} {k : Nat} {s : Str} (h : mkV u k = .str s) : u = .str s := by
  cases u <;> simp [mkV] at h
  rw [h]
theorem mkV_int {u : U} {k : Nat} {s : Int} (h : mkV u k = .int s) : u = .int s := by
  cases u <;> simp [mkV] at h
  rw [h]
theorem mkV_bool {u : U} {k : Nat} {s : Bool} (h : mkV u k = .bool s) : u = .bool s := by
  cases u <;> simp [mkV] at h
  rw [h]
theorem mkP_int {u : U} {k : Nat} {n : Int} (h : mkP u k = .int n) : (∃ t, u = .int t) ∧ n = k := by
  cases u <;> simp [mkP] at h
  exact ⟨⟨_, rfl⟩, h.symm⟩
theorem mkP_bool {u : U} {k : Nat} {n : Bool} (h : mkP u k = .bool n) : (∃ t, u = .bool t) ∧ n = (k % 3 == 0) := by
  cases u <;> simp [mkP] at h
  exact ⟨⟨_, rfl⟩, h.symm⟩
theorem wt_st {l : List U} : wt (.st l) = wts l := rfl
theorem wt_str {s : Str} : wt (.str s) = s.length := rfl
theorem wt_int {n : Int} : wt (.int n) = 0 := rfl
theorem wt_bool {b : Bool} : wt (.bool b) = 0 := rfl
theorem wts_nil : wts [] = 0 := rfl
theorem wts_cons {u : U} {us : List U} : wts (u :: us) = wt u + wts us := rfl
theorem cntV_st {l : List U} : cntV (.st l) = cntVs l := rfl
theorem cntV_str {s : Str} : cntV (.str s) = 0 := rfl
theorem cntV_int {n : Int} : cntV (.int n) = 0 := rfl
theorem cntV_bool {b : Bool} : cntV (.bool b) = 0 := rfl
theorem cntVs_nil : cntVs [] = 0 := rfl
theorem cntVs_cons {u : U} {us : List U} : cntVs (u :: us) = cntV u + cntVs us := rfl
theorem cntP_st {l : List U} : cntP (.st l) = cntPs l := rfl
theorem cntP_str {s : Str} : cntP (.str s) = 1 := rfl
theorem cntP_int {n : Int} : cntP (.int n) = 1 := rfl
theorem cntP_bool {b : Bool} : cntP (.bool b) = 1 := rfl
theorem cntPs_nil : cntPs [] = 0 := rfl
theorem cntPs_cons {u : U} {us : List U} : cntPs (u :: us) = cntP u + cntPs us := rfl
theorem cntPV {l : List U} : cntV (.lst l) = cntP (.lst l) := rfl

theorem gcH_to {H T : List Ob} {fs : List Sh} {cs : List V} {u : U} {F : List Nat} (ha : AtF (H ++ T) (.st fs) cs u F) (hF : ∀ q ∈ F, H.length ≤ q) : ∃ T', gcH H (H ++ T) (.agg cs) = H ++ T' ∧ AtF (H ++ T') (.st fs) cs u F := by
  by_cases hl : lowV H (.agg cs)
  · refine ⟨[], by rw [gcH_low hl, List.append_nil], ?_⟩
    have h0 : F = [] := AtF.cut _ ha hF (by simpa only [lowV] using hl)
    subst h0
    exact AtF.frame _ (fun q hq => by cases hq) ha
  · refine ⟨T, ?_, ha⟩
    unfold gcH
    rw [if_neg fun h => hl h.2]

theorem AtF.app {H T : List Ob} {sh : Sh} {cs : List V} {u : U} {F : List Nat} (h : AtF H sh cs u F) : AtF (H ++ T) sh cs u F := h.ext

theorem mkP_str {u : U} {k : Nat} {s : Str} (h : mkP u k = .str s) : (∃ t, u = .str t) ∧ s = markStr k := by
  cases u <;> simp [mkP] at h
  exact ⟨⟨_, rfl⟩, h.symm⟩

theorem regionL_some {C : Ctx} {callf : CallF} {f id : Nat} {ops : Array Oper} {σ : St} {h : Hint} (ho : C.ord f id = some h) : regionL C callf f id ops true σ = runK C callf f ops h σ.heap.length h.ord σ := by
  simp [regionL, ho]
theorem Keep_refl {n : Nat} {H : List Ob} : Keep n H H := fun _ _ => rfl
theorem Keep_append {n : Nat} {H T : List Ob} (h : n ≤ H.length) : Keep n H (H ++ T) := fun id hid => by rw [List.getElem?_append_left (by omega)]
attribute [simp] regionL_some runK stepK fitsAt lookOf isStore Keep_refl

/-! ### A part of a datum, and the datum with another one -/
section
variable {G : List Ob}
theorem AtsF.lens : ∀ (fs1 : List Sh) {f : Sh} {fs2 : List Sh} {cs : List V} {us1 us2 : List U} {u : U} {F : List Nat}, AtsF G (fs1 ++ f :: fs2) cs (us1 ++ u :: us2) F → us1.length = fs1.length → F.Nodup →
    ∃ c1 c c2 K, cs = c1 ++ (c ++ c2) ∧ c1.length = Sh.sizes fs1 ∧ AtF G f c u K ∧ K.Nodup ∧ (∀ q ∈ K, q ∈ F) ∧
      ∀ G' y c', (∀ q ∈ F, q ∉ K → G'[q]? = G[q]?) → AtF G' f c' y K → AtsF G' (fs1 ++ f :: fs2) (c1 ++ (c' ++ c2)) (us1 ++ y :: us2) F
  | [], f, fs2, cs, us1, us2, u, F, h, hl, hn => by
    have : us1 = [] := by simpa using hl
    subst this
    obtain ⟨c1, c2, u', us', F1, F2, rfl, hu, rfl, h1, h2⟩ := AtsF_cons.1 h
    cases hu
    rw [List.nodup_append] at hn
    refine ⟨[], c1, c2, F1, rfl, rfl, h1, hn.1, fun q hq => List.mem_append_left _ hq, fun G' y c' hG hc => ?_⟩
    exact AtsF_cons.2 ⟨c', c2, y, us2, F1, F2, rfl, rfl, rfl, hc, AtsF.frame fs2 (fun q hq => hG q (List.mem_append_right _ hq) fun hq1 => hn.2.2 q hq1 q hq rfl) h2⟩
  | g :: fs1, f, fs2, cs, us1, us2, u, F, h, hl, hn => by
    obtain ⟨c1, c2, u', us', F1, F2, rfl, hu, rfl, h1, h2⟩ := AtsF_cons.1 h
    match us1, hl, hu with
    | v :: us1, hl, hu =>
      cases hu
      rw [List.nodup_append] at hn
      obtain ⟨d1, c, d2, K, rfl, k1, k2, k3, k4, k5⟩ := AtsF.lens fs1 h2 (by simpa using hl) hn.2.1
      refine ⟨c1 ++ d1, c, d2, K, by rw [List.append_assoc], by rw [List.length_append, At.len g (AtF.at g h1), k1]; rfl, k2, k3, fun q hq => List.mem_append_right _ (k4 q hq), fun G' y c' hG hc => ?_⟩
      rw [List.append_assoc]
      exact AtsF_cons.2 ⟨c1, _, _, _, F1, F2, rfl, rfl, rfl, AtF.frame g (fun q hq => hG q (List.mem_append_left _ hq) fun hq1 => hn.2.2 q hq q (k4 q hq1) rfl) h1,
        k5 G' y c' (fun q hq hq1 => hG q (List.mem_append_right _ hq) hq1) hc⟩

theorem AtF.elem {e : Sh} {v : V} {l : List U} {F : List Nat} (h : AtF G (.slice e) [v] (.lst l) F) (hn : F.Nodup) {i : Nat} {x : U} (hx : l[i]? = some x) :
    ∃ id off cells K, v = .slc (some (id, off)) l.length ∧ G[id]? = some (.mk true e.size cells) ∧ off + i * e.size + e.size ≤ cells.length ∧ AtF G e ((cells.drop (off + i * e.size)).take e.size) x K ∧ K.Nodup ∧ id ∉ K ∧ id ∈ F ∧ (∀ q ∈ K, q ∈ F) ∧
      ∀ G' c' y, c'.length = e.size → G'[id]? = some (.mk true e.size (setRange cells (off + i * e.size) c')) → (∀ q ∈ F, q ≠ id → q ∉ K → G'[q]? = G[q]?) → AtF G' e c' y K → AtF G' (.slice e) [v] (.lst (l.set i y)) F := by
  obtain ⟨v', l', hv', hu, hl, hs⟩ := AtF_slice.1 h
  cases hv'
  cases hu
  rcases hs with ⟨_, rfl, _⟩ | ⟨id, off, cells, Fs, rfl, h2, h3, h4, rfl, h6⟩
  · simp at hx
  · have hi : i < l.length := (List.getElem?_eq_some_iff.1 hx).1
    have hm := mul_step (s := e.size) hi
    obtain ⟨K, hK⟩ : ∃ K, Fs[i]? = some K := ⟨Fs[i]'(by omega), List.getElem?_eq_getElem _⟩
    have hKF : ∀ q ∈ K, q ∈ Fs.flatten := fun q hq => List.mem_flatten.2 ⟨K, List.mem_of_getElem? hK, hq⟩
    have hn' := List.nodup_cons.1 hn
    have hap : ∀ (a b : Nat) (A B : List Nat), Fs[a]? = some A → Fs[b]? = some B → a ≠ b → ∀ q ∈ A, q ∉ B := by
      have hp := (List.pairwise_flatten.1 hn'.2).2
      rw [List.pairwise_iff_getElem] at hp
      intro a b A B hA hB hab q hqa hqb
      obtain ⟨ha, rfl⟩ := List.getElem?_eq_some_iff.1 hA
      obtain ⟨hb, rfl⟩ := List.getElem?_eq_some_iff.1 hB
      rcases Nat.lt_or_gt_of_ne hab with h | h
      · exact hp a b ha hb h q hqa q hqb rfl
      · exact hp b a hb ha h q hqb q hqa rfl
    refine ⟨id, off, cells, K, rfl, h2, by omega, h6 i x K hx hK, (List.pairwise_flatten.1 hn'.2).1 K (List.mem_of_getElem? hK), fun hq => hn'.1 (hKF _ hq), List.mem_cons_self, fun q hq => List.mem_cons_of_mem _ (hKF q hq), fun G' c' y hc hG hfr hy => ?_⟩
    refine AtF_slice.2 ⟨_, _, rfl, rfl, by simpa using hl, .inr ⟨id, off, setRange cells (off + i * e.size) c', Fs, by simp, hG, by rw [setRange_len (by omega)]; simpa using h3, by simpa using h4, rfl, fun j z J hz hJ => ?_⟩⟩
    by_cases hij : j = i
    · subst hij
      rw [hK] at hJ
      cases hJ
      have hz' : z = y := by
        rw [List.getElem?_set_self (by omega)] at hz
        exact (Option.some.inj hz).symm
      subst hz'
      have := setRange_same (cells := cells) (c := c') (o := off + j * e.size) (by omega)
      rw [hc] at this
      rw [this]
      exact hy
    · rw [List.getElem?_set_ne (by omega)] at hz
      have hj : j < l.length := (List.getElem?_eq_some_iff.1 hz).1
      have hmj := mul_step (s := e.size) hj
      rw [setRange_apart (by omega) (by
        rcases Nat.lt_or_gt_of_ne hij with h | h
        · have := mul_step (s := e.size) h; exact .inl (by omega)
        · have := mul_step (s := e.size) h; exact .inr (by omega))]
      refine AtF.frame e (fun q hq => ?_) (h6 j z J hz hJ)
      exact hfr q (List.mem_cons_of_mem _ (List.mem_flatten.2 ⟨J, List.mem_of_getElem? hJ, hq⟩)) (by rintro rfl; exact hn'.1 (List.mem_flatten.2 ⟨J, List.mem_of_getElem? hJ, hq⟩)) (hap j i J K hJ hK hij q hq)

theorem set_cells {cells c1 c2 : List V} {o n : Nat} {v w : V} (hc : (cells.drop o).take n = c1 ++ ([v] ++ c2)) (hn : o + n ≤ cells.length) : cells.set (o + c1.length) w = setRange cells o (c1 ++ ([w] ++ c2)) := by
  have hl : n = c1.length + (1 + c2.length) := by
    have := congrArg List.length hc
    simp at this
    omega
  apply List.ext_getElem?
  intro j
  unfold setRange
  rcases Nat.lt_or_ge j o with h1 | h1
  · rw [List.getElem?_set_ne (by omega), List.append_assoc, List.getElem?_append_left (by simp; omega), List.getElem?_take_of_lt h1]
  · have ho : (cells.take o).length = o := by simp; omega
    rw [List.append_assoc, List.getElem?_append_right (by omega), ho]
    rcases Nat.lt_or_ge (j - o) n with h2 | h2
    · rw [List.getElem?_append_left (by simp; omega)]
      have hs : c1 ++ ([w] ++ c2) = (c1 ++ ([v] ++ c2)).set c1.length w := by rw [List.set_append_right _ _ (Nat.le_refl _), Nat.sub_self]; rfl
      rw [hs, ← hc]
      by_cases h3 : j - o = c1.length
      · rw [← h3, show o + (j - o) = j by omega, List.getElem?_set_self (by omega), List.getElem?_set_self (by simp; omega)]
      · rw [List.getElem?_set_ne (by omega), List.getElem?_set_ne (by omega), List.getElem?_take_of_lt h2, List.getElem?_drop, show o + (j - o) = j by omega]
    · rw [List.getElem?_set_ne (by omega), List.getElem?_append_right (by simp; omega), List.getElem?_drop]
      congr 1
      simp
      omega

/-- A field of one cell of an element. -/
theorem AtF.field {fs2 : List Sh} (fs1 : List Sh) {f : Sh} {v : V} {l : List U} {F : List Nat} (h : AtF G (.slice (.st (fs1 ++ f :: fs2))) [v] (.lst l) F) (hn : F.Nodup) {i : Nat} {us1 us2 : List U} {u : U} (hx : l[i]? = some (.st (us1 ++ u :: us2)))
    (hl : us1.length = fs1.length) (hf : f.size = 1) : ∃ id off cells w K, v = .slc (some (id, off)) l.length ∧ G[id]? = some (.mk true (Sh.st (fs1 ++ f :: fs2)).size cells) ∧ id ∈ F ∧ id ∉ K ∧
      cells[off + i * (Sh.st (fs1 ++ f :: fs2)).size + Sh.sizes fs1]? = some w ∧ AtF G f [w] u K ∧ K.Nodup ∧ (∀ q ∈ K, q ∈ F) ∧
      (∀ G' y, (∀ q ∈ F, q ∉ K → G'[q]? = G[q]?) → AtF G' f [w] y K → AtF G' (.slice (.st (fs1 ++ f :: fs2))) [v] (.lst (l.set i (.st (us1 ++ y :: us2)))) F) ∧
      ∀ w' y, AtF G f [w'] y K → AtF (G.set id (.mk true (Sh.st (fs1 ++ f :: fs2)).size (cells.set (off + i * (Sh.st (fs1 ++ f :: fs2)).size + Sh.sizes fs1) w'))) (.slice (.st (fs1 ++ f :: fs2))) [v] (.lst (l.set i (.st (us1 ++ y :: us2)))) F := by
  obtain ⟨id, off, cells, K0, hv, h2, h3, h4, h5, h6, h7, h8, h9⟩ := AtF.elem h hn hx
  obtain ⟨us, hus, h4⟩ := AtF_st.1 h4
  cases hus
  have hcl := Ats.len _ (AtsF.ats _ h4)
  obtain ⟨c1, c, c2, K, k1, k2, k3, k4, k5, k6⟩ := AtsF.lens fs1 h4 hl h5
  have hc1 : c.length = 1 := by rw [At.len f (AtF.at f k3), hf]
  obtain ⟨w, rfl⟩ : ∃ w, c = [w] := by
    match c, hc1 with
    | [w], _ => exact ⟨w, rfl⟩
  have hid : id < G.length := (List.getElem?_eq_some_iff.1 h2).1
  have hset : ∀ w', cells.set (off + i * (Sh.st (fs1 ++ f :: fs2)).size + Sh.sizes fs1) w' = setRange cells (off + i * (Sh.st (fs1 ++ f :: fs2)).size) (c1 ++ ([w'] ++ c2)) := fun w' => by
    rw [← k2]; exact set_cells k1 h3
  have hlen : ∀ w', (c1 ++ ([w'] ++ c2)).length = (Sh.st (fs1 ++ f :: fs2)).size := fun w' => by
    have h := congrArg List.length k1
    rw [hcl] at h
    rw [Sh.size_st, h]
    simp
  have hw : cells[off + i * (Sh.st (fs1 ++ f :: fs2)).size + Sh.sizes fs1]? = some w := by
    rw [← k2]
    refine cells_get k1 ?_
    rw [List.getElem?_append_right (Nat.le_refl _), Nat.sub_self]
    rfl
  refine ⟨id, off, cells, w, K, hv, h2, h7, fun hq => h6 (k5 _ hq), hw, k3, k4, fun q hq => h8 q (k5 q hq), fun G' y hG hy => ?_, fun w' y hy => ?_⟩
  · refine h9 G' (c1 ++ ([w] ++ c2)) _ (hlen w) ?_ (fun q hq _ hqK => hG q hq fun hqk => hqK (k5 q hqk)) (AtF_st.2 ⟨_, rfl, k6 G' y [w] (fun q hq hqk => hG q (h8 q hq) hqk) hy⟩)
    rw [hG id h7 (fun hq => h6 (k5 _ hq)), h2, ← hset w]
    congr 2
    obtain ⟨hb, hw'⟩ := List.getElem?_eq_some_iff.1 hw
    rw [← hw', List.set_getElem_self]
  · refine h9 _ (c1 ++ ([w'] ++ c2)) _ (hlen w') ?_ (fun q hq hq1 hqK => by rw [List.getElem?_set_ne (Ne.symm hq1)]) (AtF_st.2 ⟨_, rfl, k6 _ y [w'] (fun q hq hqk => ?_) (AtF.frame f (fun q hq => ?_) hy)⟩)
    · rw [List.getElem?_set_self hid, hset w']
    · rw [List.getElem?_set_ne]; rintro rfl; exact h6 hq
    · rw [List.getElem?_set_ne]; rintro rfl; exact h6 (k5 _ hq)
end
end Go.Lite

namespace Go.Lite
open Go
set_option linter.unusedSimpArgs false
set_option linter.unusedVariables false

noncomputable def dec (P : Prop) : Bool := @decide P (Classical.propDecidable P)
theorem dec_pos {P : Prop} (h : P) : dec P = true := @decide_eq_true P (Classical.propDecidable P) h
theorem dec_neg {P : Prop} (h : ¬ P) : dec P = false := @decide_eq_false P (Classical.propDecidable P) h
theorem dec_iff {P Q : Prop} (h : P ↔ Q) : dec P = dec Q := by rw [propext h]
theorem dec_true {P : Prop} : dec P = true ↔ P := by
  by_cases h : P
  · exact ⟨fun _ => h, fun _ => dec_pos h⟩
  · exact ⟨fun e => absurd (dec_neg h) (by rw [e]; decide), fun e => absurd e h⟩

theorem Ret.dec {C : Ctx} {f : Nat} {a : List V} {H : List Ob} {P : Prop} (h : Ret C f a H fun r H' => (∃ b : Bool, r = .bool b ∧ (b = true ↔ P)) ∧ H' = H) : callW C f a H = some (.bool (dec P), H) := by
  obtain ⟨r, H', hc, ⟨b, rfl, hb⟩, rfl⟩ := h
  rw [hc, show b = Go.Lite.dec P from by cases hd : Go.Lite.dec P with
    | true => exact hb.2 (dec_true.1 hd)
    | false => cases b with
      | false => rfl
      | true => exact absurd (dec_true.2 (hb.1 rfl)) (by rw [hd]; decide)]

/-! ### Bytes -/
def LowB (c : UInt8) : Prop := 97 ≤ c.toNat ∧ c.toNat ≤ 122
def DigB (c : UInt8) : Prop := 48 ≤ c.toNat ∧ c.toNat ≤ 57
def NameOk (t : Str) : Prop := 1 ≤ t.length ∧ t.length ≤ 20 ∧ ∀ (i : Nat) c, t[i]? = some c → LowB c ∨ (0 < i ∧ (DigB c ∨ c.toNat = 95))
def PlainB (c : UInt8) : Prop := 32 ≤ c.toNat ∧ c.toNat ≤ 126
def Plain (t : Str) : Prop := ∀ (i : Nat) c, t[i]? = some c → PlainB c
def lowC (c : UInt8) : UInt8 := if 65 ≤ c.toNat ∧ c.toNat ≤ 90 then c + 32 else c
def endSp (b : Str) : Bool := b.getLast? == some 32
def nstep (b : Str) (c : UInt8) : Str := if lowC c = 32 ∧ (b = [] ∨ endSp b = true) then b else b ++ [lowC c]
def nfin (b : Str) : Str := if endSp b = true then b.dropLast else b
noncomputable def norm (t : Str) : Str := if t.length ≤ 100 ∧ dec (Plain t) = true then nfin (t.foldl nstep []) else []
def ValueOk (t : Str) : Prop := 1 ≤ t.length ∧ t.length ≤ 40 ∧ norm t ≠ []

theorem all_step {t : Str} {i : Nat} {P : Nat → UInt8 → Prop} (h : ∀ j, j < i → ∀ c, t[j]? = some c → P j c) {c : UInt8} (hc : t[i]? = some c) (hp : P i c) : ∀ j, j < i + 1 → ∀ c, t[j]? = some c → P j c := by
  intro j hj d hd
  by_cases hji : j = i
  · subst hji; rw [hc] at hd; cases hd; exact hp
  · exact h j (by omega) d hd

theorem nstep_len (b : Str) (c : UInt8) : (nstep b c).length ≤ b.length + 1 := by
  unfold nstep
  split
  · omega
  · simp
theorem foldl_len : ∀ (t b : Str), (t.foldl nstep b).length ≤ b.length + t.length
  | [], b => by simp
  | c :: t, b => by
    have h1 := foldl_len t (nstep b c)
    have h2 := nstep_len b c
    simp only [List.foldl_cons, List.length_cons]
    omega
theorem norm_len {t : Str} : (norm t).length ≤ 100 := by
  unfold norm
  split
  · rename_i h
    have := foldl_len t []
    unfold nfin
    split
    · simp at this ⊢; omega
    · simp at this ⊢; omega
  · simp
end Go.Lite

namespace Go.Lite
open Go
set_option linter.unusedSimpArgs false
set_option linter.unusedVariables false

def bys (b : Str) : List V := b.map fun c => .int .u8 c.toNat
theorem bys_len {b : Str} : (bys b).length = b.length := by simp [bys]
theorem bys_get {b : Str} {i : Nat} {c : UInt8} (h : b[i]? = some c) : (bys b)[i]? = some (.int .u8 c.toNat) := by simp [bys, h]
theorem byteOf_u8 {c : UInt8} : byteOfV (.int .u8 c.toNat) = some c := by
  simp [byteOfV]
theorem bys_mapM : ∀ {b : Str}, (bys b).mapM byteOfV = some b
  | [] => rfl
  | c :: b => by
    have := bys_mapM (b := b)
    simp only [bys, List.map_cons, List.mapM_cons, byteOf_u8] at this ⊢
    rw [this]
    rfl
theorem bys_append {a b : Str} : bys (a ++ b) = bys a ++ bys b := by simp [bys]
theorem bys_take {b : Str} {n : Nat} : (bys b).take n = bys (b.take n) := by simp [bys, List.map_take]

/-- Bytes that stand in an object of the call's own. -/
def Bs (H G : List Ob) (v : V) (b : Str) : Prop := ∃ T id, G = H ++ T ∧ H.length ≤ id ∧ G[id]? = some (.mk true 1 (bys b)) ∧ v = .slc (some (id, 0)) b.length

theorem Bs.init {H : List Ob} : Bs H (H ++ [.mk true 1 []]) (.slc (some (H.length, 0)) 0) [] := ⟨_, H.length, rfl, Nat.le_refl _, by simp [bys], rfl⟩

section
variable {H G : List Ob} {v : V} {b : Str}

theorem Bs.push (h : Bs H G v b) (hb : b.length ≤ 1000) {c : UInt8} {z : List V} {d : LD} (hz : z.length = 1) : ∃ v' G', appendV ⟨d, 1, 1, z⟩ (G ++ [.mk true 1 [.int .u8 c.toNat]]) v (.slc (some (G.length, 0)) 1) = some (v', G') ∧ Bs H G' v' (b ++ [c]) := by
  obtain ⟨T, id, rfl, h1, h2, rfl⟩ := h
  have hid : id < (H ++ T).length := (List.getElem?_eq_some_iff.1 h2).1
  have hid' : id < H.length + T.length := by simpa using hid
  have hg : (H ++ T ++ [Ob.mk true 1 [.int .u8 c.toNat]])[id]? = some (.mk true 1 (bys b)) := by rw [List.getElem?_append_left hid]; exact h2
  have hnew : newCells ⟨d, 1, 1, z⟩ (H ++ T ++ [Ob.mk true 1 [.int .u8 c.toNat]]) (.slc (some ((H ++ T).length, 0)) 1) = some ([.int .u8 c.toNat], 1) := by
    simp only [newCells, Nat.mul_one, slcCells, get_last]
    rfl
  refine ⟨.slc (some ((H ++ T ++ [Ob.mk true 1 [.int .u8 c.toNat]]).length, 0)) (b.length + 1), (H ++ T ++ [Ob.mk true 1 [.int .u8 c.toNat]]).set id .dead ++ [.mk true 1 (bys b ++ [.int .u8 c.toNat])], ?_, ?_⟩
  · unfold appendV
    rw [if_pos (by simp [growOk, hz]), hnew]
    simp only [Nat.one_ne_zero, if_false, List.all_cons, List.all_nil, isOne_int, Bool.and_true, if_true, hg]
    have e1 : ¬ (0 + (b.length + 1) * 1 ≤ (bys b).length) := by rw [bys_len]; omega
    have e2 : (0 + b.length * 1 = (bys b).length ∨ b.length = 0 ∧ (bys b).length ≤ 0) ∧ (b.length + 1) * 1 ≤ maxMade := ⟨.inl (by rw [bys_len]; simp), by unfold maxMade; omega⟩
    rw [if_neg e1, if_pos e2, List.drop_zero]
  · refine ⟨T.set (id - H.length) .dead ++ [.mk true 1 [.int .u8 c.toNat]] ++ [.mk true 1 (bys b ++ [.int .u8 c.toNat])], (H ++ T ++ [Ob.mk true 1 [.int .u8 c.toNat]]).length, ?_, by simp only [List.length_append]; omega, ?_, by simp⟩
    · rw [List.append_assoc H T, List.set_append_right _ _ h1, List.set_append_left _ _ (by omega)]
      simp
    · have hl : ((H ++ T ++ [Ob.mk true 1 [V.int .u8 c.toNat]]).set id .dead).length = (H ++ T ++ [Ob.mk true 1 [V.int .u8 c.toNat]]).length := List.length_set
      rw [← hl, get_last, bys_append]
      rfl

theorem Bs.last (h : Bs H G v b) {d : UInt8} (hd : b.getLast? = some d) : ∃ id, v = .slc (some (id, 0)) b.length ∧ ∀ T : LT, T.one → ∀ r c, loadAt T ⟨r, c, G⟩ (.hp id (b.length - 1)) = some (.int .u8 d.toNat) := by
  obtain ⟨T, id, rfl, h1, h2, rfl⟩ := h
  refine ⟨id, rfl, load1 h2 (bys_get ?_)⟩
  rw [List.getLast?_eq_getElem?] at hd
  exact hd

theorem Bs.cut (h : Bs H G v b) {n : Nat} (hn : n ≤ b.length) : ∃ id, v = .slc (some (id, 0)) b.length ∧ strideIs G id 1 = true ∧ slcCells G (some (id, 0)) n = some (bys (b.take n)) := by
  obtain ⟨T, id, rfl, h1, h2, rfl⟩ := h
  refine ⟨id, rfl, by simp [strideIs, h2], ?_⟩
  simp only [slcCells, h2]
  by_cases h0 : n = 0
  · subst h0; rfl
  · rw [if_neg h0]
    unfold rdCells
    rw [if_pos (by rw [bys_len]; omega), List.drop_zero, bys_take]

theorem Bs.ext (h : Bs H G v b) : ∃ T, G = H ++ T := by
  obtain ⟨T, id, h, _⟩ := h
  exact ⟨T, h⟩
theorem Bs.len (h : Bs H G v b) {e s n : Nat} {z : List V} : lenV ⟨.slice e, s, n, z⟩ v = some (.int .i64 b.length) := by
  obtain ⟨T, id, _, _, _, rfl⟩ := h
  rfl
end
end Go.Lite

namespace Go.Lite
open Go
set_option linter.unusedSimpArgs false
set_option linter.unusedVariables false

abbrev shRdn : Sh := .st [.str, .str]
abbrev shAttr : Sh := .st [.str, .slice .str]
abbrev shEntry : Sh := .st [.slice shRdn, .slice shAttr]
abbrev shClass : Sh := .st [.str, .slice .str, .slice .str, .slice .str]

structure PRdn where
  attr : Str
  value : Str
structure PAttr where
  name : Str
  vals : List Str
structure PEntry where
  dn : List PRdn
  attrs : List PAttr
structure PClass where
  name : Str
  must : List Str
  may : List Str
  single : List Str

abbrev strU (s : Str) : U := .str s
def PRdn.u (r : PRdn) : U := .st [.str r.attr, .str r.value]
def PAttr.u (a : PAttr) : U := .st [.str a.name, .lst (a.vals.map strU)]
def PEntry.u (e : PEntry) : U := .st [.lst (e.dn.map PRdn.u), .lst (e.attrs.map PAttr.u)]
def PClass.u (c : PClass) : U := .st [.str c.name, .lst (c.must.map strU), .lst (c.may.map strU), .lst (c.single.map strU)]

section
variable (H : List Ob)
/-- A slice of data. -/
def ASl {α : Type} (sh : Sh) (f : α → U) (v : V) (l : List α) : Prop := At H (.slice sh) [v] (.lst (l.map f))
abbrev AStrs (v : V) (l : List Str) : Prop := ASl H .str strU v l
abbrev ARdns (v : V) (l : List PRdn) : Prop := ASl H shRdn PRdn.u v l
abbrev AAttrs (v : V) (l : List PAttr) : Prop := ASl H shAttr PAttr.u v l
abbrev AClasses (v : V) (l : List PClass) : Prop := ASl H shClass PClass.u v l
end

section
variable {H H' T : List Ob} {v : V} {α : Type} {sh : Sh} {f : α → U} {l : List α}

theorem ASl.at (h : ASl H sh f v l) : At H (.slice sh) [v] (.lst (l.map f)) := h
theorem ASl.sl (h : ASl H sh f v l) : Sl H sh.size (At H sh) v (l.map f) := by
  obtain ⟨w, m, hw, hm, _, h⟩ := At_slice.1 h.at
  cases hw
  cases hm
  exact h
theorem ASl.bound (h : ASl H sh f v l) : l.length ≤ maxLen := by
  obtain ⟨w, m, hw, hm, h, _⟩ := At_slice.1 h.at
  cases hm
  simpa using h
theorem ASl.len (h : ASl H sh f v l) {e s b : Nat} {z : List V} : lenV ⟨.slice e, s, b, z⟩ v = some (.int .i64 l.length) := by
  have := h.sl.len (e := e) (s := s) (b := b) (z := z)
  simpa using this
theorem ASl.one (h : ASl H sh f v l) : isOne v = true ∧ cellsOf v = some [v] := h.sl.one
theorem ASl.ext (h : ASl H sh f v l) : ASl (H ++ T) sh f v l := At.ext h
theorem ASl.up (h : ASl H sh f v l) (hH : ∀ (id : Nat) o, H[id]? = some o → H'[id]? = some o) : ASl H' sh f v l := At.up hH _ h
theorem ASl.idx (h : ASl H sh f v l) {i : Nat} {x : α} (hx : l[i]? = some x) (hs : sh.size ≠ 0) : ∃ id o own cells,
    (∀ (e s b : Nat) (z : List V) (ty : Nat → LT) (k : IntKind), (ty e).size = sh.size → indexR ⟨.slice e, s, b, z⟩ ty (.val v) (.int k i) = some (.val (.ptr (some (id, o))))) ∧
    H[id]? = some (.mk own sh.size cells) ∧ o + sh.size ≤ cells.length ∧ At H sh ((cells.drop o).take sh.size) (f x) :=
  h.sl.idx (by rw [List.getElem?_map, hx]; rfl) hs

/-- Every datum of a list is one of these. -/
theorem Sl.typed (hf : ∀ cs u, At H sh cs u → ∃ x : α, u = f x) {us : List U} {n : Nat} (h : Sl H n (At H sh) v us) : ∃ l : List α, us = l.map f := by
  have h2 : ∀ u ∈ us, ∃ x : α, u = f x := by
    intro u hu
    rcases h with ⟨_, rfl⟩ | ⟨id, off, own, cells, _, _, _, h4⟩
    · cases hu
    · obtain ⟨i, hi, rfl⟩ := List.getElem_of_mem hu
      exact hf _ _ (h4 i _ (List.getElem?_eq_getElem hi))
  clear h
  induction us with
  | nil => exact ⟨[], rfl⟩
  | cons u us ih =>
    obtain ⟨x, rfl⟩ := h2 u List.mem_cons_self
    obtain ⟨l, rfl⟩ := ih fun w hw => h2 w (List.mem_cons_of_mem _ hw)
    exact ⟨x :: l, rfl⟩
theorem ASl.typed (hf : ∀ cs u, At H sh cs u → ∃ x : α, u = f x) {cs : List V} {u : U} (h : At H (.slice sh) cs u) : ∃ v l, cs = [v] ∧ u = .lst (l.map f) ∧ ASl H sh f v l := by
  have h0 := h
  obtain ⟨v, us, rfl, rfl, _, hs⟩ := At_slice.1 h
  obtain ⟨l, rfl⟩ := Sl.typed hf hs
  exact ⟨v, l, rfl, rfl, h0⟩

theorem strs_typed {cs : List V} {u : U} (h : At H (.slice .str) cs u) : ∃ v l, cs = [v] ∧ u = .lst (l.map strU) ∧ AStrs H v l :=
  ASl.typed (fun cs u h => by obtain ⟨s, _, rfl, _⟩ := At_str.1 h; exact ⟨s, rfl⟩) h
theorem rdn_at {cs : List V} {r : PRdn} : At H shRdn cs r.u ↔ cs = [.str r.attr, .str r.value] ∧ r.attr.length ≤ maxLen ∧ r.value.length ≤ maxLen := by
  constructor
  · intro h
    obtain ⟨us, hu, h⟩ := At_st.1 h
    cases hu
    obtain ⟨c1, c2, u1, us1, rfl, hu, h1, h⟩ := Ats_cons.1 h
    cases hu
    obtain ⟨c3, c4, u2, us2, rfl, hu, h2, h⟩ := Ats_cons.1 h
    cases hu
    obtain ⟨rfl, _⟩ := Ats_nil.1 h
    obtain ⟨s, rfl, hs, w1⟩ := At_str.1 h1
    cases hs
    obtain ⟨s, rfl, hs, w2⟩ := At_str.1 h2
    cases hs
    exact ⟨rfl, w1, w2⟩
  · rintro ⟨rfl, h1, h2⟩
    exact At_st.2 ⟨_, rfl, Ats_cons.2 ⟨[_], _, _, _, rfl, rfl, At_str.2 ⟨_, rfl, rfl, h1⟩, Ats_cons.2 ⟨[_], _, _, _, rfl, rfl, At_str.2 ⟨_, rfl, rfl, h2⟩, Ats_nil.2 ⟨rfl, rfl⟩⟩⟩⟩
theorem rdn_typed {cs : List V} {u : U} (h : At H shRdn cs u) : ∃ r : PRdn, u = r.u := by
  replace h := At_st.1 h
  obtain ⟨us, rfl, h⟩ := h
  obtain ⟨c1, c2, u1, us1, rfl, rfl, h1, h⟩ := Ats_cons.1 h
  obtain ⟨c3, c4, u2, us2, rfl, rfl, h2, h⟩ := Ats_cons.1 h
  obtain ⟨rfl, rfl⟩ := Ats_nil.1 h
  obtain ⟨s, rfl, rfl, w1⟩ := At_str.1 h1
  obtain ⟨t, rfl, rfl, w2⟩ := At_str.1 h2
  exact ⟨⟨s, t⟩, rfl⟩
theorem attr_at {cs : List V} {a : PAttr} : At H shAttr cs a.u ↔ ∃ v, cs = [.str a.name, v] ∧ a.name.length ≤ maxLen ∧ AStrs H v a.vals := by
  constructor
  · intro h
    obtain ⟨us, hu, h⟩ := At_st.1 h
    cases hu
    obtain ⟨c1, c2, u1, us1, rfl, hu, h1, h⟩ := Ats_cons.1 h
    cases hu
    obtain ⟨c3, c4, u2, us2, rfl, hu, h2, h⟩ := Ats_cons.1 h
    cases hu
    obtain ⟨rfl, _⟩ := Ats_nil.1 h
    obtain ⟨s, rfl, hs, w1⟩ := At_str.1 h1
    cases hs
    obtain ⟨v, _, rfl, _⟩ := At_slice.1 h2
    exact ⟨v, rfl, w1, h2⟩
  · rintro ⟨v, rfl, h1, h2⟩
    exact At_st.2 ⟨_, rfl, Ats_cons.2 ⟨[_], _, _, _, rfl, rfl, At_str.2 ⟨_, rfl, rfl, h1⟩, Ats_cons.2 ⟨[_], _, _, _, rfl, rfl, h2, Ats_nil.2 ⟨rfl, rfl⟩⟩⟩⟩
theorem attr_typed {cs : List V} {u : U} (h : At H shAttr cs u) : ∃ r : PAttr, u = r.u := by
  replace h := At_st.1 h
  obtain ⟨us, rfl, h⟩ := h
  obtain ⟨c1, c2, u1, us1, rfl, rfl, h1, h⟩ := Ats_cons.1 h
  obtain ⟨c3, c4, u2, us2, rfl, rfl, h2, h⟩ := Ats_cons.1 h
  obtain ⟨rfl, rfl⟩ := Ats_nil.1 h
  obtain ⟨s, rfl, rfl, w1⟩ := At_str.1 h1
  obtain ⟨v, l, rfl, rfl, _⟩ := strs_typed h2
  exact ⟨⟨s, l⟩, rfl⟩
theorem class_at {cs : List V} {c : PClass} : At H shClass cs c.u ↔ ∃ v1 v2 v3, cs = [.str c.name, v1, v2, v3] ∧ c.name.length ≤ maxLen ∧ AStrs H v1 c.must ∧ AStrs H v2 c.may ∧ AStrs H v3 c.single := by
  constructor
  · intro h
    obtain ⟨us, hu, h⟩ := At_st.1 h
    cases hu
    obtain ⟨c1, c2, u1, us1, rfl, hu, h1, h⟩ := Ats_cons.1 h
    cases hu
    obtain ⟨c3, c4, u2, us2, rfl, hu, h2, h⟩ := Ats_cons.1 h
    cases hu
    obtain ⟨c5, c6, u3, us3, rfl, hu, h3, h⟩ := Ats_cons.1 h
    cases hu
    obtain ⟨c7, c8, u4, us4, rfl, hu, h4, h⟩ := Ats_cons.1 h
    cases hu
    obtain ⟨rfl, _⟩ := Ats_nil.1 h
    obtain ⟨s, rfl, hs, w1⟩ := At_str.1 h1
    cases hs
    obtain ⟨v1, _, rfl, _⟩ := At_slice.1 h2
    obtain ⟨v2, _, rfl, _⟩ := At_slice.1 h3
    obtain ⟨v3, _, rfl, _⟩ := At_slice.1 h4
    exact ⟨v1, v2, v3, rfl, w1, h2, h3, h4⟩
  · rintro ⟨v1, v2, v3, rfl, h1, h2, h3, h4⟩
    exact At_st.2 ⟨_, rfl, Ats_cons.2 ⟨[_], _, _, _, rfl, rfl, At_str.2 ⟨_, rfl, rfl, h1⟩, Ats_cons.2 ⟨[_], _, _, _, rfl, rfl, h2, Ats_cons.2 ⟨[_], _, _, _, rfl, rfl, h3, Ats_cons.2 ⟨[_], _, _, _, rfl, rfl, h4, Ats_nil.2 ⟨rfl, rfl⟩⟩⟩⟩⟩⟩
theorem class_typed {cs : List V} {u : U} (h : At H shClass cs u) : ∃ r : PClass, u = r.u := by
  replace h := At_st.1 h
  obtain ⟨us, rfl, h⟩ := h
  obtain ⟨c1, c2, u1, us1, rfl, rfl, h1, h⟩ := Ats_cons.1 h
  obtain ⟨c3, c4, u2, us2, rfl, rfl, h2, h⟩ := Ats_cons.1 h
  obtain ⟨c5, c6, u3, us3, rfl, rfl, h3, h⟩ := Ats_cons.1 h
  obtain ⟨c7, c8, u4, us4, rfl, rfl, h4, h⟩ := Ats_cons.1 h
  obtain ⟨rfl, rfl⟩ := Ats_nil.1 h
  obtain ⟨s, rfl, rfl, w1⟩ := At_str.1 h1
  obtain ⟨v, l, rfl, rfl, _⟩ := strs_typed h2
  obtain ⟨v', l', rfl, rfl, _⟩ := strs_typed h3
  obtain ⟨v'', l'', rfl, rfl, _⟩ := strs_typed h4
  exact ⟨⟨s, l, l', l''⟩, rfl⟩
theorem entry_at {cs : List V} {e : PEntry} : At H shEntry cs e.u ↔ ∃ v1 v2, cs = [v1, v2] ∧ ARdns H v1 e.dn ∧ AAttrs H v2 e.attrs := by
  constructor
  · intro h
    obtain ⟨us, hu, h⟩ := At_st.1 h
    cases hu
    obtain ⟨c1, c2, u1, us1, rfl, hu, h1, h⟩ := Ats_cons.1 h
    cases hu
    obtain ⟨c3, c4, u2, us2, rfl, hu, h2, h⟩ := Ats_cons.1 h
    cases hu
    obtain ⟨rfl, _⟩ := Ats_nil.1 h
    obtain ⟨v1, _, rfl, _⟩ := At_slice.1 h1
    obtain ⟨v2, _, rfl, _⟩ := At_slice.1 h2
    exact ⟨v1, v2, rfl, h1, h2⟩
  · rintro ⟨v1, v2, rfl, h1, h2⟩
    exact At_st.2 ⟨_, rfl, Ats_cons.2 ⟨[_], _, _, _, rfl, rfl, h1, Ats_cons.2 ⟨[_], _, _, _, rfl, rfl, h2, Ats_nil.2 ⟨rfl, rfl⟩⟩⟩⟩
theorem entry_typed {cs : List V} {u : U} (h : At H shEntry cs u) : ∃ r : PEntry, u = r.u := by
  replace h := At_st.1 h
  obtain ⟨us, rfl, h⟩ := h
  obtain ⟨c1, c2, u1, us1, rfl, rfl, h1, h⟩ := Ats_cons.1 h
  obtain ⟨c3, c4, u2, us2, rfl, rfl, h2, h⟩ := Ats_cons.1 h
  obtain ⟨rfl, rfl⟩ := Ats_nil.1 h
  obtain ⟨v, l, rfl, rfl, _⟩ := ASl.typed (fun _ _ => rdn_typed) h1
  obtain ⟨v', l', rfl, rfl, _⟩ := ASl.typed (fun _ _ => attr_typed) h2
  exact ⟨⟨l, l'⟩, rfl⟩

/-- An element of a list of texts. -/
theorem strs_idx {xs : List Str} (h : AStrs H v xs) {i : Nat} {s : Str} (hx : xs[i]? = some s) : ∃ id o,
    (∀ (e s b : Nat) (z : List V) (ty : Nat → LT) (k : IntKind), (ty e).size = 1 → indexR ⟨.slice e, s, b, z⟩ ty (.val v) (.int k i) = some (.val (.ptr (some (id, o))))) ∧
    (∀ T : LT, T.one → ∀ r c, loadAt T ⟨r, c, H⟩ (.hp id o) = some (.str s)) ∧ s.length ≤ maxLen := by
  obtain ⟨id, o, own, cells, e1, e2, e3, e4⟩ := ASl.idx h hx (by decide)
  obtain ⟨t, e4, ht, e5⟩ := At_str.1 e4
  cases ht
  exact ⟨id, o, e1, load1 e2 (by simpa using cells_get e4 (j := 0) rfl), e5⟩
theorem rdns_idx {xs : List PRdn} (h : ARdns H v xs) {i : Nat} {x : PRdn} (hx : xs[i]? = some x) : ∃ id o,
    (∀ (e s b : Nat) (z : List V) (ty : Nat → LT) (k : IntKind), (ty e).size = 2 → indexR ⟨.slice e, s, b, z⟩ ty (.val v) (.int k i) = some (.val (.ptr (some (id, o))))) ∧
    (∀ T : LT, T.one → ∀ r c, loadAt T ⟨r, c, H⟩ (.hp id o) = some (.str x.attr)) ∧ (∀ T : LT, T.one → ∀ r c, loadAt T ⟨r, c, H⟩ (.hp id (o + 1)) = some (.str x.value)) ∧
    (∀ T : LT, T.many 2 → ∀ r c, loadAt T ⟨r, c, H⟩ (.hp id o) = some (.agg [.str x.attr, .str x.value])) ∧ At H shRdn [.str x.attr, .str x.value] x.u := by
  obtain ⟨id, o, own, cells, e1, e2, e3, e4⟩ := ASl.idx h hx (by decide)
  have e6 := e4
  obtain ⟨e4, e5⟩ := rdn_at.1 e4
  rw [e4] at e6
  exact ⟨id, o, e1, load1 e2 (by simpa using cells_get e4 (j := 0) rfl), load1 e2 (by simpa using cells_get e4 (j := 1) rfl), loadN e2 e3 (by decide) e4, e6⟩
theorem attrs_idx {xs : List PAttr} (h : AAttrs H v xs) {i : Nat} {x : PAttr} (hx : xs[i]? = some x) : ∃ id o w,
    (∀ (e s b : Nat) (z : List V) (ty : Nat → LT) (k : IntKind), (ty e).size = 2 → indexR ⟨.slice e, s, b, z⟩ ty (.val v) (.int k i) = some (.val (.ptr (some (id, o))))) ∧
    (∀ T : LT, T.one → ∀ r c, loadAt T ⟨r, c, H⟩ (.hp id o) = some (.str x.name)) ∧ (∀ T : LT, T.one → ∀ r c, loadAt T ⟨r, c, H⟩ (.hp id (o + 1)) = some w) ∧
    (∀ T : LT, T.many 2 → ∀ r c, loadAt T ⟨r, c, H⟩ (.hp id o) = some (.agg [.str x.name, w])) ∧ AStrs H w x.vals ∧ At H shAttr [.str x.name, w] x.u ∧ x.name.length ≤ maxLen := by
  obtain ⟨id, o, own, cells, e1, e2, e3, e4⟩ := ASl.idx h hx (by decide)
  have e6 := e4
  obtain ⟨w, e4, e7, e5⟩ := attr_at.1 e4
  rw [e4] at e6
  exact ⟨id, o, w, e1, load1 e2 (by simpa using cells_get e4 (j := 0) rfl), load1 e2 (by simpa using cells_get e4 (j := 1) rfl), loadN e2 e3 (by decide) e4, e5, e6, e7⟩
theorem classes_idx {xs : List PClass} (h : AClasses H v xs) {i : Nat} {x : PClass} (hx : xs[i]? = some x) : ∃ id o w1 w2 w3,
    (∀ (e s b : Nat) (z : List V) (ty : Nat → LT) (k : IntKind), (ty e).size = 4 → indexR ⟨.slice e, s, b, z⟩ ty (.val v) (.int k i) = some (.val (.ptr (some (id, o))))) ∧
    (∀ T : LT, T.one → ∀ r c, loadAt T ⟨r, c, H⟩ (.hp id o) = some (.str x.name)) ∧
    (∀ T : LT, T.many 4 → ∀ r c, loadAt T ⟨r, c, H⟩ (.hp id o) = some (.agg [.str x.name, w1, w2, w3])) ∧ AStrs H w1 x.must ∧ AStrs H w2 x.may ∧ AStrs H w3 x.single ∧ At H shClass [.str x.name, w1, w2, w3] x.u ∧ x.name.length ≤ maxLen := by
  obtain ⟨id, o, own, cells, e1, e2, e3, e4⟩ := ASl.idx h hx (by decide)
  have e6 := e4
  obtain ⟨w1, w2, w3, e4, e7, e8, e9, e5⟩ := class_at.1 e4
  rw [e4] at e6
  exact ⟨id, o, w1, w2, w3, e1, load1 e2 (by simpa using cells_get e4 (j := 0) rfl), loadN e2 e3 (by decide) e4, e8, e9, e5, e6, e7⟩
theorem classes_idxT {xs : List PClass} (h : AClasses H v xs) {i : Nat} {x : PClass} (hx : xs[i]? = some x) : ∃ id o w1 w2 w3,
    (∀ (e s b : Nat) (z : List V) (ty : Nat → LT) (k : IntKind), (ty e).size = 4 → indexR ⟨.slice e, s, b, z⟩ ty (.val v) (.int k i) = some (.val (.ptr (some (id, o))))) ∧
    (∀ T' : List Ob, ∀ T : LT, T.many 4 → ∀ r c, loadAt T ⟨r, c, H ++ T'⟩ (.hp id o) = some (.agg [.str x.name, w1, w2, w3])) ∧ AStrs H w1 x.must ∧ AStrs H w2 x.may ∧ AStrs H w3 x.single := by
  obtain ⟨id, o, own, cells, e1, e2, e3, e4⟩ := ASl.idx h hx (by decide)
  obtain ⟨w1, w2, w3, e4, e7, e8, e9, e5⟩ := class_at.1 e4
  exact ⟨id, o, w1, w2, w3, e1, fun T' => loadN (up_append _ _ e2) e3 (by decide) e4, e8, e9, e5⟩
end
end Go.Lite

namespace Go.Lite
open Go
set_option linter.unusedSimpArgs false
set_option linter.unusedVariables false

def LtS (a b : Str) : Prop := Op.bytesLess a b = true
def PrevLt {α : Type} (key : α → Str) (l : List α) (j : Nat) (x : α) : Prop := ∀ y, 0 < j → l[j - 1]? = some y → LtS (key y) (key x)
def DnOk (l : List PRdn) : Prop := (∀ (j : Nat) x, l[j]? = some x → NameOk x.attr ∧ ValueOk x.value) ∧ l.length ≤ 6
def NamesOk (l : List Str) : Prop := ∀ (j : Nat) x, l[j]? = some x → NameOk x ∧ PrevLt (fun x => x) l j x
def ValuesOk (l : List Str) : Prop := (∀ (j : Nat) x, l[j]? = some x → ValueOk x ∧ PrevLt norm l j x) ∧ 1 ≤ l.length ∧ l.length ≤ 4
def AttrsOk (l : List PAttr) : Prop := (∀ (j : Nat) x, l[j]? = some x → NameOk x.name ∧ PrevLt PAttr.name l j x ∧ ValuesOk x.vals) ∧ l.length ≤ 8
def EntryOk (e : PEntry) : Prop := 0 < e.dn.length ∧ DnOk e.dn ∧ AttrsOk e.attrs
def classT : Str := [99, 108, 97, 115, 115]
structure ClassOk (c : PClass) : Prop where
  name : NameOk c.name
  l1 : c.must.length ≤ 10
  l2 : c.may.length ≤ 10
  l3 : c.single.length ≤ 10
  n1 : NamesOk c.must
  n2 : NamesOk c.may
  n3 : NamesOk c.single
  apart : ∀ t ∈ c.must, t ∉ c.may
  known : ∀ t ∈ c.single, t ∈ c.may ∨ t ∈ c.must
  noMust : classT ∉ c.must
  noMay : classT ∉ c.may
def SchemaOk (l : List PClass) : Prop := (∀ (j : Nat) x, l[j]? = some x → ClassOk x ∧ PrevLt PClass.name l j x) ∧ l.length ≤ 6

theorem at_step {α : Type} {l : List α} {i : Nat} {P : Nat → α → Prop} (h : ∀ j x, j < i → l[j]? = some x → P j x) {c : α} (hc : l[i]? = some c) (hp : P i c) : ∀ j x, j < i + 1 → l[j]? = some x → P j x := by
  intro j x hj hx
  by_cases hji : j = i
  · subst hji; rw [hc] at hx; cases hx; exact hp
  · exact h j x (by omega) hx
theorem at_all {α : Type} {l : List α} {P : Nat → α → Prop} (h : ∀ j x, j < l.length → l[j]? = some x → P j x) : ∀ j x, l[j]? = some x → P j x :=
  fun j x hx => h j x (List.getElem?_eq_some_iff.1 hx).1 hx

/-- The first one with this key, or -1. -/
def FirstAt {α : Type} (key : α → Str) (l : List α) (n : Str) (r : Int) : Prop :=
  (∃ (k : Nat) (a : α), l[k]? = some a ∧ key a = n ∧ (∀ j b, j < k → l[j]? = some b → key b ≠ n) ∧ r = k) ∨ ((∀ (j : Nat) b, l[j]? = some b → key b ≠ n) ∧ r = -1)

def firstOf {α : Type} (key : α → Str) (l : List α) (n : Str) : Option α := l.find? fun a => key a == n
theorem FirstAt.pos {α : Type} {key : α → Str} {l : List α} {n : Str} {r : Int} (h : FirstAt key l n r) : (∃ (k : Nat) (a : α), l[k]? = some a ∧ r = k ∧ firstOf key l n = some a) ∨ (r = -1 ∧ firstOf key l n = none) := by
  rcases h with ⟨k, a, h1, h2, h3, rfl⟩ | ⟨h1, rfl⟩
  · refine .inl ⟨k, a, h1, rfl, ?_⟩
    unfold firstOf
    rw [List.find?_eq_some_iff_getElem]
    obtain ⟨hk, h1⟩ := List.getElem?_eq_some_iff.1 h1
    refine ⟨by simp [h2], k, hk, h1, fun j hj => ?_⟩
    have := h3 j l[j] hj (List.getElem?_eq_getElem _)
    simp [this]
  · refine .inr ⟨rfl, ?_⟩
    unfold firstOf
    rw [List.find?_eq_none]
    intro x hx
    obtain ⟨j, hj, rfl⟩ := List.getElem_of_mem hx
    simpa using h1 j _ (List.getElem?_eq_getElem hj)
/-- The values of an attribute. -/
def valsOf (l : List PAttr) (n : Str) : List Str := match firstOf PAttr.name l n with
  | some a => a.vals
  | none => []
/-- The class of an entry. -/
noncomputable def mineOf (l : List PClass) (as : List PAttr) : Option PClass := match valsOf as classT with
  | [v] => firstOf PClass.name l (norm v)
  | _ => none
/-- The names that an entry lacks. -/
noncomputable def lacks (c : PClass) (as : List PAttr) : List Str := c.must.filter fun t => (firstOf PAttr.name as t).isNone
noncomputable def missingOf (l : List PClass) (e : PEntry) : List Str := if dec (SchemaOk l ∧ EntryOk e) = true then (match mineOf l e.attrs with
  | some c => lacks c e.attrs
  | none => []) else []

/-- Values that are gathered in an object of the call's own. -/
def Gs (H G : List Ob) (v : V) (cs : List V) : Prop := ∃ T id, G = H ++ T ∧ H.length ≤ id ∧ G[id]? = some (.mk true 1 cs) ∧ v = .slc (some (id, 0)) cs.length
theorem Gs.init {H : List Ob} : Gs H (H ++ [.mk true 1 []]) (.slc (some (H.length, 0)) 0) [] := ⟨_, H.length, rfl, Nat.le_refl _, by simp, rfl⟩
section
variable {H G : List Ob} {v : V} {cs : List V}
theorem Gs.push (h : Gs H G v cs) {x : V} {z : List V} {d : LD} {b : Nat} (hx : isOne x = true) (hb : (cs.length + 1) * b ≤ maxMade) (hb0 : 0 < b) (hb1 : b ≤ 1000000) (hz : z.length = 1) : ∃ v' G', appendV ⟨d, 1, b, z⟩ (G ++ [.mk true 1 [x]]) v (.slc (some (G.length, 0)) 1) = some (v', G') ∧ Gs H G' v' (cs ++ [x]) := by
  obtain ⟨T, id, rfl, h1, h2, rfl⟩ := h
  have hid : id < (H ++ T).length := (List.getElem?_eq_some_iff.1 h2).1
  have hid' : id < H.length + T.length := by simpa using hid
  have hg : (H ++ T ++ [Ob.mk true 1 [x]])[id]? = some (.mk true 1 cs) := by rw [List.getElem?_append_left hid]; exact h2
  have hnew : newCells ⟨d, 1, b, z⟩ (H ++ T ++ [Ob.mk true 1 [x]]) (.slc (some ((H ++ T).length, 0)) 1) = some ([x], 1) := by
    simp only [newCells, Nat.mul_one, slcCells, get_last]
    rfl
  refine ⟨.slc (some ((H ++ T ++ [Ob.mk true 1 [x]]).length, 0)) (cs.length + 1), (H ++ T ++ [Ob.mk true 1 [x]]).set id .dead ++ [.mk true 1 (cs ++ [x])], ?_, ?_⟩
  · unfold appendV
    rw [if_pos (by simp [growOk, hz, hb0, hb1]), hnew]
    simp only [Nat.one_ne_zero, if_false, List.all_cons, List.all_nil, hx, Bool.and_true, if_true, hg]
    have e1 : ¬ (0 + (cs.length + 1) * 1 ≤ cs.length) := by omega
    have e2 : (0 + cs.length * 1 = cs.length ∨ cs.length = 0 ∧ cs.length ≤ 0) ∧ (cs.length + 1) * b ≤ maxMade := ⟨.inl (by simp), hb⟩
    rw [if_neg e1, if_pos e2, List.drop_zero]
  · refine ⟨T.set (id - H.length) .dead ++ [.mk true 1 [x]] ++ [.mk true 1 (cs ++ [x])], (H ++ T ++ [Ob.mk true 1 [x]]).length, ?_, by simp only [List.length_append]; omega, ?_, by simp⟩
    · rw [List.append_assoc H T, List.set_append_right _ _ h1, List.set_append_left _ _ (by omega)]
      simp
    · have hl : ((H ++ T ++ [Ob.mk true 1 [x]]).set id .dead).length = (H ++ T ++ [Ob.mk true 1 [x]]).length := List.length_set
      rw [← hl, get_last]
theorem Gs.ext (h : Gs H G v cs) : ∃ T, G = H ++ T := by
  obtain ⟨T, id, h, _⟩ := h
  exact ⟨T, h⟩
theorem Gs.gc (h : Gs H G v cs) : gcH H G v = G := by
  obtain ⟨T, id, rfl, h1, h2, rfl⟩ := h
  unfold gcH
  rw [if_neg]
  rintro ⟨_, own, es, cells, h⟩
  have := (List.getElem?_eq_some_iff.1 h).1
  omega
theorem Gs.one (h : Gs H G v cs) : isOne v = true ∧ cellsOf v = some [v] := by
  obtain ⟨T, id, rfl, h1, h2, rfl⟩ := h
  exact ⟨rfl, rfl⟩
theorem Gs.strs {l : List Str} (h : Gs H G v (l.map V.str)) (hl : l.length ≤ maxLen) (hs : ∀ s ∈ l, s.length ≤ maxLen) : AStrs G v l ∧ ∃ id, AtF G (.slice .str) [v] (.lst (l.map strU)) [id] ∧ H.length ≤ id := by
  obtain ⟨T, id, rfl, h1, h2, rfl⟩ := h
  have hF : AtF (H ++ T) (.slice .str) [.slc (some (id, 0)) (l.map V.str).length] (.lst (l.map strU)) [id] := by
    refine AtF_slice.2 ⟨_, _, rfl, rfl, by simpa using hl, .inr ⟨id, 0, l.map V.str, List.replicate l.length [], by simp, h2, by simp, by simp, by simp, fun i x G hx hG => ?_⟩⟩
    rw [List.getElem?_map] at hx
    obtain ⟨s, hs', rfl⟩ := Option.map_eq_some_iff.1 hx
    have hi : i < l.length := (List.getElem?_eq_some_iff.1 hs').1
    rw [List.getElem?_replicate, if_pos hi] at hG
    cases hG
    refine AtF_str.2 ⟨⟨s, ?_, rfl, hs s (List.mem_of_getElem? hs')⟩, rfl⟩
    rw [Sh.size_str, Nat.zero_add, Nat.mul_one, List.drop_eq_getElem_cons (by simpa using hi)]
    obtain ⟨_, rfl⟩ := List.getElem?_eq_some_iff.1 hs'
    simp
  exact ⟨AtF.at _ hF, id, hF, h1⟩
end
end Go.Lite
