/- Part 05 of the proof of a law: the interpreter, its soundness, and what functions of the program compute over it. Conditions: none but those that each theorem names. -/
import Derived.Test.YtdkbgdjfmbppfaaGreatDoorE04
import Derived.Test.YtdkbgdjfmbppfaaGreatDoorE01
import Derived.Lib.Bytealg
import Derived.Deep.Slices
import Derived.ChangeArms
import Derived.ReadAgain
import Derived.ChangeSame
import Derived.Below

set_option linter.all false
set_option maxRecDepth 20000
set_option maxHeartbeats 40000000
section
namespace Go.Lite
open Go
variable [Draws]
section
variable {P : Program} {C : Ctx} {μ μ' : Mu} {w w' : World} {H H' : List Ob}
theorem lL : ∀ {cs : List V} {i : Nat} {v : V}, gK H cs → cs[i]? = some v → dZ H v
 | [], i, v, _, h => by simp at h
 | c :: cs, 0, v, hl, h => by simp at h; subst h; simp only [gK] at hl; exact hl.1
 | c :: cs, i + 1, v, hl, h => by simp only [gK] at hl; exact lL hl.2 (by simpa using h)
theorem VR.down (hle : μ.le μ') (hmap : ∀ id, kV H id → ∃ m, μ id = some m) {v : V} {u : Value} (h : VR μ' v u) : dZ H v → VR μ v u := by
 have key : ∀ id m, kV H id → μ' id = some m → μ id = some m := fun id m ht hm => by
  obtain ⟨m', h1⟩ := hmap id ht
  rw [hle _ _ h1] at hm
  cases hm; exact h1
 induction h with
 | undef u => exact fun _ => .undef u
 | int k n => exact fun _ => .int k n
 | bool b => exact fun _ => .bool b
 | str b => exact fun _ => .str b
 | ptrN => exact fun _ => .ptrN
 | ptr id off m h => exact fun hl => .ptr id off m (key _ _ (by simpa only [dZ] using hl) h)
 | slcN => exact fun _ => .slcN
 | slc id off n c m h hn hr hre => exact fun hl => .slc id off n c m (key _ _ (by simpa only [dZ] using hl) h) hn hr hre
 | slcZ id off m a h hr => exact fun hl => .slcZ id off m a (key _ _ (by simpa only [dZ] using hl) h) hr
 | agg cs us hl h ih => exact fun hl' => .agg cs us hl fun i v u hv hu => ih i v u hv hu (lL (by simpa only [dZ] using hl') hv)
 | tup cs us hl h ih => exact fun hl' => .tup cs us hl fun i v u hv hu => ih i v u hv hu (lL (by simpa only [dZ] using hl') hv)
 | fn f az bs us vs hl h hl' h' ih ih' =>
  intro hlo
  simp only [dZ] at hlo
  exact .fn f az bs us vs hl (fun i v u hv hu => ih i v u hv hu (lL hlo.1 hv)) hl' (fun i v u hv hu => ih' i v u hv hu (lL hlo.2 hv))
 | nilfn => exact fun _ => .nilfn
 | niface => exact fun _ => .niface
 | someif t u => exact fun _ => .someif t u
theorem VR.down2 (hle : μ.le μ') {v : V} {u u0 : Value} (h : VR μ' v u) : VR μ v u0 → VR μ v u := by
 have key : ∀ id m m0, μ id = some m0 → μ' id = some m → μ id = some m := fun id m m0 h0 hm => by
  rw [hle _ _ h0] at hm
  cases hm; exact h0
 induction h generalizing u0 with
 | undef u => exact fun _ => .undef u
 | int k n => exact fun _ => .int k n
 | bool b => exact fun _ => .bool b
 | str b => exact fun _ => .str b
 | ptrN => exact fun _ => .ptrN
 | ptr id off m h => intro h0; cases h0 with | ptr _ _ m0 h1 => exact .ptr id off m (key _ _ _ h1 h)
 | slcN => exact fun _ => .slcN
 | slc id off n c m h hn hr hre => intro h0; cases h0 with
  | slc _ _ _ c0 m0 h1 => exact .slc id off n c m (key _ _ _ h1 h) hn hr hre
  | slcZ _ _ m0 a0 h1 => exact .slc id off _ c m (key _ _ _ h1 h) hn hr hre
 | slcZ id off m a h hr => intro h0; cases h0 with
  | slc _ _ _ c0 m0 h1 => exact .slcZ id off m a (key _ _ _ h1 h) hr
  | slcZ _ _ m0 a0 h1 => exact .slcZ id off m a (key _ _ _ h1 h) hr
 | agg cs us hl h ih => intro h0; cases h0 with
  | agg _ us0 hl0 g0 =>
   refine .agg cs us hl fun i v u hv hu => ?_
   have hi : i < us0.size := by rw [← hl0]; exact (List.getElem?_eq_some_iff.1 hv).1
   exact ih i v u hv hu (g0 i v us0[i] hv (by simp [hi]))
 | tup cs us hl h ih => intro h0; cases h0 with
  | tup _ us0 hl0 g0 =>
   refine .tup cs us hl fun i v u hv hu => ?_
   have hi : i < us0.size := by rw [← hl0]; exact (List.getElem?_eq_some_iff.1 hv).1
   exact ih i v u hv hu (g0 i v us0[i] hv (by simp [hi]))
 | fn f az bs us vs hl h hl' h' ih ih' => intro h0; cases h0 with
  | fn _ _ _ us0 vs0 hl0 g0 hl0' g0' =>
   refine .fn f az bs us vs hl (fun i v u hv hu => ?_) hl' (fun i v u hv hu => ?_)
   ·have hi : i < us0.size := by rw [← hl0]; exact (List.getElem?_eq_some_iff.1 hv).1
    exact ih i v u hv hu (g0 i v us0[i] hv (by simp [hi]))
   ·have hi : i < vs0.size := by rw [← hl0']; exact (List.getElem?_eq_some_iff.1 hv).1
    exact ih' i v u hv hu (g0' i v vs0[i] hv (by simp [hi]))
 | nilfn => exact fun _ => .nilfn
 | niface => exact fun _ => .niface
 | someif t u => exact fun _ => .someif t u
theorem Iy (hs : HSim H μ w) (h : HGoes H μ w H' μ' w') {r : V} {u : Value} (hv : VR μ' r u) : ∃ μ'', HGoes H μ w (eU H H' r) μ'' w' ∧ VR μ'' r u := by
 unfold eU
 split
 ·rename_i hc
  obtain ⟨⟨T, rfl⟩, hlow⟩ := hc
  have old : ∀ (id : Nat) (o : Ob), H[id]? = some o → (H ++ T)[id]? = some o := fun id o ho => by
   rw [List.getElem?_append_left (List.getElem?_eq_some_iff.1 ho).1]; exact ho
  refine ⟨μ, ⟨⟨hs.dom, hs.map, fun id o m ho hm => ?_, hs.sep, fun id es cells m ho hm h3 => h.sim.plain id es cells m (old id _ ho) (h.mle _ _ hm) h3⟩, μ.le_refl, ⟨h.grow.size, h.grow.same, fun b hb => .inl hb, h.grow.os, h.grow.tape, h.grow.output, h.grow.drawn⟩, Lives.refl _ _ _⟩, ?_⟩
  ·have h1 := h.sim.obj id o m (old id o ho) (h.mle _ _ hm)
   have h0 := hs.obj id o m ho hm
   cases o with
   | dead => trivial
   | mk own es cells =>
    refine ⟨h1.1, h1.2.1, h1.2.2.1, fun j v hj => ?_, h1.2.2.2.2.1, h1.2.2.2.2.2⟩
    obtain ⟨u, k1, k2⟩ := h1.2.2.2.1 j v hj
    obtain ⟨u0, _, k3⟩ := h0.2.2.2.1 j v hj
    exact ⟨u, k1, VR.down2 h.mle k2 k3⟩
  ·exact VR.down h.mle (fun id ⟨own, es, cells, ht⟩ => hs.map id _ ht rfl) hv hlow
 ·exact ⟨μ', h, hv⟩
def ResOk (n : Nat) : ResultVar → Prop
 | .tmp t => t < n
 | .cell t _ => t < n
variable {L : List Nat} {σ σ' : St} {β : List Nat} {a a' : Act}
def wZ (tmps : Array Value) : ResultVar → Sem Value
 | .tmp t => pure (tmps.getD t undef)
 | .cell a t => do loadVar t (← asAddr (tmps.getD a undef))
theorem Aa (hty : TysOk P C.ty) (hs : Sim L σ μ β a w) {x : ResultVar} (hx : ResOk a.tmps.size x) {v : V} (h : yZ C σ x = some v) : ∃ u, (wZ a.tmps x).run P w = .ok u w ∧ VR μ v u := by
 cases x with
 | tmp t =>
  have := aN hs (x := .tmp t) hx h
  refine ⟨_, rfl, ?_⟩
  simpa [Act.eval] using this
 | cell p t =>
  simp only [yZ] at h
  split at h
  ·rename_i r h1
   split at h
   ·rename_i pl h2
    unfold loadAt at h
    split at h
    ·cases h
    ·rename_i hz
     split at h
     ·rename_i cells h4
      split at h
      ·rename_i cs h5
       cases h
       obtain ⟨b, base, hu, hc⟩ := pg hs (fE hs (x := .tmp p) hx h1) h2 h4
       obtain ⟨u, h6, h7⟩ := oZ (hty.of_size hz) hc h5
       have hu' : a.tmps.getD p undef = .pointer (some ⟨b, base + pl.off, none⟩) := by simpa [Act.eval] using hu
       exact ⟨u, by simp [wZ, hu', asAddr, h6], h7⟩
      ·cases h
     ·cases h
   ·cases h
  ·cases h
theorem oV (hty : TysOk P C.ty) (hs : Sim L σ μ β a w) : ∀ {xs : List ResultVar}, (∀ x ∈ xs, ResOk a.tmps.size x) → ∀ {vs : List V}, iw C σ xs = some vs → ∃ us, (xs.mapM (wZ a.tmps)).run P w = .ok us w ∧ VL μ vs us
 | [], _, vs, h => by simp only [iw, Option.some.injEq] at h; subst h; exact ⟨[], rfl, .nil⟩
 | x :: xs, hx, vs, h => by
  simp only [iw] at h
  split at h
  ·rename_i v vs' h1 h2
   cases h
   obtain ⟨u, k1, k2⟩ := Aa hty hs (hx x (by simp)) h1
   obtain ⟨us, k3, k4⟩ := oV hty hs (fun y hy => hx y (List.mem_cons_of_mem _ hy)) h2
   exact ⟨u :: us, by simp [List.mapM_cons, k1, k3], .cons k2 k4⟩
  ·cases h
theorem xq (hty : TysOk P C.ty) (hs : Sim L σ μ β a w) {F : Func} (hx : ∀ x ∈ F.results.toList, ResOk a.tmps.size x) {vs : List V} (h : iw C σ F.results.toList = some vs) :
  ∃ u, (results F a.tmps).run P w = .ok u w ∧ VR μ (fG vs) u := by
 obtain ⟨us, k1, k2⟩ := oV hty hs hx h
 have e : results F a.tmps = (do let vs ← F.results.mapM (wZ a.tmps); pure (if h : vs.size = 1 then vs[0] else .tuple vs)) := by
  unfold results
  congr 1
 have e2 : (F.results.mapM (wZ a.tmps)).run P w = .ok us.toArray w := by
  rw [Array.mapM_eq_mapM_toList]
  simp [k1]
 refine ⟨if h : us.toArray.size = 1 then us.toArray[0] else .tuple us.toArray, by rw [e]; simp [e2], ?_⟩
 cases k2 with
 | nil => exact .tup _ _ rfl (fun i v u hv => by simp at hv)
 | cons h1 h2 =>
  cases h2 with
  | nil => simpa [fG] using h1
  | cons h2 h3 =>
   rw [dif_neg (by simp)]
   exact .tup _ _ (by simp [VL.length h3]) fun i v u hv hu => VL.get (.cons h1 (.cons h2 h3)) i v u hv (by simpa using hu)
def nH (P : Program) (g : Nat) (pr : List V → List Ob → Option (V × List Ob)) : Prop :=
 ∀ (args : List V) (H : List Ob) (r : V) (H' : List Ob), pr args H = some (r, H') → ∀ (μ : Mu) (w : World) (us : Array Value), HSim H μ w → VL μ args us.toList →
  CallTo P g us w fun v w' => ∃ μ', HGoes H μ w H' μ' w' ∧ VR μ' r v
structure FnOk (P : Program) (C : Ctx) (g : Nat) (F : Func) (c : Code) : Prop where
 func : P.funcs[g]? = some F
 body : F.body = some c
 name : (F.name == "runtime.NumGoroutine") = false
 code : CodeOk P C g F.ntmps c
 res : ∀ x ∈ F.results.toList, ResOk F.ntmps x
structure ProgOk (P : Program) (C : Ctx) : Prop where
 ty : TysOk P C.ty
 prim : ∀ g pr, C.prim g = some pr → nH P g pr
 fn : ∀ g F c, C.fids g = true → C.funcs g = some F → F.body = some c → FnOk P C g F c
theorem ResOk.mono {n m : Nat} (h : n ≤ m) {x : ResultVar} (hx : ResOk n x) : ResOk m x := by
 cases x <;> exact Nat.lt_of_lt_of_le hx h
theorem GR (hs : HSim H μ w) {args : List V} {us : Array Value} (ha : VL μ args us.toList) (k : Nat) : Sim L ⟨ag args, 0, H⟩ μ [] { tmps := us ++ Array.replicate k undef, defers := [] } w where
 heap := hs
 lenβ := rfl
 reg t ht := by
  show VR μ (args.getD t .undef) _
  have hl := VL.length ha
  rw [List.getD_eq_getElem?_getD]
  cases hv : args[t]? with
  | none => exact .undef _
  | some v =>
   have hlt : t < us.size := by rw [← Array.length_toList, ← hl]; exact (List.getElem?_eq_some_iff.1 hv).1
   have hu : us.toList[t]? = some us[t] := by simp [hlt]
   have := VL.get ha t v _ hv hu
   simpa [Array.getD_eq_getD_getElem?, Array.getElem?_append, hlt] using this
 box t c cells b ht h := by simp [ag] at h
 sepβ id o m b _ _ _ h := by cases h
 injβ c c' b h := by simp at h
 ltβ b h := by cases h
 uniq t t' c cells cells' _ _ h := by simp [ag] at h
 loc t c cells _ h := by simp [ag] at h
 defs := rfl
theorem Jz (hp : ProgOk P C) : ∀ n, iD P (fA C n) := by
 intro n
 induction n with
 | zero => intro g args H r H' h; cases h
 | succ n ih =>
  intro g args H r H' h μ w us hs ha
  simp only [fA] at h
  split at h
  ·rename_i pr hpr
   exact hp.prim g pr hpr args H r H' h μ w us hs ha
  ·split at h
   ·rename_i hid
    split at h
    ·rename_i F hF
     split at h
     ·rename_i c hc
      have hfn := hp.fn g F c hid hF hc
      refine .inr ⟨by simp [callFunc, hfn.func, (by simpa using hfn.name : ¬F.name = "runtime.NumGoroutine"), hc], calls_of_wp hfn.func hc ?_⟩
      have hsim := GR (L := C.locs g) hs ha (F.ntmps - us.size)
      have hsz : F.ntmps ≤ (us ++ Array.replicate (F.ntmps - us.size) undef).size := by simp; omega
      unfold qP at h
      have fin : ∀ {σ' : St} {vs : List V} {a' : Act} {w' : World}, iw C σ' F.results.toList = some vs → r = fG vs → H' = eU H σ'.heap (fG vs) →
        Leads (C.locs g) ⟨ag args, 0, H⟩ μ [] { tmps := us ++ Array.replicate (F.ntmps - us.size) undef, defers := [] } w σ' a' w' →
        a'.defers = [] ∧ ∃ v, (results F a'.tmps).run P w' = .ok v w' ∧ ∃ v', Ending.returned v = .returned v' ∧ ∃ μ', HGoes H μ w H' μ' w' ∧ VR μ' r v' := by
       intro σ' vs a' w' hv hr hH hl
       obtain ⟨μ', β', k1, k2, k3, k4, k5, k6⟩ := hl
       obtain ⟨u, h1, h2⟩ := xq hp.ty k1 (fun x hx => (hfn.res x hx).mono (by rw [k4]; exact hsz)) hv
       have hg : HGoes H μ w σ'.heap μ' w' := ⟨k1.heap, k2, ⟨k5.size, k5.same, fun b hb => k5.own b (hb.elim .inl fun hb => by cases hb), k5.os, k5.tape, k5.output, k5.drawn⟩, k6⟩
       obtain ⟨μ'', h3, h4⟩ := Iy hs hg h2
       exact ⟨k1.defs, u, h1, u, rfl, μ'', by rw [hH]; exact h3, by rw [hr]; exact h4⟩
      split at h
      ·rename_i σ' hex
       split at h
       ·rename_i vs hv
        cases h
        exact Eu.1 (vK (ro := none) hp.ty ih c hsim (hfn.code.mono hsz) hex fun a' w' hl => fin hv rfl rfl hl)
       ·cases h
      ·rename_i σ' hex
       split at h
       ·rename_i vs hv
        cases h
        exact Eu.1 (vK (ro := none) hp.ty ih c hsim (hfn.code.mono hsz) hex fun a' w' hl => fin hv rfl rfl hl)
       ·cases h
      ·cases h
     ·cases h
    ·cases h
   ·cases h
theorem DrawsOk.of {f id : Nat} {ops : Array Oper} (hty : TysOk P C.ty) (hm : P.follows .mixedOrders = true) (hd : ut C f ops (hintOf C f id ops) = true) : DrawsOk P C f id ops := by
 intro callf σ σ' μ β a w Q ro t hcall hs hop hr hq
 simp only [Region.schedule, hm, Bool.true_or, if_true]
 exact wpAnyIn_sound ops.size t _ _ _ (xn hty hcall hd hs hop hr hq)
end
def descOf (P : Program) (t : Nat) : Option LD :=
 match P.underlying t with
 | none => none
 | some (.int k) => some (.int k)
 | some .bool => some .bool
 | some .string => some .str
 | some (.pointer _) => some .ptr
 | some (.func _ _ _) => some .func
 | some (.interface _) => some .iface
 | some (.slice e) => some (.slice e)
 | some (.array n e) => some (.array n e)
 | some (.struct Fs) => if Fs.toList.all (fun F => (P.info? F.type).isSome && F.name != "_") && !P.stoodInHeld t && !P.eqGuardType P.depth t then some (.struct (Fs.toList.map fun f => (f.offset, f.type))) else none
 | some _ => some .other
def MR (P : Program) (t : Nat) : LT :=
 match P.info? t, descOf P t with
 | some i, some d => match i.zero with
  | some z => ⟨d, i.size, i.bytes, z.cells.toList.map toV1⟩
  | none => .none
 | _, _ => .none
theorem EE (P : Program) : TysOk P (MR P) := by
 intro t
 unfold MR
 split
 ·rename_i i d hi hd
  split
  ·rename_i z hz
   have hds : yT P t d ∧ ∀ fs, d = .struct fs → P.stoodInHeld t = false ∧ P.eqGuardType P.depth t = false ∧ ∃ Fs, P.underlying t = some (.struct Fs) ∧ (fs = Fs.toList.map fun f => (f.offset, f.type)) ∧ ∀ F ∈ Fs.toList, F.name ≠ "_" := by
    unfold descOf at hd
    cases hu : P.underlying t with
    | none => rw [hu] at hd; cases hd
    | some e =>
     rw [hu] at hd
     cases e
     case struct Fs =>
      simp only at hd
      split at hd
      ·rename_i hall
       cases hd
       simp only [Bool.and_eq_true, Bool.not_eq_true'] at hall
       obtain ⟨⟨h1, h2⟩, h3⟩ := hall
       have h4 := List.all_eq_true.1 h1
       refine ⟨⟨Fs, hu, rfl, fun F hF => ?_⟩, fun fs hfs => ?_⟩
       ·have := h4 F hF
        simp only [Bool.and_eq_true] at this
        exact this.1
       ·cases hfs
        refine ⟨h2, h3, Fs, rfl, rfl, fun F hF => ?_⟩
        have := h4 F hF
        simp only [Bool.and_eq_true, bne_iff_ne, ne_eq] at this
        exact this.2
      ·cases hd
     all_goals cases hd
     all_goals refine ⟨?_, fun fs hfs => by cases hfs⟩
     all_goals first
      | exact hu
      | exact ⟨_, hu⟩
      | exact ⟨_, _, _, hu⟩
      | exact ⟨_, hu, trivial⟩
   exact .inr ⟨⟨i, z, hi, rfl, rfl, hz, rfl⟩, hds.1, hds.2⟩
  ·exact .inl rfl
 ·exact .inl rfl
def KJ (n : Nat) : Operand → Bool
 | .tmp t => decide (t < n)
 | _ => true
def IC (n : Nat) (o : Oper) : Bool := o.op.operands.all (KJ n) && (match o.dst with | some d => decide (d < n) | none => true)
def nU (C : Ctx) (f n : Nat) : Code → Bool
 | .region id ops draw => ops.all (IC n) && (!draw || ut C f ops (hintOf C f id ops))
 | .seq a b => nU C f n a && nU C f n b
 | .cond c a b => KJ n c && nU C f n a && nU C f n b
 | .block _ b => nU C f n b
 | .loop b => nU C f n b
 | _ => true
def MO (n : Nat) : ResultVar → Bool
 | .tmp t => decide (t < n)
 | .cell t _ => decide (t < n)
def LJ (C : Ctx) (f : Nat) (F : Func) : Bool :=
 match F.body with
 | some c => !(F.name == "runtime.NumGoroutine") && nU C f F.ntmps c && F.results.all (MO F.ntmps)
 | none => false
theorem vS {n : Nat} {x : Operand} (h : KJ n x = true) : OpdOk n x := by
 cases x <;> simp_all [KJ, OpdOk]
theorem BB {n : Nat} {ops : Array Oper} (h : ops.all (IC n) = true) : OpsOk n ops := by
 intro o ho
 have := Array.all_eq_true_iff_forall_mem.1 h o (by simpa using ho)
 simp only [IC, Bool.and_eq_true] at this
 refine ⟨fun x hx => vS (Array.all_eq_true_iff_forall_mem.1 this.1 x hx), fun d hd => ?_⟩
 have h2 := this.2
 rw [hd] at h2
 simpa using h2
theorem fZ {P : Program} {C : Ctx} {f n : Nat} (hty : TysOk P C.ty) (hm : P.follows .mixedOrders = true) : ∀ {c : Code}, nU C f n c = true → CodeOk P C f n c
 | .region id ops draw, h => by
  simp only [nU, Bool.and_eq_true, Bool.or_eq_true, Bool.not_eq_true'] at h
  refine ⟨BB h.1, fun hd => DrawsOk.of hty hm (h.2.resolve_left (by rw [hd]; decide))⟩
 | .seq a b, h => by
  simp only [nU, Bool.and_eq_true] at h
  exact ⟨fZ hty hm h.1, fZ hty hm h.2⟩
 | .cond c a b, h => by
  simp only [nU, Bool.and_eq_true] at h
  exact ⟨vS h.1.1, fZ hty hm h.1.2, fZ hty hm h.2⟩
 | .block _ b, h => fZ (c := b) hty hm h
 | .loop b, h => fZ (c := b) hty hm h
 | .skip, _ | .rangeFunc .., _ | .exit _, _ | .scope _, _ | .label _, _ | .goto _, _ | .ret, _ | .refuse _, _ => trivial
theorem DY {n : Nat} {x : ResultVar} (h : MO n x = true) : ResOk n x := by
 cases x <;> simpa [MO, ResOk] using h
structure Tabs where
 locs : Nat → List Nat
 ord : Nat → Nat → Option Hint
 prim : Nat → Option (List V → List Ob → Option (V × List Ob))
 fids : List Nat
def ctxOf (P : Program) (T : Tabs) : Ctx :=
 { ty := MR P, locs := T.locs, ord := T.ord, prim := T.prim, fids := fun g => T.fids.contains g, funcs := fun g => P.funcs[g]? }
def LM (P : Program) (T : Tabs) : Bool := T.fids.all fun g => match P.funcs[g]? with | some F => LJ (ctxOf P T) g F | none => false
theorem CB {P : Program} {T : Tabs} (hm : P.follows .mixedOrders = true) (hB : LM P T = true) (hp : ∀ g pr, T.prim g = some pr → nH P g pr) : ProgOk P (ctxOf P T) where
 ty := EE P
 prim := hp
 fn g F c hid hF hc := by
  have hid' : g ∈ T.fids := by simpa [ctxOf] using hid
  have hF' : P.funcs[g]? = some F := hF
  have := List.all_eq_true.1 hB g hid'
  rw [hF'] at this
  simp only [LJ, hc, Bool.and_eq_true, Bool.not_eq_true'] at this
  exact ⟨hF', hc, this.1.1, fZ (EE P) hm this.1.2, fun x hx => DY (Array.all_eq_true_iff_forall_mem.1 this.2 x (by simpa using hx))⟩
end Go.Lite
end
section
namespace Go.Lite
open Go
def qY : List V → List Ob → Option (V × List Ob)
 | [.str a, .str b], H => some (.int .i64 (Lib.compareBytes a b), H)
 | _, _ => none
def strsOf : List V → Option (List (List UInt8))
 | [] => some []
 | .str s :: vs => match strsOf vs with
  | some l => some (s :: l)
  | none => none
 | _ => none
def gY : List V → List Ob → Option (V × List Ob)
 | [.slc p n], H => if n = 0 then some (.tup [], H) else match p with
  | some (id, off) => (match H[id]? with
   | some (.mk true es cells) => if es = 1 ∧ off + n ≤ cells.length ∧ n ≤ 1048576 then (match strsOf ((cells.drop off).take n) with
    | some ss => some (.tup [], H.set id (.mk true es (setRange cells off ((ss.mergeSort fun x y => decide (x ≤ y)).map V.str))))
    | none => none) else none
   | _ => none)
  | none => none
 | _, _ => none
end Go.Lite
end
section
namespace Go.Lite
open Go
variable [Draws]
def EH (cf cf' : bU) : Prop := ∀ g a H x, cf g a H = some x → cf' g a H = some x
section
variable {C : Ctx} {cf cf' : bU} {f : Nat} {σ : St}
theorem Jy (hs : EH cf cf') {d : Option Nat} {op : Op} {x : St} (h : lw C cf f σ d op = some x) : lw C cf' f σ d op = some x := by
 unfold lw at h ⊢
 split at h
 case h_10 g args ts =>
  split at h
  ·rename_i g' a b xs h1 h2
   split at h
   ·rename_i r H h3
    cases h
    try simp only [h1, h2]
    rw [hs _ _ _ _ h3]
   ·cases h
  ·cases h
 case h_11 => cases h
 all_goals exact h
theorem Lm (hs : EH cf cf') {o : Oper} {x : St} (h : yl C cf f o σ = some x) : yl C cf' f o σ = some x := by
 unfold yl at *
 split at h
 ·rename_i hi; rw [if_pos hi]; exact Jy hs h
 ·rename_i hi; rw [if_neg hi]; exact h
theorem oI (hs : EH cf cf') {ops : Array Oper} {o : Oper} {x : St} (h : gQ C cf f ops o σ = some x) : gQ C cf' f ops o σ = some x := by
 unfold gQ at *
 split at h
 ·rename_i hw; try rw [hw]
  exact Lm hs h
 ·rename_i hw; try rw [hw]
  exact h
 ·cases h
theorem qO (hs : EH cf cf') {ops : Array Oper} : ∀ {os : List Oper} {σ x : St}, oO C cf f ops os σ = some x → oO C cf' f ops os σ = some x
 | [], _, _, h => h
 | o :: os, σ, x, h => by
  simp only [oO] at *
  split at h
  ·rename_i σ1 h1
   rw [oI hs h1]
   exact qO hs h
  ·cases h
theorem yM (hs : EH cf cf') {ops : Array Oper} {k : Hint} {base i : Nat} {x : St} (h : iJ C cf f ops k base i σ = some x) : iJ C cf' f ops k base i σ = some x := by
 obtain ⟨o, h1, h2, h3, h4⟩ := dF h
 exact kW h1 h2 (oI hs h3) h4
theorem wC (hs : EH cf cf') {ops : Array Oper} {k : Hint} {base : Nat} : ∀ {is : List Nat} {σ x : St}, kz C cf f ops k base is σ = some x → kz C cf' f ops k base is σ = some x
 | [], _, _, h => h
 | i :: is, σ, x, h => by
  simp only [kz] at *
  split at h
  ·rename_i σ1 h1
   rw [yM hs h1]
   exact wC hs h
  ·cases h
theorem xR (hs : EH cf cf') {ops : Array Oper} {k : Hint} {base i : Nat} {x : St} (h : fD C cf f ops k base i σ = some x) : fD C cf' f ops k base i σ = some x := by
 unfold fD at *
 split at h
 ·rename_i j hj; exact h
 ·rename_i hj
  try simp only [hj]
  split at h
  ·rename_i σ1 h1
   rw [yM hs h1]
   exact h
  ·cases h
theorem wR (hs : EH cf cf') {ops : Array Oper} {k : Hint} {base : Nat} : ∀ {is : List Nat} {σ x : St}, lF C cf f ops k base is σ = some x → lF C cf' f ops k base is σ = some x
 | [], _, _, h => h
 | i :: is, σ, x, h => by
  simp only [lF] at *
  split at h
  ·rename_i σ1 h1
   rw [xR hs h1]
   exact wR hs h
  ·cases h
theorem BN (hs : EH cf cf') {ops : Array Oper} {h : Hint} {x : St} (hr : eQ C cf f ops h σ = some x) : eQ C cf' f ops h σ = some x := by
 unfold eQ at *
 split at hr
 ·exact wC hs hr
 ·exact wR hs hr
theorem yH {cf : bU} {ops : Array Oper} {h : Hint} {base i : Nat} {X Y : List Nat} {a b : St} (h1 : iJ C cf f ops { h with exc := X } base i σ = some a) (h2 : iJ C cf f ops { h with exc := Y } base i σ = some b) : a = b := by
 obtain ⟨o, p1, _, p3, _⟩ := dF h1
 obtain ⟨o', q1, _, q3, _⟩ := dF h2
 rw [p1] at q1; cases q1
 rw [p3] at q3; cases q3; rfl
theorem BX {cf : bU} {ops : Array Oper} {h : Hint} {base : Nat} {X Y : List Nat} : ∀ {is : List Nat} {σ a b : St}, kz C cf f ops { h with exc := X } base is σ = some a → kz C cf f ops { h with exc := Y } base is σ = some b → a = b
 | [], _, _, _, h1, h2 => by simp only [kz, Option.some.injEq] at h1 h2; rw [← h1, ← h2]
 | i :: is, σ, a, b, h1, h2 => by
  simp only [kz] at h1 h2
  split at h1
  ·rename_i σ1 e1
   split at h2
   ·rename_i σ2 e2
    cases yH e1 e2
    exact BX h1 h2
   ·cases h2
  ·cases h1
theorem Gw {cf : bU} {ops : Array Oper} {h : Hint} {base i : Nat} {X Y : List Nat} {a b : St} (h1 : fD C cf f ops { h with exc := X } base i σ = some a) (h2 : fD C cf f ops { h with exc := Y } base i σ = some b) : a = b := by
 unfold fD at h1 h2
 simp only at h1 h2
 split at h1
 ·rename_i k hk
  rw [hk] at h2
  simp only at h2
  rw [h1] at h2
  cases h2; rfl
 ·rename_i hk
  rw [hk] at h2
  simp only at h2
  split at h1
  ·rename_i s1 e1
   split at h2
   ·rename_i s2 e2
    cases yH e1 e2
    split at h1
    ·rename_i hl
     rw [if_pos hl] at h2
     cases h1; cases h2; rfl
    ·cases h1
   ·cases h2
  ·cases h1
theorem BF {cf : bU} {ops : Array Oper} {h : Hint} {base : Nat} {X Y : List Nat} : ∀ {is : List Nat} {σ a b : St}, lF C cf f ops { h with exc := X } base is σ = some a → lF C cf f ops { h with exc := Y } base is σ = some b → a = b
 | [], _, _, _, h1, h2 => by simp only [lF, Option.some.injEq] at h1 h2; rw [← h1, ← h2]
 | i :: is, σ, a, b, h1, h2 => by
  simp only [lF] at h1 h2
  split at h1
  ·rename_i σ1 e1
   split at h2
   ·rename_i σ2 e2
    cases Gw e1 e2
    exact BF h1 h2
   ·cases h2
  ·cases h1
theorem sN {cf : bU} {ops : Array Oper} {h : Hint} {X Y : List Nat} {a b : St} (h1 : eQ C cf f ops { h with exc := X } σ = some a) (h2 : eQ C cf f ops { h with exc := Y } σ = some b) : a = b := by
 rcases h with ⟨o, c, ol, l, r, hi, e⟩
 unfold eQ at h1 h2
 cases r with
 | nil => exact BX h1 h2
 | cons p r => exact BF h1 h2
theorem lu {cf : bU} {id : Nat} {ops : Array Oper} {h : Hint} {X : List Nat} {x : St} (hc : C.ord f id = some h) (hr : eQ C cf f ops { h with exc := X } σ = some x) : bQ C cf f id ops true σ = some x := by
 unfold bQ
 rw [hc]
 simp only [NT]
 split
 ·rename_i y hy
  rw [sN (X := h.exc) (Y := X) hy hr]
 ·unfold Kz
  have e : ∃ X σ', eQ C cf f ops { h with exc := X } σ = some σ' := ⟨X, x, hr⟩
  rw [dif_pos e]
  rw [sN e.choose_spec.choose_spec hr]
theorem sZ (hs : EH cf cf') {id : Nat} {ops : Array Oper} {draw : Bool} {x : St} (h : bQ C cf f id ops draw σ = some x) : bQ C cf' f id ops draw σ = some x := by
 cases draw with
 | false => exact qO hs h
 | true =>
  cases hc : C.ord f id with
  | none =>
   simp only [bQ, hc] at h ⊢
   exact qO hs h
  | some k =>
   obtain ⟨X, hX⟩ := mZ hc h
   exact lu hc (BN hs hX)
theorem oG {g g' : St → Option (Ex × St)} (hg : ∀ σ x, g σ = some x → g' σ = some x) : ∀ {n m : Nat} {σ : St} {x : Ex × St}, n ≤ m → oW g n σ = some x → oW g' m σ = some x
 | 0, _, _, _, _, h => by cases h
 | n + 1, 0, _, _, hnm, _ => by omega
 | n + 1, m + 1, σ, x, hnm, h => by
  simp only [oW] at *
  split at h
  ·rename_i σ1 h1
   rw [hg _ _ h1]
   exact oG hg (by omega) h
  ·rename_i hn
   have := hg _ _ h
   rw [this]
   split
   ·rename_i σ1 he; cases he; exact absurd h (hn _)
   ·rfl
theorem iI (hs : EH cf cf') {n m : Nat} (hnm : n ≤ m) : ∀ {c : Code} {σ : St} {x : Ex × St}, dh C cf f n c σ = some x → dh C cf' f m c σ = some x := by
 intro c
 induction c with
 | region id ops draw =>
  intro σ x h
  simp only [dh] at *
  split at h
  ·rename_i σ1 h1
   rw [sZ hs h1]
   exact h
  ·cases h
 | seq a b iha ihb =>
  intro σ x h
  simp only [dh, pq] at *
  split at h
  ·rename_i σ1 h1
   rw [iha h1]
   exact ihb h
  ·rename_i hn
   rw [iha h]
   split
   ·rename_i σ1 he; cases he; exact absurd h (hn _)
   ·rfl
 | cond c a b iha ihb =>
  intro σ x h
  simp only [dh, tq] at *
  split at h
  ·split at h
   ·rename_i hb; simp only [hb, if_true]; exact iha h
   ·rename_i hb; simp only [hb, if_false]; exact ihb h
  ·cases h
 | block id b ih =>
  intro σ x h
  simp only [dh, jm] at *
  split at h
  ·rename_i i σ1 h1
   rw [ih h1]
   exact h
  ·rename_i hn
   rw [ih h]
   split
   ·rename_i i σ1 he; cases he; exact absurd h (hn _ _)
   ·rfl
 | loop b ih =>
  intro σ x h
  simp only [dh] at *
  exact oG (fun σ x h => ih h) hnm h
 | skip => intro σ x h; exact h
 | exit => intro σ x h; exact h
 | ret => intro σ x h; exact h
 | _ => intro σ x h; cases h
theorem JM {F : Func} {H : List Ob} {r r' : Option (Ex × St)} (hr : ∀ x, r = some x → r' = some x) {y : V × List Ob} (h : qP C F H r = some y) : qP C F H r' = some y := by
 cases r with
 | none => cases h
 | some x => rw [hr x rfl]; exact h
theorem vO : ∀ n, EH (fA C n) (fA C (n + 1)) := by
 intro n
 induction n with
 | zero => intro g a H x h; cases h
 | succ n ih =>
  intro g a H x h
  rw [fA] at h ⊢
  dsimp only at h ⊢
  split at h
  ·exact h
  ·split at h
   ·rename_i hid
    rw [if_pos hid]
    split at h
    ·rename_i F hF
     split at h
     ·rename_i c hc
      try simp only [hF, hc]
      exact JM (fun y hy => iI ih (Nat.le_succ n) hy) h
     ·cases h
    ·cases h
   ·cases h
theorem dA {n m : Nat} (h : n ≤ m) : EH (fA C n) (fA C m) := by
 induction h with
 | refl => exact fun _ _ _ _ h => h
 | step _ ih => exact fun g a H x hx => vO _ g a H x (ih g a H x hx)
open Classical in
noncomputable def callW (C : Ctx) : bU := fun g a H => if h : ∃ x n, fA C n g a H = some x then some h.choose else none
open Classical in
noncomputable def iZ (C : Ctx) (f : Nat) (c : Code) (σ : St) : Option (Ex × St) := if h : ∃ x n, dh C (fA C n) f n c σ = some x then some h.choose else none
theorem callW_iff {g : Nat} {a : List V} {H : List Ob} {x : V × List Ob} : callW C g a H = some x ↔ ∃ n, fA C n g a H = some x := by
 unfold callW
 constructor
 ·intro h
  split at h
  ·rename_i he; cases h; exact he.choose_spec
  ·cases h
 ·rintro ⟨n, hn⟩
  have he : ∃ x n, fA C n g a H = some x := ⟨x, n, hn⟩
  rw [dif_pos he]
  obtain ⟨m, hm⟩ := he.choose_spec
  have h1 := dA (C := C) (Nat.le_max_left n m) _ _ _ _ hn
  have h2 := dA (C := C) (Nat.le_max_right n m) _ _ _ _ hm
  rw [h1] at h2
  exact h2.symm
theorem execW_iff {c : Code} {x : Ex × St} : iZ C f c σ = some x ↔ ∃ n, dh C (fA C n) f n c σ = some x := by
 unfold iZ
 constructor
 ·intro h
  split at h
  ·rename_i he; cases h; exact he.choose_spec
  ·cases h
 ·rintro ⟨n, hn⟩
  have he : ∃ x n, dh C (fA C n) f n c σ = some x := ⟨x, n, hn⟩
  rw [dif_pos he]
  obtain ⟨m, hm⟩ := he.choose_spec
  have h1 := iI (dA (C := C) (Nat.le_max_left n m)) (Nat.le_max_left n m) hn
  have h2 := iI (dA (C := C) (Nat.le_max_right n m)) (Nat.le_max_right n m) hm
  rw [h1] at h2
  exact h2.symm
theorem PI (n : Nat) : EH (fA C n) (callW C) := fun g a H x h => callW_iff.2 ⟨n, h⟩
theorem JQ {d : Option Nat} {op : Op} {x : St} (h : lw C (callW C) f σ d op = some x) : ∃ n, lw C (fA C n) f σ d op = some x := by
 unfold lw at h ⊢
 split at h
 case h_10 g args ts =>
  split at h
  ·rename_i g' a b xs h1 h2
   split at h
   ·rename_i r H h3
    cases h
    obtain ⟨n, hn⟩ := callW_iff.1 h3
    refine ⟨n, ?_⟩
    try simp only [h1, h2]
    rw [hn]
   ·cases h
  ·cases h
 case h_11 => cases h
 all_goals exact ⟨0, h⟩
theorem sD {ops : Array Oper} {o : Oper} {x : St} (h : gQ C (callW C) f ops o σ = some x) : ∃ n, gQ C (fA C n) f ops o σ = some x := by
 unfold gQ at *
 split at h
 ·rename_i hw
  unfold yl at *
  split at h
  ·rename_i hi
   obtain ⟨n, hn⟩ := JQ h
   exact ⟨n, by simp only [hi, if_true]; exact hn⟩
  ·rename_i hi
   exact ⟨0, by simp only [hi, if_false]; exact h⟩
 ·exact ⟨0, h⟩
 ·cases h
theorem uT {ops : Array Oper} : ∀ {os : List Oper} {σ x : St}, oO C (callW C) f ops os σ = some x → ∃ n, oO C (fA C n) f ops os σ = some x
 | [], _, _, h => ⟨0, h⟩
 | o :: os, σ, x, h => by
  simp only [oO] at *
  split at h
  ·rename_i σ1 h1
   obtain ⟨n, hn⟩ := sD h1
   obtain ⟨m, hm⟩ := uT h
   refine ⟨max n m, ?_⟩
   rw [oI (dA (Nat.le_max_left n m)) hn]
   exact qO (dA (Nat.le_max_right n m)) hm
  ·cases h
theorem BM {ops : Array Oper} {k : Hint} {base : Nat} : ∀ {is : List Nat} {σ x : St}, kz C (callW C) f ops k base is σ = some x → ∃ n, kz C (fA C n) f ops k base is σ = some x
 | [], _, _, h => ⟨0, h⟩
 | i :: is, σ, x, h => by
  simp only [kz] at *
  split at h
  ·rename_i σ1 h1
   obtain ⟨o, g1, g2, g3, g4⟩ := dF h1
   obtain ⟨n, hn⟩ := sD g3
   obtain ⟨m, hm⟩ := BM h
   refine ⟨max n m, ?_⟩
   rw [kW g1 g2 (oI (dA (Nat.le_max_left n m)) hn) g4]
   exact wC (dA (Nat.le_max_right n m)) hm
  ·cases h
theorem GH {ops : Array Oper} {k : Hint} {base i : Nat} {x : St} (h : fD C (callW C) f ops k base i σ = some x) : ∃ n, fD C (fA C n) f ops k base i σ = some x := by
 unfold fD at *
 split at h
 ·rename_i j hj; exact ⟨0, h⟩
 ·rename_i hj
  split at h
  ·rename_i σ1 h1
   obtain ⟨o, g1, g2, g3, g4⟩ := dF h1
   obtain ⟨n, hn⟩ := sD g3
   refine ⟨n, ?_⟩
   try simp only [hj]
   rw [kW g1 g2 hn g4]
   exact h
  ·cases h
theorem BA {ops : Array Oper} {k : Hint} {base : Nat} : ∀ {is : List Nat} {σ x : St}, lF C (callW C) f ops k base is σ = some x → ∃ n, lF C (fA C n) f ops k base is σ = some x
 | [], _, _, h => ⟨0, h⟩
 | i :: is, σ, x, h => by
  simp only [lF] at *
  split at h
  ·rename_i σ1 h1
   obtain ⟨n, hn⟩ := GH h1
   obtain ⟨m, hm⟩ := BA h
   refine ⟨max n m, ?_⟩
   rw [xR (dA (Nat.le_max_left n m)) hn]
   exact wR (dA (Nat.le_max_right n m)) hm
  ·cases h
theorem Be {id : Nat} {ops : Array Oper} {draw : Bool} {x : St} (h : bQ C (callW C) f id ops draw σ = some x) : ∃ n, bQ C (fA C n) f id ops draw σ = some x := by
 cases draw with
 | false => exact uT h
 | true =>
  cases hc : C.ord f id with
  | none =>
   unfold bQ at *
   rw [hc] at h
   obtain ⟨n, hn⟩ := uT h
   exact ⟨n, by rw [hc]; exact hn⟩
  | some k =>
   obtain ⟨X, hX⟩ := mZ hc h
   have : ∃ n, eQ C (fA C n) f ops { k with exc := X } σ = some x := by
    unfold eQ at *
    split at hX
    ·exact BM hX
    ·exact BA hX
   obtain ⟨n, hn⟩ := this
   exact ⟨n, lu hc hn⟩
theorem mD {α : Type} {x y : Option α} (h : ∀ v, x = some v ↔ y = some v) : x = y := by
 cases x with
 | none =>
  cases y with
  | none => rfl
  | some v => exact (h v).2 rfl
 | some v => exact ((h v).1 rfl).symm
theorem vJ : iZ C f .skip σ = some (.norm, σ) := execW_iff.2 ⟨0, rfl⟩
theorem yB : iZ C f .ret σ = some (.ret, σ) := execW_iff.2 ⟨0, rfl⟩
theorem wQ {id : Nat} : iZ C f (.exit id) σ = some (.exit id, σ) := execW_iff.2 ⟨0, rfl⟩
theorem qy {id : Nat} {ops : Array Oper} {draw : Bool} : iZ C f (.region id ops draw) σ = match bQ C (callW C) f id ops draw σ with
  | some σ => some (.norm, σ)
  | none => none := by
 refine mD fun v => execW_iff.trans ⟨?_, ?_⟩
 ·rintro ⟨n, hn⟩
  simp only [dh] at hn
  split at hn
  ·rename_i σ1 h1
   rw [sZ (PI n) h1]; exact hn
  ·cases hn
 ·intro h
  split at h
  ·rename_i σ1 h1
   obtain ⟨n, hn⟩ := Be h1
   exact ⟨n, by simp only [dh, hn]; exact h⟩
  ·cases h
theorem bG {r : Option (Ex × St)} {g : St → Option (Ex × St)} {v : Ex × St} : pq r g = some v ↔ (∃ σ1, r = some (.norm, σ1) ∧ g σ1 = some v) ∨ (r = some v ∧ v.1 ≠ .norm) := by
 unfold pq
 split
 ·rename_i σ1
  constructor
  ·intro h; exact .inl ⟨σ1, rfl, h⟩
  ·rintro (⟨σ2, h1, h2⟩ | ⟨h1, h2⟩)
   ·cases h1; exact h2
   ·cases h1; exact absurd rfl h2
 ·rename_i hn
  constructor
  ·intro h
   refine .inr ⟨h, fun he => ?_⟩
   obtain ⟨e, σ1⟩ := v
   simp only at he
   subst he
   exact hn _ h
  ·rintro (⟨σ2, h1, h2⟩ | ⟨h1, h2⟩)
   ·exact absurd h1 (hn _)
   ·exact h1
theorem xO {a b : Code} : iZ C f (.seq a b) σ = pq (iZ C f a σ) (iZ C f b) := by
 refine mD fun v => execW_iff.trans ⟨?_, ?_⟩
 ·rintro ⟨n, hn⟩
  simp only [dh] at hn
  rcases bG.1 hn with ⟨σ1, h1, h2⟩ | ⟨h1, h2⟩
  ·exact bG.2 (.inl ⟨σ1, execW_iff.2 ⟨n, h1⟩, execW_iff.2 ⟨n, h2⟩⟩)
  ·exact bG.2 (.inr ⟨execW_iff.2 ⟨n, h1⟩, h2⟩)
 ·intro h
  rcases bG.1 h with ⟨σ1, h1, h2⟩ | ⟨h1, h2⟩
  ·obtain ⟨n, hn⟩ := execW_iff.1 h1
   obtain ⟨m, hm⟩ := execW_iff.1 h2
   refine ⟨max n m, ?_⟩
   simp only [dh]
   exact bG.2 (.inl ⟨σ1, iI (dA (Nat.le_max_left n m)) (Nat.le_max_left n m) hn, iI (dA (Nat.le_max_right n m)) (Nat.le_max_right n m) hm⟩)
  ·obtain ⟨n, hn⟩ := execW_iff.1 h1
   exact ⟨n, by simp only [dh]; exact bG.2 (.inr ⟨hn, h2⟩)⟩
theorem uZ {c : Operand} {a b : Code} : iZ C f (.cond c a b) σ = tq σ c (iZ C f a σ) (iZ C f b σ) := by
 refine mD fun v => execW_iff.trans ⟨?_, ?_⟩
 ·rintro ⟨n, hn⟩
  simp only [dh, tq] at hn ⊢
  split at hn
  ·split at hn
   ·rename_i hb; simp only [hb, if_true]; exact execW_iff.2 ⟨n, hn⟩
   ·rename_i hb; simp only [hb, if_false]; exact execW_iff.2 ⟨n, hn⟩
  ·cases hn
 ·intro h
  simp only [dh, tq] at h ⊢
  split at h
  ·split at h
   ·rename_i hb; simp only [hb, if_true]; exact execW_iff.1 h
   ·rename_i hb; simp only [hb, if_false]; exact execW_iff.1 h
  ·cases h
theorem jM {id : Nat} {r : Option (Ex × St)} {v : Ex × St} : jm id r = some v ↔ ∃ u, r = some u ∧ jm id (some u) = some v := by
 cases r with
 | none => simp [jm]
 | some u => simp
theorem tJ {id : Nat} {b : Code} : iZ C f (.block id b) σ = jm id (iZ C f b σ) := by
 refine mD fun v => execW_iff.trans ⟨?_, ?_⟩
 ·rintro ⟨n, hn⟩
  simp only [dh] at hn
  obtain ⟨u, h1, h2⟩ := jM.1 hn
  exact jM.2 ⟨u, execW_iff.2 ⟨n, h1⟩, h2⟩
 ·intro h
  obtain ⟨u, h1, h2⟩ := jM.1 h
  obtain ⟨n, hn⟩ := execW_iff.1 h1
  exact ⟨n, by simp only [dh]; exact jM.2 ⟨u, hn, h2⟩⟩
theorem pU {g : St → Option (Ex × St)} {n : Nat} {σ : St} : oW g (n + 1) σ = pq (g σ) (oW g n) := by
 simp only [oW, pq]
theorem pV {b : Code} : iZ C f (.loop b) σ = pq (iZ C f b σ) (iZ C f (.loop b)) := by
 refine mD fun v => execW_iff.trans ⟨?_, ?_⟩
 ·rintro ⟨n, hn⟩
  cases n with
  | zero => cases hn
  | succ n =>
   simp only [dh] at hn
   rw [pU] at hn
   rcases bG.1 hn with ⟨σ1, h1, h2⟩ | ⟨h1, h2⟩
   ·refine bG.2 (.inl ⟨σ1, execW_iff.2 ⟨n + 1, h1⟩, execW_iff.2 ⟨n + 1, ?_⟩⟩)
    simp only [dh]
    exact oG (fun _ _ h => h) (Nat.le_succ n) h2
   ·exact bG.2 (.inr ⟨execW_iff.2 ⟨n + 1, h1⟩, h2⟩)
 ·intro h
  rcases bG.1 h with ⟨σ1, h1, h2⟩ | ⟨h1, h2⟩
  ·obtain ⟨n, hn⟩ := execW_iff.1 h1
   obtain ⟨m, hm⟩ := execW_iff.1 h2
   refine ⟨max n m + 1, ?_⟩
   simp only [dh] at hm ⊢
   rw [pU]
   refine bG.2 (.inl ⟨σ1, iI (dA (by omega)) (by omega) hn, ?_⟩)
   exact oG (fun σ x h => iI (dA (by omega)) (by omega) h) (by omega) hm
  ·obtain ⟨n, hn⟩ := execW_iff.1 h1
   refine ⟨n + 1, ?_⟩
   simp only [dh]
   rw [pU]
   exact bG.2 (.inr ⟨iI (vO n) (Nat.le_succ n) hn, h2⟩)
theorem jo {g : Nat} {pr : List V → List Ob → Option (V × List Ob)} (hp : C.prim g = some pr) {a : List V} {H : List Ob} : callW C g a H = pr a H := by
 refine mD fun v => callW_iff.trans ⟨?_, ?_⟩
 ·rintro ⟨n, hn⟩
  cases n with
  | zero => cases hn
  | succ n => simp only [fA, hp] at hn; exact hn
 ·intro h
  exact ⟨1, by simp only [fA, hp]; exact h⟩
theorem lK {F : Func} {H : List Ob} {r : Option (Ex × St)} {v : V × List Ob} : qP C F H r = some v ↔ ∃ u, r = some u ∧ qP C F H (some u) = some v := by
 cases r with
 | none => simp [qP]
 | some u => simp
theorem JF {g : Nat} {F : Func} {c : Code} (hp : C.prim g = none) (hid : C.fids g = true) (hF : C.funcs g = some F) (hc : F.body = some c) {a : List V} {H : List Ob} :
  callW C g a H = qP C F H (iZ C g c ⟨ag a, 0, H⟩) := by
 refine mD fun v => callW_iff.trans ⟨?_, ?_⟩
 ·rintro ⟨n, hn⟩
  cases n with
  | zero => cases hn
  | succ n =>
   simp only [fA, hp, hid, if_true, hF, hc] at hn
   obtain ⟨u, h1, h2⟩ := lK.1 hn
   exact lK.2 ⟨u, execW_iff.2 ⟨n, h1⟩, h2⟩
 ·intro h
  obtain ⟨u, h1, h2⟩ := lK.1 h
  obtain ⟨n, hn⟩ := execW_iff.1 h1
  exact ⟨n + 1, by simp only [fA, hp, hid, if_true, hF, hc]; exact lK.2 ⟨u, hn, h2⟩⟩
theorem Ji {P : Program} (hp : ProgOk P C) : iD P (callW C) := by
 intro g args H r H' h
 obtain ⟨n, hn⟩ := callW_iff.1 h
 exact Jz hp n g args H r H' hn
end
end Go.Lite
end
section
namespace Go.Lite
open Go
attribute [simp] oO gQ yl kZ lw sG lq iU ev St.put upd lG pq tq jm vJ yB wQ qy xO uZ tJ toV toV1 evs ik ag qP iw yZ fG FD CU iO jG yS uC
 rJ zQ jO LT.num LT.isAgg P9 newVar JW eX pY
section
variable {k : IntKind} {n : Int} {b : Bool} {s : List UInt8} {p : Option (Nat × Nat)} {m : Nat} {l l' : List V} {f : Nat}
theorem AX : cellsOf (.int k n) = some [.int k n] := rfl
theorem zZ : cellsOf (.bool b) = some [.bool b] := rfl
theorem Bf : cellsOf (.str s) = some [.str s] := rfl
theorem BP : cellsOf (.ptr p) = some [.ptr p] := rfl
theorem BQ : cellsOf (.slc p m) = some [.slc p m] := rfl
theorem Dt : cellsOf (.fn f l l') = some [.fn f l l'] := rfl
theorem xC : cellsOf .nilfn = some [.nilfn] := rfl
theorem vY : cellsOf .niface = some [.niface] := rfl
theorem wH : cellsOf .someif = some [.someif] := rfl
theorem Ba : cellsOf (.agg l) = some l := rfl
theorem rV : aJ (.int k n) = true := rfl
theorem CO : aJ (.bool b) = true := rfl
theorem Gq : aJ (.str s) = true := rfl
theorem Gn : aJ (.ptr p) = true := rfl
theorem H6 : aJ (.slc p m) = true := rfl
theorem JR : aJ (.fn f l l') = true := rfl
theorem Ce : aJ .nilfn = true := rfl
theorem Aq : aJ .niface = true := rfl
theorem zW : aJ .someif = true := rfl
attribute [simp] AX zZ Bf BP BQ Dt xC vY wH Ba rV CO Gq Gn H6 JR Ce Aq zW
end
theorem Fv {a b : Int} : (a == b) = decide (a = b) := by
 by_cases h : a = b
 ·subst h; simp
 ·simp [h]
theorem Lj {a b : List UInt8} : (a == b) = decide (a = b) := by
 by_cases h : a = b
 ·subst h; simp
 ·simp [h]
theorem KN {a b : Int} : (a != b) = !decide (a = b) := by
 show (!(a == b)) = _
 rw [Fv]
attribute [simp] Fv Lj KN
theorem xB {C : Ctx} {callf : bU} {f id : Nat} {ops : Array Oper} {σ : St} : bQ C callf f id ops false σ = oO C callf f ops ops.toList σ := by
 simp [bQ]
theorem ae {C : Ctx} {callf : bU} {f id : Nat} {ops : Array Oper} {σ : St} {d : Bool} (h : C.ord f id = none) : bQ C callf f id ops d σ = oO C callf f ops ops.toList σ := by
 cases d <;> simp [bQ, h]
attribute [simp] xB
theorem iV {H : List Ob} {a b : Ob} : (H ++ [a]).set H.length b = H ++ [b] := by
 rw [List.set_append_right _ _ (Nat.le_refl _)]
 simp
theorem qF {cells : List V} {k : Nat} {v : V} (h : k < cells.length) : setRange cells k [v] = cells.set k v := by
 unfold setRange
 rw [List.set_eq_take_append_cons_drop, if_pos h]
 simp
theorem wrap_i64 {n : Int} (h1 : -9223372036854775808 ≤ n) (h2 : n ≤ 9223372036854775807) : IntKind.i64.wrap n = n := by
 unfold IntKind.wrap
 simp [IntKind.bits, IntKind.signed]
 omega
theorem C9 {e s b id off n : Nat} {z : List V} {ty : Nat → LT} {k : IntKind} {i : Int} : dE ⟨.slice e, s, b, z⟩ ty (.val (.slc (some (id, off)) n)) (.int k i) =
  if 0 ≤ i ∧ i < n then (if (ty e).size = 0 then none else some (.val (.ptr (some (id, off + i.toNat * (ty e).size))))) else none := rfl
theorem Jg {e s b n : Nat} {p : Option (Nat × Nat)} {z : List V} : lenV ⟨.slice e, s, b, z⟩ (.slc p n) = some (.int .i64 n) := rfl
theorem JG {s b : Nat} {t : List UInt8} {z : List V} : lenV ⟨.str, s, b, z⟩ (.str t) = some (.int .i64 t.length) := rfl
attribute [simp] C9 Jg JG
theorem get_last {H : List Ob} {a : Ob} : (H ++ [a])[H.length]? = some a := by simp
theorem Ei {T : LT} {σ : St} {t c off : Nat} : loadAt T σ (.loc t c off) = if T.size = 0 then none else match (match σ.regs t with
   | .box c' cells => if c' = c then some cells else none
   | _ => none) with
  | some cells => (match dO cells off T.num with
   | some cs => some (JW T.isAgg cs)
   | none => none)
  | none => none := rfl
theorem BJ {T : LT} {σ : St} {t c off : Nat} {v : V} : storeAt T σ (.loc t c off) v = match cellsOf v with
  | some xs => if 0 < T.size ∧ xs.length = T.size ∧ xs.all aJ = true then (match σ.regs t with
   | .box c' cells => if c' = c ∧ off + xs.length ≤ cells.length then some { σ with regs := upd σ.regs t (.box c (setRange cells off xs)) } else none
   | _ => none) else none
  | none => none := rfl
theorem AO {H : List Ob} : kV H H.length ↔ False := by
 refine ⟨fun ⟨own, es, cells, h⟩ => ?_, fun h => h.elim⟩
 simp at h
attribute [simp] LX jk yV KI
attribute [simp] Ei BJ AO dO setRange dZ gK
theorem lI {ty : Nat → LT} {j j' k : IntKind} {s b s' b' : Nat} {z z' : List V} {H : List Ob} {n : Int} : tX ty ⟨.int j, s, b, z⟩ ⟨.int k, s', b', z'⟩ H (.int j' n) = some (.int k (k.wrap n)) := rfl
theorem Gt {ty : Nat → LT} {e s b s' b' n : Nat} {z z' : List V} {H : List Ob} {p : Option (Nat × Nat)} : tX ty ⟨.slice e, s, b, z⟩ ⟨.str, s', b', z'⟩ H (.slc p n) = if isByte (ty e) then (match aQ H p n with
   | some cs => (match cs.mapM gy with
    | some bs => some (.str bs)
    | none => none)
   | none => none)
  else none := rfl
attribute [simp] lI Gt St.new
attribute [simp] iV
end Go.Lite
end
section
namespace Go.Lite
open Go
def WP (C : Ctx) (f : Nat) (c : Code) (σ : St) (Q : Ex → St → Prop) : Prop := ∃ ex σ', iZ C f c σ = some (ex, σ') ∧ Q ex σ'
def Lh (C : Ctx) (f : Nat) (b : Code) (Q : Ex → St → Prop) : Ex → St → Prop
 | .norm, σ => WP C f b σ Q
 | .ret, σ => Q .ret σ
 | .exit i, σ => Q (.exit i) σ
def rO (id : Nat) (Q : Ex → St → Prop) : Ex → St → Prop
 | .norm, σ => Q .norm σ
 | .ret, σ => Q .ret σ
 | .exit i, σ => if i = id then Q .norm σ else Q (.exit i) σ
def FQ (I : Nat → St → Prop) (k : Nat) (Q : Ex → St → Prop) : Ex → St → Prop
 | .norm, σ => ∃ k', k' < k ∧ I k' σ
 | .ret, σ => Q .ret σ
 | .exit i, σ => Q (.exit i) σ
def aK (C : Ctx) (F : Func) (H : List Ob) (Q : V → List Ob → Prop) : Ex → St → Prop
 | .norm, σ => ∃ vs, iw C σ F.results.toList = some vs ∧ Q (fG vs) (eU H σ.heap (fG vs))
 | .ret, σ => ∃ vs, iw C σ F.results.toList = some vs ∧ Q (fG vs) (eU H σ.heap (fG vs))
 | .exit _, _ => False
def Ret (C : Ctx) (g : Nat) (args : List V) (H : List Ob) (Q : V → List Ob → Prop) : Prop := ∃ r H', callW C g args H = some (r, H') ∧ Q r H'
section
variable {C : Ctx} {f : Nat} {σ : St} {Q : Ex → St → Prop}
theorem G9 {b : Code} : Lh C f b Q .norm σ = WP C f b σ Q := rfl
theorem H8 {b : Code} : Lh C f b Q .ret σ = Q .ret σ := rfl
theorem Gx {b : Code} {i : Nat} : Lh C f b Q (.exit i) σ = Q (.exit i) σ := rfl
theorem Bj {id : Nat} : rO id Q .norm σ = Q .norm σ := rfl
theorem CJ {id : Nat} : rO id Q .ret σ = Q .ret σ := rfl
theorem Bz {id i : Nat} : rO id Q (.exit i) σ = if i = id then Q .norm σ else Q (.exit i) σ := rfl
theorem CW {I : Nat → St → Prop} {k : Nat} : FQ I k Q .norm σ = ∃ k', k' < k ∧ I k' σ := rfl
theorem Ha {I : Nat → St → Prop} {k : Nat} : FQ I k Q .ret σ = Q .ret σ := rfl
theorem DN {I : Nat → St → Prop} {k i : Nat} : FQ I k Q (.exit i) σ = Q (.exit i) σ := rfl
theorem GV {F : Func} {H : List Ob} {R : V → List Ob → Prop} : aK C F H R .norm σ = ∃ vs, iw C σ F.results.toList = some vs ∧ R (fG vs) (eU H σ.heap (fG vs)) := rfl
theorem JH {F : Func} {H : List Ob} {R : V → List Ob → Prop} : aK C F H R .ret σ = ∃ vs, iw C σ F.results.toList = some vs ∧ R (fG vs) (eU H σ.heap (fG vs)) := rfl
theorem Gy {F : Func} {H : List Ob} {R : V → List Ob → Prop} {i : Nat} : aK C F H R (.exit i) σ = False := rfl
theorem uD {e : Ex} {s : St} : (∃ ex σ', some (e, s) = some (ex, σ') ∧ Q ex σ') ↔ Q e s :=
 ⟨fun ⟨_, _, h, hq⟩ => by cases h; exact hq, fun h => ⟨_, _, rfl, h⟩⟩
theorem KH : WP C f .skip σ Q ↔ Q .norm σ := by simp only [WP, vJ, uD]
theorem MX : WP C f .ret σ Q ↔ Q .ret σ := by simp only [WP, yB, uD]
theorem J3 {id : Nat} : WP C f (.exit id) σ Q ↔ Q (.exit id) σ := by simp only [WP, wQ, uD]
theorem df {id : Nat} {ops : Array Oper} {draw : Bool} : WP C f (.region id ops draw) σ Q ↔ ∃ σ', bQ C (callW C) f id ops draw σ = some σ' ∧ Q .norm σ' := by
 simp only [WP, qy]
 cases bQ C (callW C) f id ops draw σ with
 | none => simp
 | some σ1 => simp only [uD]; exact ⟨fun h => ⟨σ1, rfl, h⟩, fun ⟨_, h, hq⟩ => by cases h; exact hq⟩
theorem MQ {a b : Code} : WP C f (.seq a b) σ Q ↔ WP C f a σ (Lh C f b Q) := by
 simp only [WP, xO]
 constructor
 ·rintro ⟨ex, σ', h, hq⟩
  rcases bG.1 h with ⟨σ1, h1, h2⟩ | ⟨h1, h2⟩
  ·exact ⟨.norm, σ1, h1, ex, σ', h2, hq⟩
  ·refine ⟨ex, σ', h1, ?_⟩
   cases ex with
   | norm => exact absurd rfl h2
   | ret => exact hq
   | exit i => exact hq
 ·rintro ⟨ex, σ', h, hq⟩
  cases ex with
  | norm =>
   obtain ⟨ex2, σ2, h2, hq2⟩ := hq
   exact ⟨ex2, σ2, bG.2 (.inl ⟨σ', h, h2⟩), hq2⟩
  | ret => exact ⟨.ret, σ', bG.2 (.inr ⟨h, by simp⟩), hq⟩
  | exit i => exact ⟨.exit i, σ', bG.2 (.inr ⟨h, by simp⟩), hq⟩
theorem eP {c : Operand} {a b : Code} : WP C f (.cond c a b) σ Q ↔ ∃ t, ev σ c = some (.bool t) ∧ if t = true then WP C f a σ Q else WP C f b σ Q := by
 simp only [WP, uZ, tq]
 constructor
 ·rintro ⟨ex, σ', h, hq⟩
  split at h
  ·rename_i t ht
   refine ⟨t, ht, ?_⟩
   cases t with
   | true => simp only [if_true] at h ⊢; exact ⟨ex, σ', h, hq⟩
   | false => simp only [Bool.false_eq_true, if_false] at h ⊢; exact ⟨ex, σ', h, hq⟩
  ·cases h
 ·rintro ⟨t, ht, h⟩
  rw [ht]
  cases t with
  | true => simpa using h
  | false => simpa using h
theorem IR {id : Nat} {b : Code} : WP C f (.block id b) σ Q ↔ WP C f b σ (rO id Q) := by
 simp only [WP, tJ]
 constructor
 ·rintro ⟨ex, σ', h, hq⟩
  obtain ⟨⟨ex1, σ1⟩, h1, h2⟩ := jM.1 h
  refine ⟨ex1, σ1, h1, ?_⟩
  cases ex1 with
  | norm => simp only [jm] at h2; cases h2; exact hq
  | ret => simp only [jm] at h2; cases h2; exact hq
  | exit i =>
   simp only [jm] at h2
   simp only [rO]
   split at h2
   ·rename_i hi; cases h2; simp only [hi, if_true]; exact hq
   ·rename_i hi; cases h2; simp only [hi, if_false]; exact hq
 ·rintro ⟨ex, σ', h, hq⟩
  cases ex with
  | norm => exact ⟨.norm, σ', by rw [h]; rfl, hq⟩
  | ret => exact ⟨.ret, σ', by rw [h]; rfl, hq⟩
  | exit i =>
   simp only [rO] at hq
   by_cases hi : i = id
   ·simp only [hi, if_true] at hq; exact ⟨.norm, σ', by rw [h]; simp [jm, hi], hq⟩
   ·simp only [hi, if_false] at hq; exact ⟨.exit i, σ', by rw [h]; simp [jm, hi], hq⟩
theorem WP.mono {c : Code} {Q' : Ex → St → Prop} (h : WP C f c σ Q) (hq : ∀ ex σ', Q ex σ' → Q' ex σ') : WP C f c σ Q' := by
 obtain ⟨ex, σ', h1, h2⟩ := h
 exact ⟨ex, σ', h1, hq _ _ h2⟩
theorem aA {b : Code} (I : Nat → St → Prop) (h : ∀ k σ, I k σ → WP C f b σ (FQ I k Q)) : ∀ k σ, I k σ → WP C f (.loop b) σ Q := by
 intro k
 induction k using Nat.strongRecOn with
 | ind k ih =>
  intro σ hi
  obtain ⟨ex, σ', h1, h2⟩ := h k σ hi
  cases ex with
  | norm =>
   obtain ⟨k', hk, hi'⟩ := h2
   obtain ⟨ex2, σ2, h3, h4⟩ := ih k' hk σ' hi'
   exact ⟨ex2, σ2, by rw [pV]; exact bG.2 (.inl ⟨σ', h1, h3⟩), h4⟩
  | ret => exact ⟨.ret, σ', by rw [pV]; exact bG.2 (.inr ⟨h1, by simp⟩), h2⟩
  | exit i => exact ⟨.exit i, σ', by rw [pV]; exact bG.2 (.inr ⟨h1, by simp⟩), h2⟩
theorem au {g : Nat} {F : Func} {c : Code} (hp : C.prim g = none) (hid : C.fids g = true) (hF : C.funcs g = some F) (hc : F.body = some c) {a : List V} {H : List Ob} {R : V → List Ob → Prop} :
  Ret C g a H R ↔ WP C g c ⟨ag a, 0, H⟩ (aK C F H R) := by
 simp only [Ret, JF hp hid hF hc]
 constructor
 ·rintro ⟨r, H', h, hq⟩
  obtain ⟨⟨ex, σ1⟩, h1, h2⟩ := lK.1 h
  refine ⟨ex, σ1, h1, ?_⟩
  cases ex with
  | norm =>
   simp only [qP] at h2
   split at h2
   ·rename_i vs hv; cases h2; exact ⟨vs, hv, hq⟩
   ·cases h2
  | ret =>
   simp only [qP] at h2
   split at h2
   ·rename_i vs hv; cases h2; exact ⟨vs, hv, hq⟩
   ·cases h2
  | exit i => simp [qP] at h2
 ·rintro ⟨ex, σ1, h1, hq⟩
  cases ex with
  | norm => obtain ⟨vs, hv, hq⟩ := hq; exact ⟨_, _, by rw [h1]; simp only [qP, hv], hq⟩
  | ret => obtain ⟨vs, hv, hq⟩ := hq; exact ⟨_, _, by rw [h1]; simp only [qP, hv], hq⟩
  | exit i => exact hq.elim
attribute [simp] G9 H8 Gx Bj CJ Bz CW Ha DN GV JH Gy KH MX J3 df MQ eP IR
theorem vN {H : List Ob} {r : V} : eU H H r = H := by unfold eU; split <;> rfl
theorem pK {H T : List Ob} : Ext H (H ++ T) := ⟨T, rfl⟩
theorem kw {H T : List Ob} {r : V} (h : dZ H r) : eU H (H ++ T) r = H := by
 unfold eU
 rw [if_pos ⟨pK, h⟩]
theorem J9 {H T : List Ob} {off n : Nat} : eU H (H ++ T) (.slc (some (H.length, off)) n) = H ++ T := by
 unfold eU
 rw [if_neg]
 rintro ⟨_, own, es, cells, h⟩
 simp at h
theorem rF {H T : List Ob} {k : IntKind} {n : Int} : eU H (H ++ T) (.int k n) = H := kw trivial
theorem lW {H T : List Ob} {b : Bool} : eU H (H ++ T) (.bool b) = H := kw trivial
theorem uz {H T : List Ob} {s : List UInt8} : eU H (H ++ T) (.str s) = H := kw trivial
attribute [simp] vN J9 rF lW uz
end
inductive Sh where
 | int (k : IntKind)
 | bool
 | str
 | slice (e : Sh)
 | st (fs : List Sh)
mutual
def Sh.size : Sh → Nat
 | .st fs => Sh.sizes fs
 | _ => 1
def Sh.sizes : List Sh → Nat
 | [] => 0
 | f :: fs => f.size + Sh.sizes fs
end
inductive D where
 | int (n : Int)
 | bool (b : Bool)
 | str (s : List UInt8)
 | nil
 | lst (l : List D)
 | st (l : List D)
mutual
def Is (H : List Ob) : Sh → List V → D → Prop
 | .int k, [.int k' n], .int m => k' = k ∧ n = m ∧ (Lit.int k n).wf = true
 | .bool, [.bool b], .bool c => b = c
 | .str, [.str s], .str r => s = r ∧ s.length ≤ maxLen
 | .slice e, [.slc none n], .nil => n = 0
 | .slice e, [.slc (some (id, off)) n], .lst l => l.length = n ∧ n ≤ maxLen ∧ ∃ own cells, H[id]? = some (.mk own e.size cells) ∧ off + n * e.size ≤ cells.length ∧
   ∀ i d, l[i]? = some d → Is H e ((cells.drop (off + i * e.size)).take e.size) d
 | .st fs, vs, .st ds => IsAll H fs vs ds
 | _, _, _ => False
def IsAll (H : List Ob) : List Sh → List V → List D → Prop
 | [], vs, ds => vs = [] ∧ ds = []
 | f :: fs, vs, d :: ds => Is H f (vs.take f.size) d ∧ IsAll H fs (vs.drop f.size) ds
 | _ :: _, _, [] => False
end
mutual
def toD {H : Type} : DataW H → D
 | .lit (.int _ n) => .int n
 | .lit (.bool b) => .bool b
 | .lit (.string s) => .str s
 | .slice elems _ => .lst (JU elems)
 | .agg parts => .st (JU parts)
 | _ => .nil
def JU {H : Type} : List (DataW H) → List D
 | [] => []
 | d :: ds => toD d :: JU ds
end
theorem ry {H : Type} : ∀ (l : List (DataW H)), JU l = l.map toD
 | [] => rfl
 | d :: ds => by simp only [JU, List.map_cons, ry ds]
def kM (P : Program) (g : Nat → Option Sh) : List Field → Nat → Option (List Sh)
 | [], _ => some []
 | f :: fs, o => match g f.type with
  | some s => if f.offset = o ∧ P.cellsOf f.type = s.size then (match kM P g fs (o + s.size) with
    | some ss => some (s :: ss)
    | none => none) else none
  | none => none
def zV (P : Program) : Nat → Nat → Option Sh
 | 0, _ => none
 | n + 1, t => match P.underlying t with
  | some (.int k) => some (.int k)
  | some .bool => some .bool
  | some .string => some .str
  | some (.slice e) => match zV P n e with
   | some s => if P.cellsOf e = s.size ∧ 0 < s.size then some (.slice s) else none
   | none => none
  | some (.struct fs) => match kM P (zV P n) fs.toList 0 with
   | some ss => if P.cellsOf t = Sh.sizes ss then some (.st ss) else none
   | none => none
  | _ => none
mutual
theorem Is.ext {H T : List Ob} : ∀ (sh : Sh) (vs : List V) (d : D), Is H sh vs d → Is (H ++ T) sh vs d
 | .int k, vs, d, h => by
  unfold Is at h ⊢
  split at h <;> first | exact h | (exfalso; exact h) | skip
  all_goals simp_all
 | .bool, vs, d, h => by
  unfold Is at h ⊢
  split at h <;> first | exact h | (exfalso; exact h) | skip
  all_goals simp_all
 | .str, vs, d, h => by
  unfold Is at h ⊢
  split at h <;> first | exact h | (exfalso; exact h) | skip
  all_goals simp_all
 | .slice e, vs, d, h => by
  match vs, d, h with
  | [.slc none n], .nil, h => simpa only [Is] using h
  | [.slc (some (id, off)) n], .lst l, h =>
   simp only [Is] at h ⊢
   obtain ⟨h1, h0, own, cells, h2, h3, h4⟩ := h
   exact ⟨h1, h0, own, cells, by rw [List.getElem?_append_left (List.getElem?_eq_some_iff.1 h2).1]; exact h2, h3, fun i d hd => Is.ext e _ _ (h4 i d hd)⟩
 | .st fs, vs, d, h => by
  match d, h with
  | .st ds, h =>
   simp only [Is] at h ⊢
   exact IsAll.ext fs vs ds h
theorem IsAll.ext {H T : List Ob} : ∀ (fs : List Sh) (vs : List V) (ds : List D), IsAll H fs vs ds → IsAll (H ++ T) fs vs ds
 | [], vs, ds, h => by simpa only [IsAll] using h
 | f :: fs, vs, d :: ds, h => by
  simp only [IsAll] at h ⊢
  exact ⟨Is.ext f _ _ h.1, IsAll.ext fs _ _ h.2⟩
 | _ :: _, _, [], h => by simp only [IsAll] at h
end
def NoOwn (H : List Ob) : Prop := ∀ o ∈ H, owned o = false
section
variable {P : Program} {μ : Mu} {w : World} {H : List Ob}
theorem AY {α : Type} (l : List α) {i : Nat} (h : l.length ≤ i) : l.drop i = [] := List.drop_eq_nil_of_le h
theorem HSim.addRO (hs : HSim H μ w) (hn : NoOwn H) {m : Mp} {es : Nat} {cells : List V} (hm : m.own = false) (he : m.es = es) (hl : m.len = cells.length) (hc : CellsAt μ w m.blk m.base cells) (hb : m.blk < w.heap.size) :
  HSim (H ++ [.mk false es cells]) (μ.add H.length m) w where
 dom id m' h := by
  by_cases hi : id = H.length
  ·subst hi; simp
  ·rw [Mu.add_ne _ _ hi] at h
   have := hs.dom id m' h
   simp; omega
 map id o h hlive := by
  rcases iF id o h with ⟨rfl, rfl⟩ | ⟨hne, h1⟩
  ·exact ⟨m, Mu.add_self _ _ _⟩
  ·obtain ⟨m', h2⟩ := hs.map id o h1 hlive
   exact ⟨m', by rw [Mu.add_ne _ _ hne]; exact h2⟩
 obj id o m' h1 h2 := by
  have hle : μ.le (μ.add H.length m) := Mu.le_add _ hs.fresh
  rcases iF id o h1 with ⟨rfl, rfl⟩ | ⟨hne, h3⟩
  ·rw [Mu.add_self] at h2; cases h2
   exact ⟨hm.symm, he.symm, hl.symm, hc.le hle, hb, fun h => by cases h⟩
  ·rw [Mu.add_ne _ _ hne] at h2
   exact (hs.obj id o m' h3 h2).le hle
 sep id id' o o' m1 m2 hne h1 h2 h3 h4 ho hl' := by
  exfalso
  have : o ∈ H ++ [.mk false es cells] := List.mem_of_getElem? h1
  rcases List.mem_append.1 this with h5 | h5
  ·rw [hn o h5] at ho; cases ho
  ·rw [List.mem_singleton.1 h5] at ho; cases ho
 plain id es' cells' m' h1 _ _ := by
  exfalso
  rcases iF id _ h1 with ⟨_, e⟩ | ⟨_, h3⟩
  ·cases e
  ·have := hn _ (List.mem_of_getElem? h3)
   cases this
theorem NoOwn.add (hn : NoOwn H) {es : Nat} {cells : List V} : NoOwn (H ++ [.mk false es cells]) := fun o ho => by
 rcases List.mem_append.1 ho with h | h
 ·exact hn o h
 ·rw [List.mem_singleton.1 h]; rfl
theorem VL.cellsAt {b o : Nat} {vs : List V} {us : List Value} (h : VL μ vs us) (hc : ∀ j, j < us.length → w.cell? ⟨b, o + j, none⟩ = us[j]?) : CellsAt μ w b o vs := by
 intro j v hj
 have hlt : j < us.length := by rw [← VL.length h]; exact (List.getElem?_eq_some_iff.1 hj).1
 exact ⟨us[j], by rw [hc j hlt]; simp [hlt], VL.get h j v _ hj (by simp [hlt])⟩
def Lu (P : Program) (w : World) (sh : Sh) (cs : List Value) (x : D) : Prop :=
 ∀ (H : List Ob) (μ : Mu), HSim H μ w → NoOwn H → ∃ (T : List Ob) (μ' : Mu) (vs : List V), HSim (H ++ T) μ' w ∧ NoOwn (H ++ T) ∧ μ.le μ' ∧ VL μ' vs cs ∧ vs.length = sh.size ∧ Is (H ++ T) sh vs x
theorem tH (hpos : 0 < w.heap.size) {e : Sh} {Dd : Nat → D} {cs : Nat → List Value} : ∀ (k : Nat), (∀ i, i < k → Lu P w e (cs i) (Dd i)) →
  ∀ (H : List Ob) (μ : Mu), HSim H μ w → NoOwn H → ∃ (T : List Ob) (μ' : Mu) (vs : List V), HSim (H ++ T) μ' w ∧ NoOwn (H ++ T) ∧ μ.le μ' ∧ VL μ' vs ((List.range k).flatMap cs) ∧ vs.length = k * e.size ∧
   ∀ i, i < k → Is (H ++ T) e ((vs.drop (i * e.size)).take e.size) (Dd i)
 | 0, _, H, μ, hs, hn => ⟨[], μ, [], by simpa using hs, by simpa using hn, μ.le_refl, by simpa using VL.nil, by simp, fun i hi => by omega⟩
 | k + 1, hk, H, μ, hs, hn => by
  obtain ⟨T, μ1, vs, h1, h2, h3, h4, h5, h6⟩ := tH hpos k (fun i hi => hk i (by omega)) H μ hs hn
  obtain ⟨T', μ2, vs', g1, g2, g3, g4, g5, g6⟩ := hk k (by omega) (H ++ T) μ1 h1 h2
  refine ⟨T ++ T', μ2, vs ++ vs', by rw [← List.append_assoc]; exact g1, by rw [← List.append_assoc]; exact g2, Mu.le_trans h3 g3, ?_, by simp [h5, g5, Nat.succ_mul], ?_⟩
  ·rw [List.range_succ, List.flatMap_append]
   exact (h4.le g3).append (by simpa using g4)
  ·intro i hi
   rw [← List.append_assoc]
   by_cases hik : i = k
   ·subst hik
    rw [List.drop_append_of_le_length (by omega)] at *
    have : List.drop (i * e.size) vs = [] := List.drop_eq_nil_of_le (by omega)
    rw [this, List.nil_append, List.take_of_length_le (by omega)]
    exact g6
   ·have hlt : i < k := by omega
    have hle : (i + 1) * e.size ≤ k * e.size := Nat.mul_le_mul_right _ (by omega)
    rw [Nat.succ_mul] at hle
    rw [List.drop_append_of_le_length (by omega), List.take_append_of_le_length (by simp; omega)]
    exact Is.ext e _ _ (h6 i hlt)
theorem tY {g : Nat → Option Sh} : ∀ (fs : List Field) (o : Nat) (ss : List Sh), kM P g fs o = some ss → ∀ f ∈ fs, o ≤ f.offset
 | [], _, _, _, f, hf => by cases hf
 | f0 :: fs, o, ss, h, f, hf => by
  simp only [kM] at h
  split at h
  ·split at h
   ·rename_i s _ hc
    split at h
    ·rename_i ss' hss'
     rcases List.mem_cons.1 hf with rfl | hf
     ·exact Nat.le_of_eq hc.1.symm
     ·exact Nat.le_trans (Nat.le_add_right _ _) (tY fs _ ss' hss' f hf)
    ·cases h
   ·cases h
  ·cases h
variable {E : Type} {enc : TypeId × Value → E}
theorem zg (hpos : 0 < w.heap.size) : ∀ (n : Nat) (t : Nat) (sh : Sh), zV P n t = some sh → ∀ (fuel : Nat) (cs : List Value) (x : DataW E × List MemPlace),
  DataW.trod enc P w 0 (fun _ => true) true fuel t cs = some x → Lu P w sh cs (toD x.1)
 | 0, t, sh, h => by cases h
 | n + 1, t, sh, h => by
  intro fuel cs x hx H μ hs hn
  simp only [zV] at h
  split at h
  ·rename_i k hu
   cases h
   obtain ⟨m, rfl, rfl, hw⟩ := DataW.trod_int hu hx
   exact ⟨[], μ, [.int k m], by simpa using hs, by simpa using hn, μ.le_refl, .cons (.int k m) .nil, rfl, by simp only [toD, Is]; exact ⟨trivial, trivial, hw⟩⟩
  ·rename_i hu
   cases h
   obtain ⟨b, rfl, rfl⟩ := DataW.trod_bool hu hx
   exact ⟨[], μ, [.bool b], by simpa using hs, by simpa using hn, μ.le_refl, .cons (.bool b) .nil, rfl, by simp only [toD, Is]⟩
  ·rename_i hu
   cases h
   obtain ⟨s, rfl, rfl, hm⟩ := DataW.trod_string hu hx
   exact ⟨[], μ, [.str s.data.toList], by simpa using hs, by simpa using hn, μ.le_refl, .cons (.str s) .nil, rfl, by simp only [toD, Is]; exact ⟨trivial, by simpa using hm⟩⟩
  ·rename_i e hu
   split at h
   ·rename_i s hse
    split at h
    ·rename_i hc
     cases h
     rcases Deep.open_slice hu hx with ⟨rfl, rfl⟩ | ⟨a, len, cap, m, n', Dd, Pl, rfl, _, hle, hcap, hm, rfl, hel⟩
     ·exact ⟨[], μ, [.slc none 0], by simpa using hs, by simpa using hn, μ.le_refl, .cons .slcN .nil, rfl, by simp only [toD, Is]⟩
     ·simp only [if_true] at hm
      subst hm
      obtain ⟨cs, hcs⟩ : ∃ cs : Nat → List Value, ∀ i, i < m → w.cells? 0 (a.add (i * P.cellsOf e)) (P.cellsOf e) = some (cs i) ∧ DataW.trod enc P w 0 (fun _ => true) true n' e (cs i) = some (Dd i, Pl i) := by
       refine ⟨fun i => if hi : i < m then (hel i hi).choose else [], fun i hi => ?_⟩
       simp only [hi, dif_pos]
       exact (hel i hi).choose_spec
      obtain ⟨T, μ1, vs, h1, h2, h3, h4, h5, h6⟩ := tH hpos (e := s) (Dd := fun i => toD (Dd i)) (cs := cs) len
       (fun i hi => zg hpos n e s hse n' (cs i) (Dd i, Pl i) (hcs i (by omega)).2) H μ hs hn
      have hcell : ∀ i, i < m → ∀ j, j < s.size → w.cell? ((a.add (i * s.size)).add j) = (cs i)[j]? ∧ (cs i).length = s.size := fun i hi j hj => by
       obtain ⟨_, k2, k3⟩ := World.cells?_some (hcs i hi).1
       rw [hc.1] at k2 k3
       exact ⟨k3 j hj, k2⟩
      have hsz : s.size ≠ 0 := by omega
      by_cases hm0 : m = 0
      ·subst hm0
       have hl0 : len = 0 := by omega
       subst hl0
       refine ⟨T ++ [.mk false s.size []], μ1.add (H ++ T).length ⟨0, 0, 0, s.size, 0, false⟩, [.slc (some ((H ++ T).length, 0)) 0], ?_, ?_, Mu.le_trans h3 (Mu.le_add _ h1.fresh), .cons (.slcZ _ 0 _ a (Mu.add_self _ _ _) (Nat.le_refl _)) .nil, rfl, ?_⟩
       ·rw [← List.append_assoc]
        exact h1.addRO h2 rfl rfl rfl (fun j v hj => by simp at hj) hpos
       ·rw [← List.append_assoc]; exact h2.add
       ·simp only [toD, ry, List.range_zero, List.map_nil, Is]
        refine ⟨rfl, Nat.zero_le _, false, [], ?_, by simp, fun i d hd => by simp at hd⟩
        rw [← List.append_assoc]
        simp
      ·have hspot : a.spot = none ∧ a.block < w.heap.size := by
        have h0 := (hcell 0 (by omega) 0 (by omega)).1
        have hlen0 := (hcell 0 (by omega) 0 (by omega)).2
        have : ∃ u, w.cell? ((a.add (0 * s.size)).add 0) = some u := ⟨(cs 0)[0]'(by omega), by rw [h0]; simp⟩
        obtain ⟨u, hu⟩ := this
        simp only [Nat.zero_mul, Addr.add, if_true] at hu
        unfold World.cell? at hu
        split at hu
        ·rename_i c t' fz hb
         split at hu
         ·cases hu
         ·rename_i hsp
          refine ⟨by simpa using hsp, (Array.getElem?_eq_some_iff.1 hb).1⟩
        ·cases hu
       obtain ⟨blk, off, spot⟩ := a
       simp only at hspot
       obtain ⟨rfl, hblk⟩ := hspot
       have hadd : ∀ i j : Nat, ((⟨blk, off, none⟩ : Addr).add i).add j = ⟨blk, off + (i + j), none⟩ := fun i j => by
        rw [Deep.add_add]
        unfold Addr.add
        by_cases hij : i + j = 0 <;> simp [hij]
       have hflat : ∀ k, k ≤ m → ((List.range k).flatMap cs).length = k * s.size ∧ ∀ j, j < k * s.size → w.cell? ⟨blk, off + j, none⟩ = ((List.range k).flatMap cs)[j]? := by
        intro k
        induction k with
        | zero => intro _; exact ⟨by simp, fun j hj => by omega⟩
        | succ k ih =>
         intro hk
         obtain ⟨i1, i2⟩ := ih (by omega)
         have hlk := (hcell k (by omega) 0 (by omega)).2
         rw [List.range_succ, List.flatMap_append]
         simp only [List.flatMap_cons, List.flatMap_nil, List.append_nil]
         refine ⟨by simp [i1, hlk, Nat.succ_mul], fun j hj => ?_⟩
         by_cases hjk : j < k * s.size
         ·rw [List.getElem?_append_left (by omega)]; exact i2 j hjk
         ·rw [List.getElem?_append_right (by omega), i1]
          rw [Nat.succ_mul] at hj
          have := (hcell k (by omega) (j - k * s.size) (by omega)).1
          rw [hadd] at this
          rw [← this]
          congr 2
          omega
       refine ⟨T ++ [.mk false s.size vs], μ1.add (H ++ T).length ⟨blk, off, vs.length, s.size, 0, false⟩, [.slc (some ((H ++ T).length, 0)) len], ?_, ?_, Mu.le_trans h3 (Mu.le_add _ h1.fresh), ?_, rfl, ?_⟩
       ·rw [← List.append_assoc]
        exact h1.addRO h2 rfl rfl rfl (VL.cellsAt h4 fun j hj => (hflat len hle).2 j (by rw [(hflat len hle).1] at hj; exact hj)) hblk
       ·rw [← List.append_assoc]; exact h2.add
       ·refine .cons ?_ .nil
        have := VR.slc (μ := μ1.add (H ++ T).length ⟨blk, off, vs.length, s.size, 0, false⟩) (H ++ T).length 0 len m _ (Mu.add_self _ _ _) hle (fun h => by cases h) (by
         simp only [h5, Nat.zero_add]; exact Nat.mul_le_mul_right _ hle)
        simpa using this
       ·simp only [toD, ry, Is]
        refine ⟨by simp, by omega, false, vs, by rw [← List.append_assoc]; simp, by omega, fun i d hd => ?_⟩
        simp only [List.map_map, List.getElem?_map] at hd
        have hi : i < len := by
         rcases Nat.lt_or_ge i len with h | h
         ·exact h
         ·rw [List.getElem?_eq_none (by simpa using h)] at hd; cases hd
        rw [List.getElem?_range hi] at hd
        simp only [Option.map_some, Function.comp_apply, Option.some.injEq] at hd
        subst hd
        rw [Nat.zero_add, ← List.append_assoc]
        exact Is.ext s _ _ (h6 i hi)
    ·cases h
   ·cases h
  ·rename_i fs hu
   split at h
   ·rename_i ss hss
    split at h
    ·rename_i hc
     cases h
     obtain ⟨xs, n', _, rfl, hlen, hxl, hf⟩ := DataW.trod_struct hu hx
     have key : ∀ (gs : List Field) (o : Nat) (ss : List Sh), kM P (zV P n) gs o = some ss → ∀ (ys : List (DataW E × List MemPlace)) (us : List Value), ys.length = gs.length → us.length = Sh.sizes ss →
       (∀ (i : Nat) (f : Field), gs[i]? = some f → DataW.trod enc P w 0 (fun _ => true) true n' f.type ((us.drop (f.offset - o)).take (P.cellsOf f.type)) = ys[i]?) →
       ∀ (H : List Ob) (μ : Mu), HSim H μ w → NoOwn H → ∃ (T : List Ob) (μ' : Mu) (vs : List V), HSim (H ++ T) μ' w ∧ NoOwn (H ++ T) ∧ μ.le μ' ∧ VL μ' vs us ∧ vs.length = Sh.sizes ss ∧ IsAll (H ++ T) ss vs (ys.map fun y => toD y.1) := by
      intro gs
      induction gs with
      | nil =>
       intro o ss hss ys us hy hu hf H μ hs hn
       simp only [kM, Option.some.injEq] at hss
       subst hss
       cases List.length_eq_zero_iff.1 hy
       cases List.length_eq_zero_iff.1 (by simpa only [Sh.sizes] using hu)
       exact ⟨[], μ, [], by simpa using hs, by simpa using hn, μ.le_refl, .nil, rfl, by simp only [List.map_nil, IsAll, and_self]⟩
      | cons g gs ih =>
       intro o ss hss ys us hy hu hf H μ hs hn
       simp only [kM] at hss
       split at hss
       ·rename_i s hsg
        split at hss
        ·rename_i hgo
         split at hss
         ·rename_i ss' hss'
          cases hss
          cases ys with
          | nil => simp at hy
          | cons y ys =>
           simp only [Sh.sizes] at hu
           have h0 := hf 0 g rfl
           rw [hgo.1, Nat.sub_self, List.drop_zero, hgo.2] at h0
           obtain ⟨T, μ1, vs, h1, h2, h3, h4, h5, h6⟩ := zg hpos n g.type s hsg n' (us.take s.size) y (by simpa using h0) H μ hs hn
           have hge := tY gs (o + s.size) ss' hss'
           obtain ⟨T', μ2, vs', g1, g2, g3, g4, g5, g6⟩ := ih (o + s.size) ss' hss' ys (us.drop s.size) (by simpa using hy) (by simp; omega) (fun i f hi => by
            have hfo := hge f (List.mem_of_getElem? hi)
            have := hf (i + 1) f (by simpa using hi)
            rw [List.drop_drop]
            simp only [List.getElem?_cons_succ] at this
            rw [← this]
            congr 3
            omega) (H ++ T) μ1 h1 h2
           refine ⟨T ++ T', μ2, vs ++ vs', by rw [← List.append_assoc]; exact g1, by rw [← List.append_assoc]; exact g2, Mu.le_trans h3 g3, ?_, by simp only [List.length_append, Sh.sizes]; omega, ?_⟩
           ·have := (h4.le g3).append g4
            rwa [List.take_append_drop] at this
           ·simp only [List.map_cons, IsAll]
            rw [← List.append_assoc, List.take_append_of_le_length (by omega), List.take_of_length_le (by omega), List.drop_append_of_le_length (by omega), AY vs (by omega), List.nil_append]
            exact ⟨Is.ext s _ _ h6, g6⟩
         ·cases hss
        ·cases hss
       ·cases hss
     obtain ⟨T, μ', vs, h1, h2, h3, h4, h5, h6⟩ := key fs.toList 0 ss hss xs cs (by simpa using hxl) (by rw [hlen, hc]) (fun i f hi => by simpa using hf i f (by simpa using hi)) H μ hs hn
     refine ⟨T, μ', vs, h1, h2, h3, h4, by simpa only [Sh.size] using h5, ?_⟩
     simp only [toD, ry, Is, List.map_map]
     exact h6
    ·cases h
   ·cases h
  ·cases h
end
abbrev Str := List UInt8
def Sl {α : Type} (H : List Ob) (es : Nat) (R : List V → α → Prop) (v : V) (xs : List α) : Prop :=
 (v = .slc none 0 ∧ xs = []) ∨ ∃ id off own cells, v = .slc (some (id, off)) xs.length ∧ H[id]? = some (.mk own es cells) ∧ off + xs.length * es ≤ cells.length ∧
  ∀ i x, xs[i]? = some x → R ((cells.drop (off + i * es)).take es) x
section
variable {α : Type} {H T : List Ob} {es : Nat} {R R' : List V → α → Prop} {v : V} {xs : List α}
theorem Sl.mono (h : Sl H es R v xs) (hR : ∀ cs x, R cs x → R' cs x) : Sl (H ++ T) es R' v xs := by
 rcases h with h | ⟨id, off, own, cells, h1, h2, h3, h4⟩
 ·exact .inl h
 ·exact .inr ⟨id, off, own, cells, h1, by rw [List.getElem?_append_left (List.getElem?_eq_some_iff.1 h2).1]; exact h2, h3, fun i x hx => hR _ _ (h4 i x hx)⟩
theorem Sl.len (h : Sl H es R v xs) {e s b : Nat} {z : List V} : lenV ⟨.slice e, s, b, z⟩ v = some (.int .i64 xs.length) := by
 rcases h with ⟨rfl, rfl⟩ | ⟨id, off, own, cells, rfl, _⟩ <;> rfl
theorem Sl.idx (h : Sl H es R v xs) {i : Nat} {x : α} (hx : xs[i]? = some x) (hes : es ≠ 0) : ∃ id o own cells,
  (∀ (e s b : Nat) (z : List V) (ty : Nat → LT) (k : IntKind), (ty e).size = es → dE ⟨.slice e, s, b, z⟩ ty (.val v) (.int k i) = some (.val (.ptr (some (id, o))))) ∧
  H[id]? = some (.mk own es cells) ∧ o + es ≤ cells.length ∧ R ((cells.drop o).take es) x := by
 rcases h with ⟨rfl, rfl⟩ | ⟨id, off, own, cells, rfl, h2, h3, h4⟩
 ·simp at hx
 ·have hi : i < xs.length := (List.getElem?_eq_some_iff.1 hx).1
  refine ⟨id, off + i * es, own, cells, fun e s b z ty k he => ?_, h2, ?_, h4 i x hx⟩
  ·have h0 : (0 : Int) ≤ (i : Int) := Int.natCast_nonneg i
   have h5 : (i : Int) < (xs.length : Int) := by exact_mod_cast hi
   simp only [dE, h0, h5, and_self, if_true, he, hes, if_false, Int.toNat_natCast]
  ·have : (i + 1) * es ≤ xs.length * es := Nat.mul_le_mul_right _ hi
   rw [Nat.succ_mul] at this
   omega
theorem dH {cells l : List V} {o n : Nat} (h : (cells.drop o).take n = l) {j : Nat} {v : V} (hj : l[j]? = some v) : cells[o + j]? = some v := by
 subst h
 have hjn : j < n := by
  rcases Nat.lt_or_ge j n with h | h
  ·exact h
  ·rw [List.getElem?_eq_none (by simp; omega)] at hj; cases hj
 rwa [List.getElem?_take_of_lt hjn, List.getElem?_drop] at hj
theorem IQ {T : LT} {id o es : Nat} {own : Bool} {cells : List V} {v : V} (h : H[id]? = some (.mk own es cells)) (hc : cells[o]? = some v) (hz : T.size ≠ 0) (ha : T.isAgg = false) :
  ∀ r c, loadAt T ⟨r, c, H⟩ (.hp id o) = some v := by
 intro r c
 obtain ⟨ho, rfl⟩ := List.getElem?_eq_some_iff.1 hc
 simp only [loadAt, hz, if_false, cellsAt, h, Pl.off, LT.num, ha, Bool.false_eq_true, dO]
 rw [if_pos (by omega), List.drop_eq_getElem_cons ho]
 rfl
theorem I4 {T : LT} {id o es : Nat} {own : Bool} {cells l : List V} (h : H[id]? = some (.mk own es cells)) (hl : o + T.size ≤ cells.length) (hc : (cells.drop o).take T.size = l) (hz : T.size ≠ 0) (ha : T.isAgg = true) :
  ∀ r c, loadAt T ⟨r, c, H⟩ (.hp id o) = some (.agg l) := by
 intro r c
 simp only [loadAt, hz, if_false, cellsAt, h, Pl.off, LT.num, ha, if_true, dO]
 rw [if_pos hl, hc]
 rfl
theorem store_one {T : LT} {id o es : Nat} {cells : List V} {v : V} (h : H[id]? = some (.mk true es cells)) (ho : o < cells.length) (hz : T.size = 1) (hv : cellsOf v = some [v]) (h1 : aJ v = true) :
  ∀ r c, storeAt T ⟨r, c, H⟩ (.hp id o) v = some ⟨r, c, H.set id (.mk true es (cells.set o v))⟩ := by
 intro r c
 have hl : o + [v].length ≤ cells.length := by simp; omega
 simp only [storeAt, hv, hz, List.length_singleton, List.all_cons, List.all_nil, Bool.and_true, h1, dB, h]
 rw [if_pos ⟨by omega, trivial, trivial⟩]
 rw [if_pos (by omega), qF ho]
theorem Sl.one (h : Sl H es R v xs) : aJ v = true ∧ cellsOf v = some [v] := by
 rcases h with ⟨rfl, rfl⟩ | ⟨id, off, own, cells, rfl, _⟩ <;> exact ⟨rfl, rfl⟩
theorem set_mid {a b : Ob} : (H ++ a :: T).set H.length b = H ++ b :: T := by
 rw [List.set_append_right _ _ (Nat.le_refl _)]
 simp
theorem Hu {T : LT} {id o es : Nat} {cells l : List V} (h : H[id]? = some (.mk true es cells)) (ho : o + l.length ≤ cells.length) (hz : T.size = l.length) (hp : l ≠ []) (h1 : l.all aJ = true) :
  ∀ r c, storeAt T ⟨r, c, H⟩ (.hp id o) (.agg l) = some ⟨r, c, H.set id (.mk true es (setRange cells o l))⟩ := by
 intro r c
 have : 0 < l.length := List.length_pos_iff.2 hp
 simp only [storeAt, cellsOf, hz, dB, h]
 rw [if_pos ⟨this, trivial, h1⟩, if_pos ho]
end
end Go.Lite
end
section
namespace Go.Lite
open Go Go.RowKit Go.ChangeShapes
variable [Draws]
def KZ : Sh → List V → V
 | .st _, vs => .agg vs
 | _, vs => vs.headD .undef
def Sh.isSt : Sh → Bool
 | .st _ => true
 | _ => false
def IsArgs (H : List Ob) : List Sh → List V → List D → Prop
 | [], vs, ds => vs = [] ∧ ds = []
 | s :: ss, v :: vs, d :: ds => (∃ cs, v = KZ s cs ∧ cs.length = s.size ∧ Is H s cs d) ∧ IsArgs H ss vs ds
 | _, _, _ => False
theorem IsArgs.ext {H T : List Ob} : ∀ {ss : List Sh} {vs : List V} {ds : List D}, IsArgs H ss vs ds → IsArgs (H ++ T) ss vs ds
 | [], _, _, h => h
 | s :: ss, v :: vs, d :: ds, ⟨⟨cs, h1, h2, h3⟩, h4⟩ => ⟨⟨cs, h1, h2, Is.ext s cs d h3⟩, IsArgs.ext h4⟩
 | _ :: _, [], _, h => h.elim
 | _ :: _, _ :: _, [], h => h.elim
def shapes (P : Program) : List Nat → Option (List Sh)
 | [] => some []
 | t :: ts => match zV P 20 t, shapes P ts with
  | some s, some ss => some (s :: ss)
  | _, _ => none
section
variable {P : Program} {C : Ctx} {W : World} {E : Type} {enc : TypeId × Value → E}
theorem KR {n t : Nat} {s : Sh} (h : zV P n t = some s) : s.isSt = (match P.underlying t with | some (.struct _) => true | _ => false) ∧ (match P.underlying t with | some (.array _ _) => False | _ => True) := by
 cases n with
 | zero => cases h
 | succ n =>
  simp only [zV] at h
  split at h
  ·rename_i hu; cases h; rw [hu]; exact ⟨rfl, trivial⟩
  ·rename_i hu; cases h; rw [hu]; exact ⟨rfl, trivial⟩
  ·rename_i hu; cases h; rw [hu]; exact ⟨rfl, trivial⟩
  ·rename_i hu
   rw [hu]
   split at h
   ·split at h
    ·cases h; exact ⟨rfl, trivial⟩
    ·cases h
   ·cases h
  ·rename_i hu
   rw [hu]
   split at h
   ·split at h
    ·cases h; exact ⟨rfl, trivial⟩
    ·cases h
   ·cases h
  ·cases h
theorem Dp {r : Reach} {b t : Nat} {cs : Array Value} (h : Cell.okWide P W r b t (.agg cs)) : False := by
 unfold Cell.okWide Cell.ok at h
 cases hu : P.underlying t with
 | none => rw [hu] at h; exact h
 | some d => rw [hu] at h; cases d <;> exact h
theorem BC {μ : Mu} {n t : Nat} {s : Sh} (hs : zV P n t = some s) {r : Reach} {b : Nat} {v : Value} (hok : Value.okWide P W r b t v) {vs : List V} (hv : VL μ vs v.cells.toList) (hl : vs.length = s.size) (hns : s.isSt = false → s.size = 1) :
  VR μ (KZ s vs) v := by
 obtain ⟨h1, h2⟩ := KR hs
 unfold Value.okWide at hok
 cases s with
 | st ss =>
  simp only [Sh.isSt] at h1
  split at hok
  ·obtain ⟨cs, rfl, _⟩ := hok
   exact VL.agg hv
  ·rename_i hu; rw [hu] at h2; exact h2.elim
  ·rename_i hu _
   exfalso
   split at h1
   ·rename_i fs hfs; exact hu fs hfs
   ·cases h1
 | _ =>
  simp only [Sh.isSt] at h1
  split at hok
  ·rename_i hu; rw [hu] at h1; cases h1
  ·rename_i hu; rw [hu] at h2; exact h2.elim
  ·simp only [Sh.size] at hl
   have hc : v.cells = #[v] := by
    cases v with
    | agg cs =>
     exact (Dp hok).elim
    | _ => rfl
   rw [hc] at hv
   cases hv with
   | cons h t =>
    cases t
    simpa [KZ] using h
theorem yA (hpos : 0 < W.heap.size) : ∀ {ts : List Nat} {ss : List Sh} (hsh : shapes P ts = some ss) {vs : List Value} {ds : List (DataW E)} {ps : List MemPlace}, DataW.TrodAll enc P W 0 (fun _ => true) true ts vs ds ps →
  (∀ (j : Nat) t v, ts[j]? = some t → vs[j]? = some v → ∃ r b, Value.okWide P W r b t v) → ∀ (H : List Ob) (μ : Mu), HSim H μ W → NoOwn H →
  ∃ (T : List Ob) (μ' : Mu) (az : List V), HSim (H ++ T) μ' W ∧ NoOwn (H ++ T) ∧ μ.le μ' ∧ VL μ' az vs ∧ IsArgs (H ++ T) ss az (ds.map toD)
 | [], ss, hsh, vs, ds, ps, h, _, H, μ, hs, hn => by
  simp only [shapes, Option.some.injEq] at hsh
  subst hsh
  match vs, ds, h with
  | [], [], _ => exact ⟨[], μ, [], by simpa using hs, by simpa using hn, μ.le_refl, .nil, rfl, rfl⟩
 | t :: ts, ss, hsh, vs, ds, ps, h, hok, H, μ, hs, hn => by
  simp only [shapes] at hsh
  split at hsh
  ·rename_i s ss' h1 h2
   cases hsh
   match vs, ds, h with
   | v :: vs, d :: ds, ⟨p, q, ⟨fuel, k1⟩, k2, k3⟩ =>
    obtain ⟨T, μ1, cs, g1, g2, g3, g4, g5, g6⟩ := zg hpos 20 t s h1 fuel v.cells.toList (d, p) k1 H μ hs hn
    obtain ⟨T', μ2, az, e1, e2, e3, e4, e5⟩ := yA hpos h2 k2 (fun j t v hj hv => hok (j + 1) t v (by simpa using hj) (by simpa using hv)) (H ++ T) μ1 g1 g2
    obtain ⟨r, b, hv⟩ := hok 0 t v rfl rfl
    refine ⟨T ++ T', μ2, KZ s cs :: az, by rw [← List.append_assoc]; exact e1, by rw [← List.append_assoc]; exact e2, Mu.le_trans g3 e3, .cons ((BC h1 hv g4 g5 ?_).le e3) e4, ?_⟩
    ·intro hst; cases s <;> first | rfl | cases hst
    ·rw [← List.append_assoc]
     exact ⟨⟨cs, rfl, g5, Is.ext s cs _ g6⟩, e5⟩
  ·cases hsh
theorem Ia : HSim [] (fun _ => none) W where
 dom id m h := by cases h
 map id o h := by simp at h
 obj id o m h := by simp at h
 sep id id' o o' m m' _ h := by simp at h
 plain id es cells m h := by simp at h
theorem calls_law (hp : ProgOk P C) {f : Nat} {F : Func} (hF : P.funcs[f]? = some F) (hb : F.body.isSome = true) (hname : (F.name == "runtime.NumGoroutine") = false) (hpos : 0 < W.heap.size) {ss : List Sh}
  (hsh : shapes P F.params.toList = some ss) {args : Array Value} {ds : List (DataW E)} {ps : List MemPlace} (hT : DataW.TrodAll enc P W 0 (fun _ => true) true F.params.toList args.toList ds ps)
  (hok : ∀ (j : Nat) t v, F.params[j]? = some t → args[j]? = some v → ∃ r b, Value.okWide P W r b t v) {b : Bool}
  (law : ∀ (H : List Ob) (vs : List V), IsArgs H ss vs (ds.map toD) → ∃ H', callW C f vs H = some (.bool b, H')) :
  Calls P f args W fun e W' => e = .returned (.bool b) ∧ Below W.heap.size W W' := by
 obtain ⟨T, μ, az, h1, h2, _, h4, h5⟩ := yA hpos hsh hT (fun j t v hj hv => hok j t v (by simpa using hj) (by simpa using hv)) [] _ Ia (by intro o ho; cases ho)
 rw [List.nil_append] at h1 h2 h5
 obtain ⟨H', hc⟩ := law T az h5
 have hno : ∀ x, ¬ OwnB T μ [] x := by
  rintro x (⟨id, o, m, k1, k2, _⟩ | hx)
  ·rw [h2 o (List.mem_of_getElem? k1)] at k2; cases k2
  ·cases hx
 have hrun : (callFunc f args).run P W = .ok (.enter f args) W := by
  obtain ⟨c, hc⟩ := Option.isSome_iff_exists.1 hb
  simp [callFunc, hF, (by simpa using hname : ¬F.name = "runtime.NumGoroutine"), hc]
 rcases Ji hp f az T (.bool b) H' hc μ W args h1 h4 with ⟨v, w', k1, _⟩ | ⟨_, k2⟩
 ·rw [hrun] at k1; cases k1
 ·refine k2.mono fun e W' ⟨v, he, μ', hg, hv⟩ => ?_
  rw [he, hv.bool_inv]
  exact ⟨rfl, ⟨hg.grow.os, hg.grow.tape, hg.grow.output, hg.grow.size, fun x hx => hg.grow.same x hx (hno x)⟩⟩
theorem zG {W W' : World} (hb : Below W.heap.size W W') {p : MemPlace} (hp : p.block < W.heap.size) : W.sameAt W' p := by
 cases p with
 | cell b off =>
  simp only [World.sameAt, World.cell?]
  rw [hb.block b hp]
 | map b => exact hb.block b hp
theorem pz {W W' : World} {sp : Nat → Bool} : ∀ {ts : List TypeId} {vs : List Value} {ds : List (DataW E)} {ps : List MemPlace}, DataW.TrodAll enc P W 0 sp true ts vs ds ps → (∀ p ∈ ps, W.sameAt W' p) →
  DataW.TrodAll enc P W' 0 sp true ts vs ds ps
 | [], [], [], _, h, _ => h
 | _ :: _, _ :: _, _ :: _, _, ⟨p, q, ⟨n, h1⟩, h2, e⟩, hs =>
  ⟨p, q, ⟨n, DataW.trod_carry n _ _ _ h1 fun x hx => hs x (by rw [e]; exact List.mem_append_left _ hx)⟩, pz h2 (fun x hx => hs x (by rw [e]; exact List.mem_append_right _ hx)), e⟩
theorem law_post {s : ChangeSpec} {apart fresh handsOn again : Bool} {F : Func} (hlo : laidOutB P = true) (hmr : mapsRowed P = true)
  (hfull : ((List.range P.types.size).all fun t => match P.underlying t with | some (.slice e) => decide (0 < P.cellsOf e) | _ => true) = true)
  (hpar : F.params.toList.all (fun t => decide (t < P.types.size)) = true) {rt : TypeId} (hrt : F.resultTypes = #[rt]) (hrb : P.underlying rt = some .bool)
  {W W' : World} {args : Array Value} {ds gs : List (DataW E)} {before : List MemPlace} (hW : DataW.Whole enc P F.params.toList s.vars apart W args.toList ds gs before) (hvars : s.vars = [])
  (hfn : s.fn E (ds ++ gs) = { results := [.lit (.bool true)], args := ds }) (hb : Below W.heap.size W W') : s.post enc P F apart fresh handsOn again W args (.bool true) W' := by
 have hlt : ∀ p ∈ before, p.block < W.heap.size := fun p hp => hW.lt p hp
 have hsame : ∀ p ∈ before, W.sameAt W' p := fun p hp => zG hb (hlt p hp)
 have hW' := hW
 obtain ⟨pa, q, hA, hV, hps, hz, hn⟩ := hW'
 have hV2 := hV
 rw [hvars] at hV2
 have hgs : gs = [] ∧ q = [] := by
  cases gs with
  | nil => exact ⟨rfl, hV2⟩
  | cons => exact hV2.elim
 obtain ⟨rfl, rfl⟩ := hgs
 rw [List.append_nil] at hps
 subst hps
 rw [List.append_nil] at hfn
 have K := kids_rows hlo hmr
 have hargs : ∀ sp : Nat → Bool, (∀ p ∈ before, sp p.block = true) → DataW.TrodAll enc P W' 0 sp true F.params.toList args.toList ds before := fun sp hsp =>
  DataW.TrodAll.respare K (slices_full_of P hfull) (fun t ht => by simpa using List.all_eq_true.1 hpar t ht) (pz hA hsame) hsp
 have hres : ∀ (b : Nat) (sp : Nat → Bool) (hd : Bool), DataW.TrodAll enc P W' b sp hd F.resultTypes.toList ((Value.bool true).resultList F.resultTypes.size) [.lit (.bool true)] [] := fun b sp hd => by
  rw [hrt]
  exact ⟨[], [], ⟨1, by simp [DataW.trod, Value.cells, hrb]⟩, rfl, rfl⟩
 have hnil : s.fn E ([] : List (DataW E)) = s.fn E [] := rfl
 refine ⟨ds, [], before, [], before, [], hW, ?_, ?_, ?_, ?_, fun _ => ⟨?_, [.lit (.bool true)] ++ ds, [], [] ++ before, ⟨[] ++ before, [], ?_, ?_, by simp, ?_, ?_⟩, fun p hp _ => by simpa using hp⟩⟩
 ·rw [List.append_nil, hfn]; exact hres _ _ _
 ·rw [List.append_nil, hfn]; exact hargs _ fun p hp => by simpa using hlt p hp
 ·rw [hvars, List.append_nil, hfn]; exact rfl
 ·exact World.keptBut_mono (fun p hp => ⟨hp, .inr (.inl hp)⟩) (hb.frame (· ∈ before))
 ·intro j t r ht hr
  rw [hrt] at ht hr
  cases j with
  | zero =>
   simp at ht
   subst ht
   simp [Value.resultList] at hr
   subst hr
   unfold Value.okWide
   rw [hrb]
   simp only [Cell.okWide, Cell.ok, hrb]
  | succ j => simp at ht
 ·exact trodAll_append (hargs _ (fun _ _ => rfl)) (hres _ _ _)
 ·rw [hvars]; exact rfl
 ·intro b off hp
  rw [List.nil_append] at hp
  rw [hb.frozen (hlt _ hp)]
  exact hz b off hp
 ·intro ha
  have := hn ha
  simpa using this
theorem trodAll_len {sp : Nat → Bool} {b : Nat} : ∀ {ts : List TypeId} {vs : List Value} {ds : List (DataW E)} {ps : List MemPlace}, DataW.TrodAll enc P W b sp true ts vs ds ps → ds.length = ts.length
 | [], [], [], _, _ => rfl
 | _ :: _, _ :: _, _ :: _, _, ⟨_, _, _, h2, _⟩ => by simp [trodAll_len h2]
end
end Go.Lite
end
