/- Part 02 of the proof of a law: the interpreter, its soundness, and what functions of the program compute over it. Conditions: none but those that each theorem names. -/
import Derived.Test.YtdkbgdjfmbppfaaGreatDoorE01

set_option linter.all false
set_option maxRecDepth 20000
set_option maxHeartbeats 40000000
section
namespace Go.Lite
open Go
section
variable {P : Program} {L : List Nat} {σ : St} {μ : Mu} {β : List Nat} {a : Act} {w : World}
theorem zX (hs : Sim L σ μ β a w) {d n : Nat} {x : Option Operand} (hx : ∀ y, x = some y → OpdOk a.tmps.size y) (h : eX σ d x = some n) :
  (x = none ∧ n = d) ∨ ∃ y k, x = some y ∧ a.eval y = .int k n := by
 cases x with
 | none => simp only [eX, Option.some.injEq] at h; exact .inl ⟨rfl, h.symm⟩
 | some y =>
  simp only [eX] at h
  split at h
  ·rename_i k i he
   split at h
   ·rename_i h0
    cases h
    have := (aN hs (hx y rfl) he).int_inv
    exact .inr ⟨y, k, rfl, by rw [this]; congr 1; omega⟩
   ·cases h
  ·cases h
theorem mX {k : IntKind} {i y : Nat} (h : i ≤ y) (code : BoundsCode) : (Instr.sliceBound (.int k i) y code).run P w = .ok i w := by
 simp [Instr.sliceBound, asIntOf, h]
theorem gZ (isS : Bool) {len cap l h : Nat} {lo hi : Option Value} (hlo : (lo = none ∧ l = 0) ∨ ∃ k, lo = some (.int k l)) (hhi : (hi = none ∧ h = len) ∨ ∃ k, hi = some (.int k h))
  (h1 : l ≤ h) (h2 : hi ≠ none → h ≤ cap) : (Instr.sliceBounds isS len cap lo hi none).run P w = .ok (l, h, cap) w := by
 rcases hlo with ⟨rfl, rfl⟩ | ⟨k, rfl⟩ <;> rcases hhi with ⟨rfl, rfl⟩ | ⟨k', rfl⟩ <;>
  simp [Instr.sliceBounds, mX, h1, h2]
theorem lN (isS : Bool) {len cap l h m : Nat} {lo : Option Value} {k k' : IntKind} (hlo : (lo = none ∧ l = 0) ∨ ∃ k, lo = some (.int k l))
  (h1 : l ≤ h) (h2 : h ≤ m) (h3 : m ≤ cap) : (Instr.sliceBounds isS len cap lo (some (.int k h)) (some (.int k' m))).run P w = .ok (l, h, m) w := by
 rcases hlo with ⟨rfl, rfl⟩ | ⟨k, rfl⟩ <;> simp [Instr.sliceBounds, mX, h1, h2, h3]
theorem pG (hs : Sim L σ μ β a w) {id off es h c : Nat} {m : Mp} (hm : μ id = some m) (hr : reaches σ.heap id off es h = true) (hre : m.len ≤ off + c * m.es) : h ≤ c := by
 unfold reaches at hr
 split at hr
 ·rename_i own es' cells hq
  simp only [Bool.and_eq_true, beq_iff_eq, decide_eq_true_eq] at hr
  obtain ⟨⟨rfl, h0⟩, h1⟩ := hr
  have ho := hs.heap.obj _ _ m hq hm
  have e1 := ho.2.1
  have e2 := ho.2.2.1
  subst e1
  have : h * m.es ≤ c * m.es := by omega
  exact Nat.le_of_mul_le_mul_right this h0
 ·cases hr
theorem qi (b : ByteArray) (l h : Nat) : (b.extract l h).data.toList = (b.data.toList.take h).drop l := by
 have : (b.extract l h).data = b.data.extract l h := by simp
 rw [this, Array.toList_extract, List.extract_eq_take_drop, List.drop_take]
theorem y5 {ty : Nat → LT} (hty : TysOk P ty) (hs : Sim L σ μ β a w) {t : TypeId} {x v : V} {u : Value} {lo hi mx : Option Operand}
  (hlo : ∀ y, lo = some y → OpdOk a.tmps.size y) (hhi : ∀ y, hi = some y → OpdOk a.tmps.size y) (hmx : ∀ y, mx = some y → OpdOk a.tmps.size y)
  (h : pY (ty t) ty σ x lo hi mx = some v) (hx : VR μ x u) : ∃ r, (Instr.sliceAt t u (lo.map a.eval) (hi.map a.eval) (mx.map a.eval)).run P w = .ok r w ∧ VR μ v r := by
 have bd : ∀ {d n : Nat} {x : Option Operand}, (∀ y, x = some y → OpdOk a.tmps.size y) → eX σ d x = some n → (x.map a.eval = none ∧ n = d) ∨ ∃ k, x.map a.eval = some (.int k n) := by
  intro d n x hx h
  rcases zX hs hx h with ⟨rfl, rfl⟩ | ⟨y, k, rfl, e⟩
  ·exact .inl ⟨rfl, rfl⟩
  ·exact .inr ⟨k, by simp [e]⟩
 unfold pY at h
 split at h
 ·rename_i s hd
  have h1 := (hty.of_desc (t := t) (by rw [hd]; simp)).desc
  rw [hd] at h1
  obtain ⟨b, rfl, rfl⟩ := hx.str_inv
  split at h
  ·rename_i l hh hl hr
   split at h
   ·rename_i hb
    cases h
    have hl' := bd hlo hl
    have hr' := bd hhi hr
    have hsz : b.data.toList.length = b.size := by simp
    have := gZ (P := P) (w := w) false (cap := b.size) hl' (by rw [hsz] at hr'; exact hr') hb.1 (fun _ => by omega)
    refine ⟨_, by simp [Instr.sliceAt, Instr.slice, run_underlying h1, this]; rfl, ?_⟩
    rw [← qi]
    exact .str _
   ·cases h
  ·cases h
 ·rename_i e hd
  have h1 := (hty.of_desc (t := t) (by rw [hd]; simp)).desc
  rw [hd] at h1
  obtain ⟨rfl, -⟩ := hx.slcN_inv
  split at h
  ·rename_i hl hr
   split at h
   ·cases h
   ·rename_i hz
    cases h
    have hsz := aS (hty.of_size hz) w
    have := gZ (P := P) (w := w) true (len := 0) (cap := 0) (bd hlo hl) (bd hhi hr) (Nat.le_refl _) (fun _ => Nat.le_refl _)
    exact ⟨_, by simp [Instr.sliceAt, Instr.slice, run_underlying h1, this, hsz], .slcN⟩
  ·cases h
 ·rename_i e id off n hd
  have h1 := (hty.of_desc (t := t) (by rw [hd]; simp)).desc
  rw [hd] at h1
  split at h
  ·cases h
  ·rename_i hz
   have hsz := aS (hty.of_size hz) w
   split at h
   ·rename_i l hh hl hr
    obtain ⟨m, hm, hu⟩ := hx.slc_inv
    split at h
    ·split at h
     ·rename_i hb
      split at h
      ·rename_i hst
       cases h
       have hes : m.es = (ty e).size := by
        unfold aY at hst
        split at hst
        ·rename_i own es' cells hq
         have := (hs.heap.obj _ _ m hq hm).2.1
         simp only [beq_iff_eq] at hst
         omega
        ·cases hst
       rcases hu with ⟨c, hc, hroom, hre, rfl⟩ | ⟨rfl, hre, ad, rfl⟩
       ·have hhc : hh ≤ c := by
         rcases hb.2 with h2 | h2
         ·omega
         ·exact pG hs hm h2 hre
        have := gZ (P := P) (w := w) true (len := n) (cap := c) (bd hlo hl) (bd hhi hr) hb.1 (fun _ => hhc)
        by_cases hlc : c = l
        ·subst hlc
         have e1 : hh - c = 0 := by omega
         refine ⟨_, by simp [Instr.sliceAt, Instr.slice, run_underlying h1, this, hsz]; rfl, ?_⟩
         rw [e1]
         refine .slcZ _ _ m _ hm ?_
         rw [← hes]; exact hre
        ·refine ⟨_, by simp [Instr.sliceAt, Instr.slice, run_underlying h1, this, hsz, hlc, Addr.add_lit]; rfl, ?_⟩
         rw [Nat.add_assoc]
         refine .slc _ _ _ _ m hm (by omega) (fun ho => ?_) ?_
         ·have := hroom ho
          rw [← hes]
          have e2 : c * m.es = l * m.es + (c - l) * m.es := by rw [← Nat.add_mul]; congr 1; omega
          omega
         ·rw [← hes]
          have e2 : c * m.es = l * m.es + (c - l) * m.es := by rw [← Nat.add_mul]; congr 1; omega
          omega
       ·have hh0 : hh = 0 := by
         rcases hb.2 with h2 | h2
         ·omega
         ·unfold reaches at h2
          split at h2
          ·rename_i own es' cells hq
           have ho := hs.heap.obj _ _ m hq hm
           have e2 := ho.2.2.1
           simp only [Bool.and_eq_true, beq_iff_eq, decide_eq_true_eq] at h2
           obtain ⟨⟨rfl, h0⟩, h3⟩ := h2
           have : hh * (ty e).size = 0 := by omega
           rcases Nat.mul_eq_zero.1 this with h4 | h4 <;> omega
          ·cases h2
        subst hh0
        have hl0 : l = 0 := by omega
        subst hl0
        have := gZ (P := P) (w := w) true (len := 0) (cap := 0) (bd hlo hl) (bd hhi hr) (Nat.le_refl _) (fun _ => Nat.le_refl _)
        refine ⟨_, by simp [Instr.sliceAt, Instr.slice, run_underlying h1, this, hsz]; rfl, ?_⟩
        simp only [Nat.zero_mul, Nat.add_zero, Nat.sub_self]
        exact .slcZ _ _ m _ hm hre
      ·cases h
     ·cases h
    ·rename_i mx
     split at h
     ·rename_i y m' hmm
      split at h
      ·rename_i hb
       cases h
       obtain ⟨k, hk⟩ : ∃ k, Option.map a.eval (some mx) = some (.int k m') := by
        rcases bd hmx hmm with ⟨h2, _⟩ | h2
        ·cases h2
        ·exact h2
       obtain ⟨k2, hk2⟩ : ∃ k, Option.map a.eval (some y) = some (.int k hh) := by
        rcases bd hhi hr with ⟨h2, _⟩ | h2
        ·cases h2
        ·exact h2
       simp only [Option.map_some, Option.some.injEq] at hk hk2
       rcases hu with ⟨c, hc, hroom, hre, rfl⟩ | ⟨rfl, hre, ad, rfl⟩
       ·have hhc : m' ≤ c := by
         rcases hb.2.2 with h2 | h2
         ·omega
         ·exact pG hs hm h2 hre
        have := lN (P := P) (w := w) true (len := n) (k := k2) (k' := k) (bd hlo hl) hb.1 hb.2.1 hhc
        exact ⟨_, by simp [Instr.sliceAt, Instr.slice, run_underlying h1, hk, hk2, this, hsz]; rfl, .undef _⟩
       ·have hh0 : m' = 0 := by
         rcases hb.2.2 with h2 | h2
         ·omega
         ·unfold reaches at h2
          split at h2
          ·rename_i own es' cells hq
           have ho := hs.heap.obj _ _ m hq hm
           have e2 := ho.2.2.1
           simp only [Bool.and_eq_true, beq_iff_eq, decide_eq_true_eq] at h2
           obtain ⟨⟨rfl, h0⟩, h3⟩ := h2
           have : m' * (ty e).size = 0 := by omega
           rcases Nat.mul_eq_zero.1 this with h4 | h4 <;> omega
          ·cases h2
        have := lN (P := P) (w := w) true (len := 0) (cap := 0) (k := k2) (k' := k) (bd hlo hl) hb.1 hb.2.1 (by omega)
        exact ⟨_, by simp [Instr.sliceAt, Instr.slice, run_underlying h1, hk, hk2, this, hsz]; rfl, .undef _⟩
      ·cases h
     ·cases h
   ·cases h
 ·cases h
end
section
variable {P : Program} {L : List Nat} {σ : St} {μ : Mu} {β : List Nat} {a : Act} {w : World}
inductive VL (μ : Mu) : List V → List Value → Prop where
 | nil : VL μ [] []
 | cons {v : V} {u : Value} {vs : List V} {us : List Value} (h : VR μ v u) (t : VL μ vs us) : VL μ (v :: vs) (u :: us)
theorem VL.length {vs : List V} {us : List Value} (h : VL μ vs us) : vs.length = us.length := by
 induction h with
 | nil => rfl
 | cons _ _ ih => simp [ih]
theorem VL.get {vs : List V} {us : List Value} (h : VL μ vs us) : ∀ (i : Nat) (v : V) (u : Value), vs[i]? = some v → us[i]? = some u → VR μ v u := by
 induction h with
 | nil => intro i v u hv; simp at hv
 | cons h t ih =>
  intro i v u hv hu
  cases i with
  | zero => simp at hv hu; subst hv; subst hu; exact h
  | succ i => exact ih i v u (by simpa using hv) (by simpa using hu)
theorem VL.of_get : ∀ {vs : List V} {us : List Value}, vs.length = us.length → (∀ (i : Nat) (v : V) (u : Value), vs[i]? = some v → us[i]? = some u → VR μ v u) → VL μ vs us
 | [], [], _, _ => .nil
 | [], _ :: _, h, _ => by simp at h
 | _ :: _, [], h, _ => by simp at h
 | v :: vs, u :: us, h, k => .cons (k 0 v u rfl rfl) (VL.of_get (by simpa using h) fun i v u h1 h2 => k (i + 1) v u h1 h2)
theorem VL.append {vs vs' : List V} {us us' : List Value} (h : VL μ vs us) (k : VL μ vs' us') : VL μ (vs ++ vs') (us ++ us') := by
 induction h with
 | nil => exact k
 | cons h _ ih => exact .cons h ih
theorem VL.le {μ' : Mu} {vs : List V} {us : List Value} (hp : μ.le μ') (h : VL μ vs us) : VL μ' vs us := by
 induction h with
 | nil => exact .nil
 | cons h _ ih => exact .cons (VR.le hp h) ih
theorem kC (hs : Sim L σ μ β a w) : ∀ {xs : List Operand} {vs : List V}, (∀ x ∈ xs, OpdOk a.tmps.size x) → evs σ xs = some vs → VL μ vs (xs.map a.eval)
 | [], vs, _, h => by simp only [evs, Option.some.injEq] at h; subst h; exact .nil
 | x :: xs, vs, hx, h => by
  simp only [evs] at h
  split at h
  ·rename_i v vs' h1 h2
   cases h
   exact .cons (aN hs (hx x (by simp)) h1) (kC hs (fun y hy => hx y (by simp [hy])) h2)
  ·cases h
inductive PL (μ : Mu) : List (Nat × V) → List (Nat × Value) → Prop where
 | nil : PL μ [] []
 | cons {i : Nat} {v : V} {u : Value} {vs : List (Nat × V)} {us : List (Nat × Value)} (h : VR μ v u) (t : PL μ vs us) : PL μ ((i, v) :: vs) ((i, u) :: us)
theorem jy (hs : Sim L σ μ β a w) : ∀ {xs : List (Nat × Operand)} {vs : List (Nat × V)}, (∀ x ∈ xs, OpdOk a.tmps.size x.2) → ik σ xs = some vs → PL μ vs (xs.map fun (i, x) => (i, a.eval x))
 | [], vs, _, h => by simp only [ik, Option.some.injEq] at h; subst h; exact .nil
 | (i, x) :: xs, vs, hx, h => by
  simp only [ik] at h
  split at h
  ·rename_i v vs' h1 h2
   cases h
   exact .cons (aN hs (hx (i, x) (by simp)) h1) (jy hs (fun y hy => hx y (by simp [hy])) h2)
  ·cases h
theorem jr {v : V} {u : Value} {xs : List V} (h : cellsOf v = some xs) (hv : VR μ v u) : VL μ xs u.cells.toList := by
 unfold cellsOf at h
 split at h
 ·cases h
 ·cases h
 ·cases h
  obtain ⟨us, rfl, hl, hc⟩ := hv.agg_inv
  exact VL.of_get (by simpa [Value.cells] using hl) (fun i v u h1 h2 => hc i v u h1 (by simpa [Value.cells] using h2))
 ·rename_i v h1 h2 h3
  cases h
  have : u.cells = #[u] := by
   cases hv <;> first | rfl | exact absurd rfl (h1) | exact absurd rfl (h2 _) | exact absurd rfl (h3 _)
  rw [this]
  exact .cons hv .nil
theorem foldl_set (us : List Value) : ∀ (off k : Nat) (c : Array Value), off + k + us.length ≤ c.size →
  ((us.zipIdx k).foldl (fun cs (x : Value × Nat) => cs.setIfInBounds (off + x.2) x.1) c).toList = c.toList.take (off + k) ++ us ++ c.toList.drop (off + k + us.length) := by
 induction us with
 | nil => intro off k c h; simp
 | cons u us ih =>
  intro off k c h
  simp only [List.zipIdx_cons, List.foldl_cons]
  simp only [List.length_cons] at h
  rw [ih off (k + 1) (c.setIfInBounds (off + k) u) (by simp; omega)]
  simp only [Array.toList_setIfInBounds, List.length_cons]
  have hk : off + k < c.toList.length := by simp; omega
  have e1 : (c.toList.set (off + k) u).take (off + (k + 1)) = c.toList.take (off + k) ++ [u] := by
   rw [show off + (k + 1) = off + k + 1 by omega, List.take_succ_eq_append_getElem (by simpa using hk)]
   simp [List.take_set_of_le]
  have e2 : (c.toList.set (off + k) u).drop (off + (k + 1) + us.length) = c.toList.drop (off + k + (us.length + 1)) := by
   rw [List.drop_set_of_lt (by omega)]; congr 1; omega
  rw [e1, e2]
  simp
theorem VL.take {vs : List V} {us : List Value} (h : VL μ vs us) (n : Nat) : VL μ (vs.take n) (us.take n) := by
 induction h generalizing n with
 | nil => simp; exact .nil
 | cons h _ ih => cases n with
  | zero => simp; exact .nil
  | succ n => simp; exact .cons h (ih n)
theorem VL.drop {vs : List V} {us : List Value} (h : VL μ vs us) (n : Nat) : VL μ (vs.drop n) (us.drop n) := by
 induction h generalizing n with
 | nil => simp; exact .nil
 | cons h t ih => cases n with
  | zero => simp; exact .cons h t
  | succ n => simp; exact ih n
theorem VL.setRange {vs xs : List V} {us ys : List Value} (h : VL μ vs us) (k : VL μ xs ys) (off : Nat) : VL μ (setRange vs off xs) (us.take off ++ ys ++ us.drop (off + ys.length)) := by
 unfold Lite.setRange
 rw [k.length]
 exact ((h.take off).append k).append (h.drop _)
theorem kJ {pl pl' : Nat → Option (Nat × Nat)} (hp : ∀ i x, pl i = some x → pl' i = some x) : ∀ {parts : List (Nat × V)} {ps : List (Nat × Value)} {cells cs : List V} {c : Array Value},
  PL μ parts ps → VL μ cells c.toList → ax pl cells parts = some cs → ∃ c', Instr.fill pl' c ps = some c' ∧ VL μ cs c'.toList ∧ c'.size = c.size
 | _, _, cells, cs, c, .nil, hc, h => by
  simp only [ax, Option.some.injEq] at h; subst h
  exact ⟨c, rfl, hc, rfl⟩
 | _, _, cells, cs, c, .cons (i := i) (v := v) (u := u) (vs := vs) (us := us) hv t, hc, h => by
  simp only [ax] at h
  split at h
  ·rename_i off size xs h1 h2
   split at h
   ·rename_i hb
    have hx := jr h2 hv
    have hl := hx.length
    have hl' := hc.length
    simp only [Array.length_toList] at hl hl'
    have key := foldl_set u.cells.toList off 0 c (by simp; omega)
    have hsr := hc.setRange hx off
    rw [Nat.add_zero] at key
    have e : (u.cells.zipIdx.foldl (fun cs (x : Value × Nat) => cs.setIfInBounds (off + x.2) x.1) c).toList = c.toList.take off ++ u.cells.toList ++ c.toList.drop (off + u.cells.toList.length) := by
     rw [← Array.foldl_toList, Array.toList_zipIdx]; exact key
    rw [← e] at hsr
    obtain ⟨c', h3, h4, h5⟩ := kJ hp t hsr h
    refine ⟨c', ?_, h4, ?_⟩
    ·simp only [Instr.fill, hp i _ h1]
     rw [if_neg (by simp; omega)]
     exact h3
    ·rw [h5, ← Array.length_toList, e]
     simp; omega
   ·cases h
  ·cases h
theorem jw {t : Nat} {T : LT} (h : TyOk P t T) : ∃ z, (zeroValue t).run P w = .ok z w ∧ VL μ T.zero z.cells.toList := by
 obtain ⟨i, z, h1, h2, h3, h4, h5⟩ := h.info
 refine ⟨z, by simp [zeroValue, typeInfo, h1, h4], ?_⟩
 rw [h5]
 exact VL.of_get (by simp) fun j v u hv hu => by
  rw [List.getElem?_map, hu] at hv
  simp only [Option.map_some, Option.some.injEq] at hv
  subst hv
  exact VR.toV1 μ u
theorem VL.agg {cs : List V} {us : Array Value} (h : VL μ cs us.toList) : VR μ (.agg cs) (.agg us) :=
 .agg _ _ (by simpa using h.length) fun i v u h1 h2 => h.get i v u h1 (by simpa using h2)
theorem GY {F : Field} (h : (P.info? F.type).isSome = true) (w : World) : (do pure (F.offset, ← sizeOf F.type) : Sem (Nat × Nat)).run P w = .ok (F.offset, P.cellsOf F.type) w := by
 obtain ⟨i, hi⟩ := Option.isSome_iff_exists.1 h
 simp [sizeOf, typeInfo, hi, Program.cellsOf]
theorem CZ (Fs : List Field) (w : World) (h : ∀ F ∈ Fs, (P.info? F.type).isSome = true) :
  (Fs.mapM (fun f => do pure (f.offset, ← sizeOf f.type) : Field → Sem (Nat × Nat))).run P w = .ok (Fs.map fun f => (f.offset, P.cellsOf f.type)) w := by
 induction Fs with
 | nil => simp
 | cons F Fs ih =>
  rw [List.mapM_cons, Sem.run_bind, GY (h F (by simp)), Result.andThen_ok, Sem.run_bind, ih (fun G hG => h G (by simp [hG])), Result.andThen_ok]
  rfl
theorem DZ {t : Nat} {T : LT} (h : TyOk P t T) : P.cellsOf t = T.size := by
 obtain ⟨i, z, h1, h2, _⟩ := h.info
 simp [Program.cellsOf, h1, h2]
theorem zy {ty : Nat → LT} (hty : TysOk P ty) {t : TypeId} {parts : List (Nat × V)} {ps : Array (Nat × Value)} {v : V} (h : aH (ty t) ty parts = some v) (hp : PL μ parts ps.toList) :
  ∃ r, (Instr.build t ps).run P w = .ok r w ∧ VR μ v r := by
 unfold aH at h
 split at h
 ·rename_i fs hd
  have hT := hty.of_desc (t := t) (by rw [hd]; simp)
  obtain ⟨z, hz, hzv⟩ := jw (w := w) (μ := μ) hT
  have h1 := hT.desc
  rw [hd] at h1
  obtain ⟨Fs, h1, rfl, hF⟩ := h1
  split at h
  ·rename_i cs hf
   cases h
   have hm : (Fs.mapM (fun f => do pure (f.offset, ← sizeOf f.type) : Field → Sem (Nat × Nat))).run P w = .ok (Fs.toList.map fun f => (f.offset, P.cellsOf f.type)).toArray w := by
    rw [Array.mapM_eq_mapM_toList, Sem.run_map, CZ _ _ hF]
    rfl
   have hpl : ∀ i x, ak ty (Fs.toList.map fun f => (f.offset, f.type)) i = some x → (Fs.toList.map fun f => (f.offset, P.cellsOf f.type)).toArray[i]? = some x := by
    intro i x hx
    unfold ak at hx
    split at hx
    ·rename_i off t' hi
     split at hx
     ·cases hx
     ·rename_i hz'
      cases hx
      rw [List.getElem?_map] at hi
      cases hF' : Fs.toList[i]? with
      | none => rw [hF'] at hi; cases hi
      | some F =>
       rw [hF'] at hi
       simp only [Option.map_some, Option.some.injEq, Prod.mk.injEq] at hi
       obtain ⟨rfl, rfl⟩ := hi
       have hc := DZ (hty.of_size hz')
       rw [List.getElem?_toArray, List.getElem?_map, hF', ← hc]
       rfl
    ·cases hx
   obtain ⟨c', h3, h4, _⟩ := kJ hpl hp hzv hf
   refine ⟨.agg c', ?_, h4.agg⟩
   simp only [Instr.build, Sem.run_bind, hz, Result.andThen_ok, run_underlying h1, hm, h3, Sem.run_pure]
  ·cases h
 ·rename_i n e hd
  have hT := hty.of_desc (t := t) (by rw [hd]; simp)
  obtain ⟨z, hz, hzv⟩ := jw (w := w) (μ := μ) hT
  have h1 := hT.desc
  rw [hd] at h1
  split at h
  ·cases h
  ·rename_i hz'
   split at h
   ·rename_i cs hf
    cases h
    obtain ⟨c', h3, h4, _⟩ := kJ (fun i x hx => hx) hp hzv hf
    refine ⟨.agg c', ?_, h4.agg⟩
    simp only [Instr.build, Sem.run_bind, hz, Result.andThen_ok, run_underlying h1, aS (hty.of_size hz') w, h3, Sem.run_pure]
   ·cases h
 ·cases h
theorem D9 {ty : Nat → LT} (hty : TysOk P ty) {t rt : TypeId} {x v : V} {u : Value} (h : lenV (ty t) x = some v) (hx : VR μ x u) :
  ∃ r, (Builtin.len_ #[t] rt #[u]).run P w = .ok r w ∧ VR μ v r := by
 unfold lenV at h
 split at h
 ·rename_i s hd
  have h1 := (hty.of_desc (t := t) (by rw [hd]; simp)).desc
  rw [hd] at h1
  obtain ⟨b, rfl, rfl⟩ := hx.str_inv
  cases h
  refine ⟨.int .i64 b.size, by simp [Builtin.len_, run_underlying h1, goInt], ?_⟩
  have : b.data.toList.length = b.size := by simp
  rw [this]; exact .int _ _
 ·rename_i e p n hd
  have h1 := (hty.of_desc (t := t) (by rw [hd]; simp)).desc
  rw [hd] at h1
  have : ∃ q c, u = .slice q n c := by
   cases p with
   | none => obtain ⟨rfl, rfl⟩ := hx.slcN_inv; exact ⟨_, _, rfl⟩
   | some p =>
    obtain ⟨id, off⟩ := p
    obtain ⟨m, _, ⟨c, _, _, _, rfl⟩ | ⟨rfl, _, a, rfl⟩⟩ := hx.slc_inv <;> exact ⟨_, _, rfl⟩
  obtain ⟨q, c, rfl⟩ := this
  cases h
  exact ⟨_, by simp [Builtin.len_, run_underlying h1, goInt], .int _ _⟩
 ·cases h
theorem Df {ty : Nat → LT} (hty : TysOk P ty) {t rt : TypeId} {x v : V} {u : Value} (h : KI (ty t) x = some v) (hx : VR μ x u) :
  ∃ r, (Builtin.cap_ #[t] rt #[u]).run P w = .ok r w ∧ VR μ v r := by
 unfold KI at h
 split at h
 ·rename_i e hd
  have h1 := (hty.of_desc (t := t) (by rw [hd]; simp)).desc
  rw [hd] at h1
  obtain ⟨rfl, _⟩ := hx.slcN_inv
  cases h
  exact ⟨_, by simp [Builtin.cap_, run_underlying h1, goInt], .int _ _⟩
 ·cases h
end
section
variable {P : Program} {L : List Nat} {σ : St} {μ : Mu} {β : List Nat} {a : Act} {w : World}
def nC (n : Nat) (o : Op) : Prop := ∀ x ∈ o.operands, OpdOk n x
theorem VL.arr {vs : List V} {us : Array Value} (h : VL μ vs us.toList) : vs.length = us.size ∧ ∀ (i : Nat) (v : V) (u : Value), vs[i]? = some v → us[i]? = some u → VR μ v u :=
 ⟨by simpa using h.length, fun i v u h1 h2 => h.get i v u h1 (by simpa using h2)⟩
theorem CY {vs : List V} {us : Array Value} {v : V} (ts : Array TypeId) (rt : TypeId) (h : L6 vs = some v) (hv : VL μ vs us.toList) : ∃ r, (Builtin.min_ ts rt us).run P w = .ok r w ∧ VR μ v r := by
 unfold L6 at h
 split at h
 ·split at h
  ·rename_i hk; subst hk; cases h
   generalize hu : us.toList = ul at hv
   cases hv with
   | cons h1 t => cases t with
    | cons h2 t => cases t with
     | nil =>
      have := h1.int_inv; have := h2.int_inv; subst_vars
      exact ⟨_, by simp [Builtin.min_, hu, Builtin.min2], .int _ _⟩
  ·cases h
 ·cases h
theorem DU {vs : List V} {us : Array Value} {v : V} (ts : Array TypeId) (rt : TypeId) (h : LW vs = some v) (hv : VL μ vs us.toList) : ∃ r, (Builtin.max_ ts rt us).run P w = .ok r w ∧ VR μ v r := by
 unfold LW at h
 split at h
 ·split at h
  ·rename_i hk; subst hk; cases h
   generalize hu : us.toList = ul at hv
   cases hv with
   | cons h1 t => cases t with
    | cons h2 t => cases t with
     | nil =>
      have := h1.int_inv; have := h2.int_inv; subst_vars
      exact ⟨_, by simp [Builtin.max_, hu, Builtin.max2], .int _ _⟩
  ·cases h
 ·cases h
theorem DC {C : Ctx} (hty : TysOk P C.ty) (hs : Sim L σ μ β a w) (o : Oper) (ho : nC a.tmps.size o.op) {r : R} (h : sG C σ o.op = some r) :
  ∃ u, (execOp a.eval o).run P w = .ok (.value u) w ∧ RR L a.tmps.size μ β r u := by
 obtain ⟨dst, op, type, pos, after, guard⟩ := o
 simp only at ho h
 unfold sG at h
 split at h
 case h_1 x => exact ⟨_, by simp [execOp], fE hs (ho x (by simp [Op.operands])) h⟩
 case h_2 x => exact ⟨_, by simp [execOp], fE hs (ho x (by simp [Op.operands])) h⟩
 case h_3 c x y =>
  split at h
  ·rename_i b vx vy h1 h2 h3
   cases h
   have hc := (aN hs (ho c (by simp [Op.operands])) h1).bool_inv
   exact ⟨_, by simp [execOp, hc, asBool], AV b (aN hs (ho x (by simp [Op.operands])) h2) (aN hs (ho y (by simp [Op.operands])) h3)⟩
  ·cases h
 case h_4 t x =>
  split at h
  ·rename_i r' h1
   split at h
   ·rename_i p h2
    split at h
    ·rename_i v h3
     cases h
     unfold loadAt at h3
     split at h3
     ·cases h3
     ·rename_i hz
      split at h3
      ·rename_i cells h4
       split at h3
       ·rename_i cs h5
        cases h3
        obtain ⟨b, base, hu, hc⟩ := pg hs (fE hs (ho x (by simp [Op.operands])) h1) h2 h4
        obtain ⟨u, h6, h7⟩ := oZ (hty.of_size hz) hc h5
        exact ⟨u, by simp [execOp, Instr.loadAt, hu, Instr.sureAddr, h6], h7⟩
       ·cases h3
      ·cases h3
    ·cases h
   ·cases h
  ·cases h
 case h_5 x =>
  split at h
  ·rename_i t c off h1
   cases h
   have hr := fE hs (ho x (by simp [Op.operands])) h1
   obtain ⟨h3, h4, b, hb, hu⟩ := hr
   exact ⟨_, by simp [execOp, hu], h3, h4, b, hb, rfl⟩
  ·rename_i p h1
   cases h
   have hr := fE hs (ho x (by simp [Op.operands])) h1
   obtain ⟨m, hm, hu⟩ := VR.ptr_inv hr
   exact ⟨_, by simp [execOp, hu], .ptr _ _ m hm⟩
  ·rename_i f az bs h1
   cases h
   have hr := fE hs (ho x (by simp [Op.operands])) h1
   obtain ⟨us, vs, hu, _⟩ := VR.fn_inv hr
   exact ⟨a.eval x, by simp [execOp, hu], hr⟩
  ·cases h
 case h_6 op t x y yt =>
  split at h
  ·rename_i vx vy h1 h2
   split at h
   ·rename_i v h3
    cases h
    obtain ⟨⟨u, h4, h5⟩, h6, h7⟩ := D5 (w := w) hty h3 (aN hs (ho x (by simp [Op.operands])) h1) (aN hs (ho y (by simp [Op.operands])) h2)
    exact ⟨u, by simp [execOp, AP h6 h7, h4], h5⟩
   ·split at h
    ·rename_i v h3
     cases h
     obtain ⟨⟨u, h4, h5⟩, h6⟩ := DV (w := w) hty h3 (aN hs (ho x (by simp [Op.operands])) h1) (aN hs (ho y (by simp [Op.operands])) h2)
     exact ⟨u, by simp [execOp, h6, h4], h5⟩
    ·cases h
  ·cases h
 case h_7 op t x =>
  split at h
  ·rename_i vx h1
   split at h
   ·rename_i v h3
    cases h
    obtain ⟨u, h4, h5⟩ := Hy (P := P) (w := w) h3 (aN hs (ho x (by simp [Op.operands])) h1)
    exact ⟨u, by simp [execOp, h4], h5⟩
   ·cases h
  ·cases h
 case h_8 s d x =>
  split at h
  ·rename_i vx h1
   split at h
   ·rename_i v h3
    cases h
    obtain ⟨u, h4, h5⟩ := BZ hty hs.heap h3 (aN hs (ho x (by simp [Op.operands])) h1)
    exact ⟨u, by simp [execOp, h4], h5⟩
   ·cases h
  ·cases h
 case h_9 t x f =>
  split at h
  ·rename_i r' h1
   obtain ⟨u, h4, h5⟩ := zl (w := w) hty h (fE hs (ho x (by simp [Op.operands])) h1)
   exact ⟨u, by simp [execOp, h4], h5⟩
  ·cases h
 case h_10 t x f =>
  split at h
  ·rename_i vx h1
   split at h
   ·rename_i v h3
    cases h
    obtain ⟨u, h4, h5⟩ := zI (w := w) hty h3 (aN hs (ho x (by simp [Op.operands])) h1)
    exact ⟨u, by simp [execOp, h4], h5⟩
   ·cases h
  ·cases h
 case h_11 t x i =>
  split at h
  ·rename_i r' vi h1 h2
   obtain ⟨u, h4, h5⟩ := zM (w := w) hty h (fE hs (ho x (by simp [Op.operands])) h1) (aN hs (ho i (by simp [Op.operands])) h2)
   exact ⟨u, by simp [execOp, h4], h5⟩
  ·cases h
 case h_12 t x i =>
  split at h
  ·rename_i vx vi h1 h2
   split at h
   ·rename_i v h3
    cases h
    obtain ⟨u, h4, h5⟩ := Ak (w := w) hty h3 (aN hs (ho x (by simp [Op.operands])) h1) (aN hs (ho i (by simp [Op.operands])) h2)
    exact ⟨u, by simp [execOp, h4], h5⟩
   ·cases h
  ·cases h
 case h_13 x i =>
  split at h
  ·rename_i vs h1
   split at h
   ·rename_i v h3
    cases h
    obtain ⟨us, hu, hl, hc⟩ := (aN hs (ho x (by simp [Op.operands])) h1).tup_inv
    have hi : i < us.size := by rw [← hl]; exact (List.getElem?_eq_some_iff.1 h3).1
    exact ⟨us[i], by simp [execOp, hu, Instr.extract, hi], hc i v _ h3 (by simp [hi])⟩
   ·cases h
  ·cases h
 case h_14 t x lo hi mx =>
  split at h
  ·rename_i vx h1
   split at h
   ·rename_i v h3
    cases h
    obtain ⟨u, h4, h5⟩ := y5 hty hs (fun y hy => ho y (by simp [Op.operands, hy])) (fun y hy => ho y (by simp [Op.operands, hy])) (fun y hy => ho y (by simp [Op.operands, hy])) h3 (aN hs (ho x (by simp [Op.operands])) h1)
    exact ⟨u, by simp [execOp, h4], h5⟩
   ·cases h
  ·cases h
 case h_15 f first cap =>
  split at h
  ·rename_i az bs h1 h2
   cases h
   have k1 := (kC hs (fun x hx => ho x (by simp [Op.operands]; exact .inl (by simpa using hx))) h1)
   have k2 := (kC hs (fun x hx => ho x (by simp [Op.operands]; exact .inr (by simpa using hx))) h2)
   rw [← Array.toList_map] at k1 k2
   exact ⟨_, by simp [execOp, Instr.makeFunc], .fn f az bs _ _ k1.arr.1 k1.arr.2 k2.arr.1 k2.arr.2⟩
  ·cases h
 case h_16 t parts =>
  split at h
  ·rename_i ps h1
   split at h
   ·rename_i v h2
    cases h
    have k1 := jy hs (fun x hx => ho x.2 (by simp only [Op.operands]; simp; exact ⟨x.1, by simpa using hx⟩)) h1
    obtain ⟨u, h4, h5⟩ := zy (w := w) (ps := parts.map fun (i, x) => (i, a.eval x)) hty h2 (by simpa using k1)
    exact ⟨u, by simp [execOp, h4], h5⟩
   ·cases h
  ·cases h
 case h_17 args ts =>
  split at h
  ·rename_i x t hx ht
   split at h
   ·rename_i vx h1
    split at h
    ·rename_i v h2
     cases h
     have ea : args = #[x] := Array.toList_inj.1 (by simpa using hx)
     have et : ts = #[t] := Array.toList_inj.1 (by simpa using ht)
     subst ea; subst et
     obtain ⟨u, h4, h5⟩ := D9 (w := w) (rt := type) hty h2 (aN hs (ho x (by simp [Op.operands, Call.operands])) h1)
     exact ⟨u, by simp [execOp, resolve, invoke, builtin, h4], h5⟩
    ·cases h
   ·cases h
  ·cases h
 case h_18 args ts =>
  split at h
  ·rename_i vs h1
   split at h
   ·rename_i v h2
    cases h
    have k1 := (kC hs (fun x hx => ho x (by simp [Op.operands, Call.operands]; simpa using hx)) h1)
    rw [← Array.toList_map] at k1
    obtain ⟨u, h4, h5⟩ := CY (P := P) (w := w) ts type h2 k1
    exact ⟨u, by simp [execOp, resolve, invoke, builtin, h4], h5⟩
   ·cases h
  ·cases h
 case h_19 args ts =>
  split at h
  ·rename_i vs h1
   split at h
   ·rename_i v h2
    cases h
    have k1 := (kC hs (fun x hx => ho x (by simp [Op.operands, Call.operands]; simpa using hx)) h1)
    rw [← Array.toList_map] at k1
    obtain ⟨u, h4, h5⟩ := DU (P := P) (w := w) ts type h2 k1
    exact ⟨u, by simp [execOp, resolve, invoke, builtin, h4], h5⟩
   ·cases h
  ·cases h
 case h_20 args ts =>
  split at h
  ·rename_i x t h0 h0'
   have ea : args = #[x] := Array.toList_inj.1 (by simpa using h0)
   have et : ts = #[t] := Array.toList_inj.1 (by simpa using h0')
   subst ea; subst et
   split at h
   ·rename_i a' h1
    split at h
    ·rename_i v h2
     cases h
     obtain ⟨u, h4, h5⟩ := Df (P := P) (w := w) (rt := type) hty h2 (aN hs (ho x (by simp [Op.operands, Call.operands])) h1)
     exact ⟨u, by simp [execOp, resolve, invoke, builtin, h4], h5⟩
    ·cases h
   ·cases h
  ·cases h
 case h_21 => cases h
end
def SameBlk (w w' : World) (b : Nat) : Prop := (∀ o, w'.cell? ⟨b, o, none⟩ = w.cell? ⟨b, o, none⟩) ∧ ∀ o, w'.frozen? ⟨b, o, none⟩ = w.frozen? ⟨b, o, none⟩
theorem SameBlk.of_heap {w w' : World} {b : Nat} (h : w'.heap[b]? = w.heap[b]?) : SameBlk w w' b :=
 ⟨fun o => by simp [World.cell?, h], fun o => by simp [World.frozen?, h]⟩
theorem SameBlk.alloc {w : World} {b : Nat} (o : Obj) (h : b < w.heap.size) : SameBlk w (w.alloc o) b :=
 ⟨fun i => World.cell?_alloc_lt _ _ _ h, fun i => World.frozen?_alloc_old _ _ _ (by simp; omega)⟩
theorem SameBlk.trans {w w' w'' : World} {b : Nat} (h : SameBlk w w' b) (k : SameBlk w' w'' b) : SameBlk w w'' b :=
 ⟨fun o => (k.1 o).trans (h.1 o), fun o => (k.2 o).trans (h.2 o)⟩
theorem EndB.same {w w' : World} {b : Nat} (h : EndB w b) (hs : SameBlk w w' b) : EndB w' b := fun k hk => by rw [hs.2]; exact h k (by rw [← hs.1]; exact hk)
theorem CellsAt.same {μ : Mu} {w w' : World} {b o : Nat} {cs : List V} (h : CellsAt μ w b o cs) (hs : SameBlk w w' b) : CellsAt μ w' b o cs :=
 fun j v hv => let ⟨u, h1, h2⟩ := h j v hv; ⟨u, by rw [hs.1]; exact h1, h2⟩
theorem CellsAt.le {μ μ' : Mu} {w : World} {b o : Nat} {cs : List V} (hp : μ.le μ') (h : CellsAt μ w b o cs) : CellsAt μ' w b o cs :=
 fun j v hv => let ⟨u, h1, h2⟩ := h j v hv; ⟨u, h1, VR.le hp h2⟩
theorem FreeAt.same {w w' : World} {b lo hi : Nat} (h : FreeAt w b lo hi) (hs : SameBlk w w' b) : FreeAt w' b lo hi :=
 fun o h1 h2 => let ⟨⟨u, h3⟩, h4⟩ := h o h1 h2; ⟨⟨u, by rw [hs.1]; exact h3⟩, by rw [hs.2]; exact h4⟩
theorem FreeAt.mono {w : World} {b lo hi lo' hi' : Nat} (h : FreeAt w b lo hi) (h1 : lo ≤ lo') (h2 : hi' ≤ hi) : FreeAt w b lo' hi' :=
 fun o h3 h4 => h o (by omega) (by omega)
theorem ObjOk.same {μ : Mu} {w w' : World} {m : Mp} {o : Ob} (h : ObjOk μ w m o) (hs : SameBlk w w' m.blk) (hz : w.heap.size ≤ w'.heap.size) : ObjOk μ w' m o := by
 cases o with
 | dead => trivial
 | mk own es cells =>
  obtain ⟨h1, h2, h3, h4, h5, h6⟩ := h
  exact ⟨h1, h2, h3, h4.same hs, by omega, fun ho => let ⟨b, c⟩ := h6 ho; ⟨b, c.same hs⟩⟩
theorem ObjOk.le {μ μ' : Mu} {w : World} {m : Mp} {o : Ob} (hp : μ.le μ') (h : ObjOk μ w m o) : ObjOk μ' w m o := by
 cases o with
 | dead => trivial
 | mk own es cells =>
  obtain ⟨h1, h2, h3, h4, h5, h6⟩ := h
  exact ⟨h1, h2, h3, CellsAt.le hp h4, h5, h6⟩
structure Wrote (w w' : World) (b o : Nat) (us : List Value) : Prop where
 size : w'.heap.size = w.heap.size
 os : w'.os = w.os
 tape : w'.tape = w.tape
 drawn : w'.drawn = w.drawn
 output : w'.output = w.output
 other : ∀ b', b' ≠ b → w'.heap[b']? = w.heap[b']?
 cell : ∀ j, w'.cell? ⟨b, j, none⟩ = if o ≤ j ∧ j < o + us.length then us[j - o]? else w.cell? ⟨b, j, none⟩
 frozen : ∀ j, w'.frozen? ⟨b, j, none⟩ = w.frozen? ⟨b, j, none⟩
theorem EndB.wrote {w w' : World} {b b' o : Nat} {us : List Value} (h : EndB w b) (hw : Wrote w w' b' o us) : EndB w' b := by
 by_cases e : b = b'
 ·subst e
  intro k hk
  rw [hw.frozen]
  refine h k ?_
  rw [hw.cell] at hk
  split at hk
  ·rename_i hj
   rw [List.getElem?_eq_getElem (by omega)] at hk
   cases hk
  ·exact hk
 ·exact h.same (.of_heap (hw.other _ e))
theorem xJ (w : World) (a : Addr) (v : Value) (b' : Nat) (h : b' ≠ a.block) : (w.setCell a v).heap[b']? = w.heap[b']? := by
 simp only [World.setCell]
 rw [Array.getElem?_modify, if_neg (fun e => h e.symm)]
theorem dQ {P : Program} (b : Nat) : ∀ (us : List Value) (o i : Nat) (w : World), (∀ u ∈ us, u.oneCell' = true) → FreeAt w b (o + i) (o + i + us.length) →
  ∃ w', (storeCells ⟨b, o, none⟩ us i).run P w = .ok () w' ∧ Wrote w w' b (o + i) us
 | [], o, i, w, _, _ => ⟨w, by simp [storeCells], rfl, rfl, rfl, rfl, rfl, fun _ _ => rfl, fun j => by simp; intro h1 h2; omega, fun _ => rfl⟩
 | u :: us, o, i, w, h1, hf => by
  obtain ⟨⟨x, hx⟩, hfz⟩ := hf (o + i) (Nat.le_refl _) (by simp)
  have hone := h1 u (by simp)
  have hf' : FreeAt (w.setCell ⟨b, o + i, none⟩ u) b (o + (i + 1)) (o + (i + 1) + us.length) := by
   intro j hj1 hj2
   obtain ⟨⟨y, hy⟩, hyz⟩ := hf j (by omega) (by simp; omega)
   refine ⟨⟨y, ?_⟩, by rw [World.frozen?_setCell]; exact hyz⟩
   rw [World.cell?_setCell_other _ _ _ _ (by simp; omega)]; exact hy
  obtain ⟨w', hr, hw⟩ := dQ (P := P) b us o (i + 1) (w.setCell ⟨b, o + i, none⟩ u) (fun v hv => h1 v (by simp [hv])) hf'
  refine ⟨w', ?_, ?_⟩
  ·rw [storeCells, Sem.run_bind, Addr.add_lit, run_store P w _ u _ hone, hx, hfz]
   simpa using hr
  ·refine ⟨by rw [hw.size, World.size_setCell], hw.os, hw.tape, hw.drawn, hw.output, fun b' hb => by rw [hw.other b' hb, xJ _ _ _ _ hb], fun j => ?_, fun j => by rw [hw.frozen, World.frozen?_setCell]⟩
   rw [hw.cell]
   by_cases hj : j = o + i
   ·subst hj
    rw [if_neg (by omega), if_pos (by simp)]
    rw [World.cell?_setCell_same _ _ _ hx]
    simp
   ·by_cases hj2 : o + (i + 1) ≤ j ∧ j < o + (i + 1) + us.length
    ·rw [if_pos hj2, if_pos (by simp; omega)]
     rw [show j - (o + i) = (j - (o + (i + 1))) + 1 by omega, List.getElem?_cons_succ]
    ·rw [if_neg hj2, if_neg (by simp; omega), World.cell?_setCell_other _ _ _ _ (by simp; omega)]
theorem Az {μ : Mu} {v : V} {u : Value} (h : aJ v = true) (hv : VR μ v u) : u.oneCell' = true := by
 cases hv <;> first | rfl | (simp [aJ] at h)
theorem VL.oneCell {μ : Mu} {vs : List V} {us : List Value} (h : VL μ vs us) (h1 : vs.all aJ = true) : ∀ u ∈ us, u.oneCell' = true := by
 induction h with
 | nil => simp
 | cons h t ih =>
  simp only [List.all_cons, Bool.and_eq_true] at h1
  intro u hu
  rcases List.mem_cons.1 hu with rfl | hu
  ·exact Az h1.1 h
  ·exact ih h1.2 u hu
theorem Wrote.cellsAt {μ : Mu} {w w' : World} {b base off : Nat} {cells xs : List V} {us : List Value} (hw : Wrote w w' b (base + off) us) (hx : VL μ xs us)
  (hc : CellsAt μ w b base cells) (hl : off + xs.length ≤ cells.length) : CellsAt μ w' b base (setRange cells off xs) := by
 intro j v hv
 rw [hw.cell]
 have hlen := hx.length
 unfold setRange at hv
 by_cases h1 : j < off
 ·rw [if_neg (by omega)]
  rw [List.append_assoc, List.getElem?_append_left (by simp; omega), List.getElem?_take_of_lt h1] at hv
  exact hc j v hv
 ·by_cases h2 : j < off + xs.length
  ·rw [if_pos (by omega)]
   rw [List.append_assoc, List.getElem?_append_right (by simp; omega), List.getElem?_append_left (by simp; omega)] at hv
   have e : min off cells.length = off := by omega
   simp only [List.length_take, e] at hv
   have hj : j - off < us.length := by omega
   refine ⟨us[j - off], by rw [show base + j - (base + off) = j - off by omega]; simp [hj], ?_⟩
   exact hx.get (j - off) v _ hv (by simp [hj])
  ·rw [if_neg (by omega)]
   rw [List.getElem?_append_right (by simp; omega)] at hv
   have e : min off cells.length = off := by omega
   simp only [List.length_append, List.length_take, e, List.getElem?_drop] at hv
   rw [show off + xs.length + (j - (off + xs.length)) = j by omega] at hv
   exact hc j v hv
theorem mV {cells xs : List V} {off : Nat} (h : off + xs.length ≤ cells.length) : (setRange cells off xs).length = cells.length := by
 unfold setRange; simp; omega
theorem Wrote.free {w w' : World} {b o lo hi : Nat} {us : List Value} (hw : Wrote w w' b o us) (h : FreeAt w b lo hi) : FreeAt w' b lo hi := by
 intro j h1 h2
 obtain ⟨⟨y, hy⟩, hz⟩ := h j h1 h2
 refine ⟨?_, by rw [hw.frozen]; exact hz⟩
 rw [hw.cell]
 split
 ·rename_i hj
  exact ⟨us[j - o]'(by omega), by simp⟩
 ·exact ⟨y, hy⟩
section
variable {H : List Ob} {μ : Mu} {w w' : World}
theorem HSim.world (h : HSim H μ w) (hs : ∀ (id : Nat) (o : Ob) (m : Mp), H[id]? = some o → μ id = some m → live o = true → SameBlk w w' m.blk) (hz : w.heap.size ≤ w'.heap.size) : HSim H μ w' := by
 refine ⟨h.dom, h.map, fun id o m h1 h2 => ?_, h.sep, fun id es cells m h1 h2 h3 => (h.plain id es cells m h1 h2 h3).same (hs id _ m h1 h2 rfl)⟩
 have := h.obj id o m h1 h2
 cases o with
 | dead => trivial
 | mk own es cells => exact this.same (hs id _ m h1 h2 rfl) hz
theorem iK {H : List Ob} {id : Nat} {o' : Ob} (i : Nat) (o : Ob) (hi : (H.set id o')[i]? = some o) : (i = id ∧ o = o' ∧ id < H.length) ∨ (i ≠ id ∧ H[i]? = some o) := by
 by_cases e : i = id
 ·subst e
  have hl : i < H.length := by
   have := (List.getElem?_eq_some_iff.1 hi).1
   simpa using this
  rw [List.getElem?_set_self hl] at hi
  cases hi
  exact .inl ⟨rfl, rfl, hl⟩
 ·rw [List.getElem?_set_ne (fun h => e h.symm)] at hi
  exact .inr ⟨e, hi⟩
theorem HSim.write (h : HSim H μ w) {id : Nat} {m : Mp} {es off : Nat} {cells xs : List V} {us : List Value} (ho : H[id]? = some (.mk true es cells)) (hm : μ id = some m)
  (hw : Wrote w w' m.blk (m.base + off) us) (hx : VL μ xs us) (hl : off + xs.length ≤ cells.length) : HSim (H.set id (.mk true es (setRange cells off xs))) μ w' := by
 have own : ∀ (i : Nat) (o : Ob), (H.set id (.mk true es (setRange cells off xs)))[i]? = some o → ∃ o', H[i]? = some o' ∧ owned o = owned o' ∧ live o = live o' := by
  intro i o hi
  rcases iK i o hi with ⟨rfl, rfl, _⟩ | ⟨_, h1⟩
  ·exact ⟨_, ho, rfl, rfl⟩
  ·exact ⟨o, h1, rfl, rfl⟩
 refine ⟨fun i m' h1 => by rw [List.length_set]; exact h.dom i m' h1, fun i o h1 h2 => ?_, fun i o m' h1 h2 => ?_, fun i i' o o' m' m'' hne h1 h2 h3 h4 h5 h6 => ?_, fun i es' cells' m' h1 h2 h3 => ?_⟩
 ·obtain ⟨o', g1, _, g3⟩ := own i o h1
  exact h.map i o' g1 (by rw [← g3]; exact h2)
 ·rcases iK i o h1 with ⟨rfl, rfl, _⟩ | ⟨e, h1⟩
  ·rw [hm] at h2; cases h2
   obtain ⟨g1, g2, g3, g4, g5, g6⟩ := h.obj i _ m ho hm
   obtain ⟨k2, k3⟩ := g6 rfl
   exact ⟨g1, g2, by rw [mV hl]; exact g3, hw.cellsAt hx g4 hl, by rw [hw.size]; exact g5, fun _ => ⟨k2, hw.free k3⟩⟩
  ·have := h.obj i o m' h1 h2
   cases o with
   | dead => trivial
   | mk own' es' cells' =>
    have hb : m'.blk ≠ m.blk := fun hb => h.sep id i _ _ m m' (fun h => e h.symm) ho h1 hm h2 rfl rfl hb.symm
    exact this.same (.of_heap (hw.other _ hb)) (Nat.le_of_eq hw.size.symm)
 ·obtain ⟨p, hp1, hp2, hp3⟩ := own i o h1
  obtain ⟨q, hq1, hq2, hq3⟩ := own i' o' h2
  exact h.sep i i' p q m' m'' hne hp1 hq1 h3 h4 (by rw [← hp2]; exact h5) (by rw [← hq3]; exact h6)
 ·rcases iK i _ h1 with ⟨rfl, e, _⟩ | ⟨_, h1⟩
  ·cases e
   exact (h.plain _ _ _ _ ho h2 h3).wrote hw
  ·exact (h.plain _ _ _ _ h1 h2 h3).wrote hw
theorem HSim.newAt (h : HSim H μ w) {H' : List Ob} {id : Nat} {m : Mp} {o : Ob} (hid : μ id = none) (hlen : H.length ≤ H'.length ∧ id < H'.length)
  (hH : ∀ (i : Nat) (o' : Ob), H'[i]? = some o' → (i = id ∧ o' = o) ∨ (i ≠ id ∧ H[i]? = some o')) (hs : ∀ (id : Nat) (o : Ob) (m : Mp), H[id]? = some o → μ id = some m → live o = true → SameBlk w w' m.blk) (hz : w.heap.size ≤ w'.heap.size)
  (ho : ObjOk (μ.add id m) w' m o) (hn : ∀ (id : Nat) (o : Ob) (m' : Mp), H[id]? = some o → μ id = some m' → live o = true → m'.blk ≠ m.blk)
  (hp : ∀ es cells, o = .mk true es cells → es ≠ 1 → EndB w' m.blk) : HSim H' (μ.add id m) w' := by
 have key : ∀ (i : Nat) (o' : Ob) (m' : Mp), H'[i]? = some o' → μ.add id m i = some m' → (i ≠ id ∧ H[i]? = some o' ∧ μ i = some m') ∨ (i = id ∧ o' = o ∧ m' = m) := by
  intro i o' m' h1 h2
  rcases hH i o' h1 with ⟨rfl, rfl⟩ | ⟨e, h3⟩
  ·rw [Mu.add_self] at h2; cases h2; exact .inr ⟨rfl, rfl, rfl⟩
  ·rw [Mu.add_ne _ _ e] at h2; exact .inl ⟨e, h3, h2⟩
 refine ⟨fun i m' h1 => ?_, fun i o' h1 h2 => ?_, fun i o' m' h1 h2 => ?_, fun i i' o1 o2 m1 m2 hne h1 h2 h3 h4 h5 h6 => ?_, fun i es' cells' m' h1 h2 h3 => ?_⟩
 ·by_cases e : i = id
  ·omega
  ·rw [Mu.add_ne _ _ e] at h1
   have := h.dom i m' h1
   omega
 ·rcases hH i o' h1 with ⟨rfl, rfl⟩ | ⟨e, h3⟩
  ·exact ⟨m, Mu.add_self _ _ _⟩
  ·rw [Mu.add_ne _ _ e]; exact h.map i o' h3 h2
 ·rcases key i o' m' h1 h2 with ⟨_, h3, h4⟩ | ⟨_, rfl, rfl⟩
  ·have := ObjOk.le (Mu.le_add m hid) (h.obj i o' m' h3 h4)
   cases o' with
   | dead => trivial
   | mk own es cells => exact this.same (hs i _ m' h3 h4 rfl) hz
  ·exact ho
 ·rcases key i o1 m1 h1 h3 with ⟨_, g1, g2⟩ | ⟨e1, rfl, rfl⟩ <;> rcases key i' o2 m2 h2 h4 with ⟨_, g3, g4⟩ | ⟨e2, rfl, rfl⟩
  ·exact h.sep i i' o1 o2 m1 m2 hne g1 g3 g2 g4 h5 h6
  ·exact hn i o1 m1 g1 g2 (by cases o1 with | dead => cases h5 | mk own es cells => rfl)
  ·exact fun e => hn i' o2 m2 g3 g4 h6 e.symm
  ·omega
 ·rcases key i _ m' h1 h2 with ⟨_, g1, g2⟩ | ⟨_, e, rfl⟩
  ·exact (h.plain _ _ _ _ g1 g2 h3).same (hs _ _ _ g1 g2 rfl)
  ·exact hp _ _ e.symm h3
theorem iF {H : List Ob} {o : Ob} (i : Nat) (o' : Ob) (h1 : (H ++ [o])[i]? = some o') : (i = H.length ∧ o' = o) ∨ (i ≠ H.length ∧ H[i]? = some o') := by
 by_cases hi : i < H.length
 ·rw [List.getElem?_append_left hi] at h1
  exact .inr ⟨by omega, h1⟩
 ·have hi' : i < (H ++ [o]).length := (List.getElem?_eq_some_iff.1 h1).1
  simp at hi'
  have e : i = H.length := by omega
  subst e
  rw [List.getElem?_append_right (Nat.le_refl _)] at h1
  simp at h1
  exact .inl ⟨rfl, h1.symm⟩
theorem HSim.fresh (h : HSim H μ w) : μ H.length = none := by
 cases e : μ H.length with
 | none => rfl
 | some m => exact absurd (h.dom _ _ e) (Nat.lt_irrefl _)
theorem HSim.kill (h : HSim H μ w) (id : Nat) : HSim (H.set id .dead) μ w := by
 have key : ∀ (i : Nat) (o : Ob), (H.set id .dead)[i]? = some o → o = .dead ∨ H[i]? = some o := by
  intro i o hi
  rcases iK i o hi with ⟨_, rfl, _⟩ | ⟨_, h1⟩
  ·exact .inl rfl
  ·exact .inr h1
 refine ⟨fun i m' h1 => by rw [List.length_set]; exact h.dom i m' h1, fun i o h1 h2 => ?_, fun i o m h1 h2 => ?_, fun i i' o o' m m' hne h1 h2 h3 h4 h5 h6 => ?_, fun i es cells m h1 h2 h3 => ?_⟩
 ·rcases key i o h1 with rfl | h3
  ·cases h2
  ·exact h.map i o h3 h2
 ·rcases key i o h1 with rfl | h3
  ·trivial
  ·exact h.obj i o m h3 h2
 ·rcases key i o h1 with rfl | g1
  ·cases h5
  ·rcases key i' o' h2 with rfl | g2
   ·cases h6
   ·exact h.sep i i' o o' m m' hne g1 g2 h3 h4 h5 h6
 ·rcases key i _ h1 with e | g1
  ·cases e
  ·exact h.plain _ _ _ _ g1 h2 h3
end
end Go.Lite
end
section
namespace Go.Lite
open Go
variable [Draws]
def R.noBox : R → Prop
 | .box _ _ => False
 | _ => True
theorem lX (r : Nat → R) (d : Nat) (x : R) : upd r d x d = x := by simp [upd]
theorem upd_ne {r : Nat → R} {d i : Nat} (x : R) (h : i ≠ d) : upd r d x i = r i := by simp [upd, h]
theorem BI (a : Act) (d : Nat) (u : Value) (hd : d < a.tmps.size) (t : Nat) : (a.put (some d) u).tmps.getD t undef = if t = d then u else a.tmps.getD t undef := by
 simp only [Act.put]
 by_cases h : t = d
 ·subst h; simp [hd]
 ·simp [h, Array.getElem?_setIfInBounds_ne (Ne.symm h)]
theorem gm (a : Act) (d : Option Nat) (u : Value) : (a.put d u).tmps.size = a.tmps.size := by
 cases d <;> simp [Act.put]
section
variable {P : Program} {L : List Nat} {σ σ' : St} {μ : Mu} {β : List Nat} {a : Act} {w w' : World}
theorem Sim.put (hs : Sim L σ μ β a w) {d : Option Nat} (hd : ∀ x, d = some x → x < a.tmps.size) {r : R} {u : Value} (hr : RR L a.tmps.size μ β r u) (hb : r.noBox) :
  Sim L (σ.put d r) μ β (a.put d u) w := by
 cases d with
 | none => exact hs
 | some d =>
  have hd := hd d rfl
  have nb : ∀ t c cells, upd σ.regs d r t = .box c cells → t ≠ d ∧ σ.regs t = .box c cells := by
   intro t c cells h
   by_cases e : t = d
   ·subst e; rw [lX] at h; subst h; exact hb.elim
   ·rw [upd_ne _ e] at h; exact ⟨e, h⟩
  refine ⟨hs.heap, hs.lenβ, fun t ht => ?_, fun t c cells b ht h1 h2 => ?_, hs.sepβ, hs.injβ, hs.ltβ, fun t t' c cells cells' ht ht' h1 h2 => ?_, fun t c cells ht h1 => ?_, by simpa [Act.put] using hs.defs⟩
  ·rw [gm] at ht ⊢
   rw [BI a d u hd t]
   by_cases e : t = d
   ·subst e; simp only [St.put, lX, if_true]; exact hr
   ·simp only [St.put, if_neg e]; rw [upd_ne _ e]; exact hs.reg t ht
  ·rw [gm] at ht
   exact hs.box t c cells b ht (nb t c cells h1).2 h2
  ·rw [gm] at ht ht'
   exact hs.uniq t t' c cells cells' ht ht' (nb t c cells h1).2 (nb t' c cells' h2).2
  ·rw [gm] at ht
   exact hs.loc t c cells ht (nb t c cells h1).2
theorem Leads.put (hs : Sim L σ μ β a w) {d : Option Nat} (hd : ∀ x, d = some x → x < a.tmps.size) {r : R} {u : Value} (hr : RR L a.tmps.size μ β r u) (hb : r.noBox) :
  Leads L σ μ β a w (σ.put d r) (a.put d u) w := by
 refine ⟨μ, β, hs.put hd hr hb, μ.le_refl, List.prefix_refl _, gm _ _ _, ?_, ?_⟩
 ·cases d <;> exact Grow.refl _ _
 ·cases d <;> exact Lives.refl _ _ _
theorem Leads.trans {σ'' : St} {a' a'' : Act} {w'' : World} (h : Leads L σ μ β a w σ' a' w')
  (k : ∀ μ' β', Sim L σ' μ' β' a' w' → Leads L σ' μ' β' a' w' σ'' a'' w'') : Leads L σ μ β a w σ'' a'' w'' := by
 obtain ⟨μ', β', h1, h2, h3, h4, h5, h6⟩ := h
 obtain ⟨μ'', β'', k1, k2, k3, k4, k5, k6⟩ := k μ' β' h1
 exact ⟨μ'', β'', k1, Mu.le_trans h2 k2, h3.trans k3, k4.trans h4, h5.trans k5, Lives.trans h6 k6 h5.size⟩
theorem Sim.mem (hs : Sim L σ μ β a w) {H' : List Ob} {μ' : Mu} (hh : HSim H' μ' w') (hp : μ.le μ') (hb : ∀ b, b ∈ β → SameBlk w w' b) (hz : w.heap.size ≤ w'.heap.size)
  {N : Nat → Prop} (hl : LivesB N σ.heap μ w H' μ') : Sim L { σ with heap := H' } μ' β a w' := by
 refine ⟨hh, hs.lenβ, fun t ht => RR.le hp (List.prefix_refl _) (hs.reg t ht), fun t c cells b ht h1 h2 => ?_, fun id o m b h1 h2 h3 h4 => ?_, hs.injβ, fun b hb' => Nat.lt_of_lt_of_le (hs.ltβ b hb') hz, hs.uniq, hs.loc, hs.defs⟩
 ·obtain ⟨k1, k2⟩ := hs.box t c cells b ht h1 h2
  have := hb b (List.mem_of_getElem? h2)
  exact ⟨CellsAt.le hp (k1.same this), k2.same this⟩
 ·rcases hl.1 m.blk ⟨id, o, m, h1, h3, h2, rfl⟩ with ⟨id', o', m', g1, g2, g3, g4⟩ | g
  ·rw [← g4]; exact hs.sepβ id' o' m' b g1 g3 g2 h4
  ·have := hs.ltβ b h4
   omega
theorem own_notβ (hs : Sim L σ μ β a w) {b : Nat} (hb : b ∈ β) : ¬ ∃ (id : Nat) (o : Ob) (m : Mp), σ.heap[id]? = some o ∧ owned o = true ∧ μ id = some m ∧ m.blk = b := by
 rintro ⟨id, o, m, h1, h2, h3, h4⟩
 exact hs.sepβ id o m b h1 h3 (by cases o with | dead => cases h2 | mk own es cells => rfl) hb h4
structure HGoesB (N : Nat → Prop) (H : List Ob) (μ : Mu) (w : World) (H' : List Ob) (μ' : Mu) (w' : World) : Prop where
 sim : HSim H' μ' w'
 mle : μ.le μ'
 grow : Grow (OwnB H μ []) w (OwnB H' μ' []) w'
 lives : LivesB N H μ w H' μ'
abbrev HGoes (H : List Ob) (μ : Mu) (w : World) (H' : List Ob) (μ' : Mu) (w' : World) : Prop := HGoesB (fun id => H.length ≤ id) H μ w H' μ' w'
theorem HGoesB.le {N : Nat → Prop} {H H' : List Ob} {μ' : Mu} (hs : HSim H μ w) (h : HGoesB N H μ w H' μ' w') : μ.le μ' := h.mle
theorem Leads.of_heap' {N : Nat → Prop} (hs : Sim L σ μ β a w) {H' : List Ob} {μ' : Mu} (h : HGoesB N σ.heap μ w H' μ' w') :
  Sim L { σ with heap := H' } μ' β a w' ∧ Grow (OwnB σ.heap μ β) w (OwnB H' μ' β) w' := by
 have hb : ∀ b, b ∈ β → SameBlk w w' b := fun b hb => .of_heap (h.grow.same b (hs.ltβ b hb) (by
  rintro (h1 | h1)
  ·exact own_notβ hs hb h1
  ·cases h1))
 have hs' := hs.mem h.sim (h.le hs.heap) hb h.grow.size h.lives
 refine ⟨hs', ⟨h.grow.size, fun b hb1 hb2 => h.grow.same b hb1 (fun h1 => hb2 ?_), fun b hb1 => ?_, h.grow.os, h.grow.tape, h.grow.output, h.grow.drawn⟩⟩
 ·rcases h1 with h1 | h1
  ·exact .inl h1
  ·cases h1
 ·rcases hb1 with h1 | h1
  ·rcases h.grow.own b (.inl h1) with h2 | h2
   ·rcases h2 with h2 | h2
    ·exact .inl (.inl h2)
    ·cases h2
   ·exact .inr h2
  ·exact .inl (.inr h1)
theorem Leads.of_heap {N : Nat → Prop} (hs : Sim L σ μ β a w) {H' : List Ob} {μ' : Mu} (h : HGoesB N σ.heap μ w H' μ' w') : LeadsB N L σ μ β a w { σ with heap := H' } a w' :=
 let ⟨h1, h2⟩ := Leads.of_heap' hs h
 ⟨μ', β, h1, h.le hs.heap, List.prefix_refl _, rfl, h2, h.lives⟩
theorem put_heap (σ : St) (d : Option Nat) (r : R) : (σ.put d r).heap = σ.heap := by cases d <;> rfl
theorem Leads.heap_put {N : Nat → Prop} (hs : Sim L σ μ β a w) {H' : List Ob} {μ' : Mu} (h : HGoesB N σ.heap μ w H' μ' w') {d : Option Nat} (hd : ∀ x, d = some x → x < a.tmps.size) {v : V} {u : Value} (hv : VR μ' v u) :
  LeadsB N L σ μ β a w (({ σ with heap := H' } : St).put d (.val v)) (a.put d u) w' := by
 obtain ⟨h1, h2⟩ := Leads.of_heap' hs h
 refine ⟨μ', β, h1.put hd (r := .val v) hv trivial, h.le hs.heap, List.prefix_refl _, gm _ _ _, ?_, ?_⟩
 ·rw [put_heap]; exact h2
 ·rw [put_heap]; exact h.lives
theorem Sim.wbox (hs : Sim L σ μ β a w) {t c off b : Nat} {cells xs : List V} {us : List Value} (ht : t < a.tmps.size) (hq : σ.regs t = .box c cells) (hb : β[c]? = some b)
  (hx : VL μ xs us) (hl : off + xs.length ≤ cells.length) (hw : Wrote w w' b (0 + off) us) :
  Leads L σ μ β a w { σ with regs := upd σ.regs t (.box c (setRange cells off xs)) } a w' := by
 have hmem : b ∈ β := List.mem_of_getElem? hb
 have other : ∀ b', b' ≠ b → SameBlk w w' b' := fun b' h => .of_heap (hw.other b' h)
 have hh : HSim σ.heap μ w' := hs.heap.world (fun id o m h1 h2 h3 => other _ (hs.sepβ id o m b h1 h2 h3 hmem)) (Nat.le_of_eq hw.size.symm)
 have nb : ∀ t' c' cells', upd σ.regs t (.box c (setRange cells off xs)) t' = .box c' cells' → (t' = t ∧ c' = c ∧ cells' = setRange cells off xs) ∨ (t' ≠ t ∧ σ.regs t' = .box c' cells') := by
  intro t' c' cells' h
  by_cases e : t' = t
  ·subst e; rw [lX] at h; cases h; exact .inl ⟨rfl, rfl, rfl⟩
  ·rw [upd_ne _ e] at h; exact .inr ⟨e, h⟩
 have hbox := hs.box t c cells b ht hq hb
 refine ⟨μ, β, ⟨hh, hs.lenβ, fun t' ht' => ?_, fun t' c' cells' b' ht' h1 h2 => ?_, hs.sepβ, hs.injβ, fun b' h => by rw [hw.size]; exact hs.ltβ b' h, fun t1 t2 c' c1 c2 h1 h2 h3 h4 => ?_, fun t' c' cells' ht' h1 => ?_, hs.defs⟩,
  μ.le_refl, List.prefix_refl _, rfl, ⟨Nat.le_of_eq hw.size.symm, fun b' h1 h2 => hw.other b' (fun e => h2 (.inr (by rw [e]; exact hmem))), fun b' h => .inl h, hw.os, hw.tape, hw.output, fun _ => Nat.le_of_eq hw.drawn.symm⟩, Lives.refl _ _ _⟩
 ·have := hs.reg t' ht'
  by_cases e : t' = t
  ·subst e
   rw [hq] at this
   simp only [lX]
   exact this
  ·simp only [upd_ne _ e]; exact this
 ·rcases nb t' c' cells' h1 with ⟨rfl, rfl, rfl⟩ | ⟨e, h3⟩
  ·rw [hb] at h2; cases h2
   exact ⟨hw.cellsAt hx hbox.1 hl, by rw [mV hl]; exact hw.free hbox.2⟩
  ·have hb' : b' ≠ b := by
    intro e2
    subst e2
    have := hs.injβ c' c b' h2 hb
    subst this
    exact e (hs.uniq t' t c' cells' cells ht' ht h3 hq)
   obtain ⟨k1, k2⟩ := hs.box t' c' cells' b' ht' h3 h2
   exact ⟨k1.same (other _ hb'), k2.same (other _ hb')⟩
 ·rcases nb t1 c' c1 h3 with ⟨rfl, rfl, rfl⟩ | ⟨e1, g1⟩ <;> rcases nb t2 c' c2 h4 with ⟨rfl, e3, rfl⟩ | ⟨e2, g2⟩
  ·rfl
  ·exact absurd (hs.uniq t2 t1 c' c2 cells h2 h1 g2 hq) e2
  ·subst e3; exact absurd (hs.uniq t1 t2 c' c1 cells h1 h2 g1 hq) e1
  ·exact hs.uniq t1 t2 c' c1 c2 h1 h2 g1 g2
 ·rcases nb t' c' cells' h1 with ⟨rfl, rfl, rfl⟩ | ⟨e, h3⟩
  ·exact hs.loc t' c' cells ht' hq
  ·exact hs.loc t' c' cells' ht' h3
theorem HGoes.write {H : List Ob} (h : HSim H μ w) {id : Nat} {m : Mp} {es off : Nat} {cells xs : List V} {us : List Value} (ho : H[id]? = some (.mk true es cells)) (hm : μ id = some m)
  (hw : Wrote w w' m.blk (m.base + off) us) (hx : VL μ xs us) (hl : off + xs.length ≤ cells.length) : HGoes H μ w (H.set id (.mk true es (setRange cells off xs))) μ w' := by
 have own : ∀ (i : Nat) (o : Ob), (H.set id (.mk true es (setRange cells off xs)))[i]? = some o → ∃ o', H[i]? = some o' ∧ owned o = owned o' ∧ live o = live o' := by
  intro i o hi
  rcases iK i o hi with ⟨rfl, rfl, _⟩ | ⟨_, h1⟩
  ·exact ⟨_, ho, rfl, rfl⟩
  ·exact ⟨o, h1, rfl, rfl⟩
 refine ⟨h.write ho hm hw hx hl, μ.le_refl, ⟨Nat.le_of_eq hw.size.symm, fun b h1 h2 => hw.other b (fun e => h2 (.inl ⟨id, _, m, ho, rfl, hm, e.symm⟩)), fun b hb => ?_, hw.os, hw.tape, hw.output, fun _ => Nat.le_of_eq hw.drawn.symm⟩, fun b hb => ?_, by simp, fun _ _ h => .inl h⟩
 ·rcases hb with ⟨i, o, m', h1, h2, h3, h4⟩ | hb
  ·obtain ⟨o', g1, g2, _⟩ := own i o h1
   exact .inl (.inl ⟨i, o', m', g1, by rw [← g2]; exact h2, h3, h4⟩)
  ·cases hb
 ·obtain ⟨i, o, m', h1, h2, h3, h4⟩ := hb
  obtain ⟨o', g1, _, g2⟩ := own i o h1
  exact .inl ⟨i, o', m', g1, by rw [← g2]; exact h2, h3, h4⟩
theorem kX {H : List Ob} (h : HSim H μ w) : ∀ (id : Nat) (o : Ob) (m : Mp), H[id]? = some o → μ id = some m → live o = true → m.blk < w.heap.size := by
 intro id o m h1 h2 h3
 cases o with
 | dead => cases h3
 | mk own es cells => exact (h.obj id _ m h1 h2).2.2.2.2.1
theorem yx (h : ∀ b, b < w.heap.size → w'.heap[b]? = w.heap[b]?) {cells : List V} {us : Array Value} {es : Nat} {ty : TypeId} {fz : Nat × Nat} (hc : VL μ cells (us.toList.take cells.length)) (hle : cells.length ≤ us.size)
  (hz : w'.heap = w.heap.push (.cells us ty fz)) (hfz : us.size ≤ fz.1 ∨ fz.2 ≤ fz.1) : ObjOk μ w' ⟨w.heap.size, 0, cells.length, es, us.size, true⟩ (.mk true es cells) := by
 have new : w'.heap[w.heap.size]? = some (.cells us ty fz) := by rw [hz]; simp
 have hcell : ∀ j, w'.cell? ⟨w.heap.size, j, none⟩ = us[j]? := fun j => by simp [World.cell?, new]
 have hfro : ∀ j, j < us.size → w'.frozen? ⟨w.heap.size, j, none⟩ = false := fun j hj => by
  obtain ⟨lo, hi⟩ := fz
  simp only [World.frozen?, new]
  simp only at hfz
  simp; omega
 refine ⟨rfl, rfl, rfl, fun j v hv => ?_, by simp only; rw [hz]; simp, fun _ => ⟨by simpa using hle, fun j h1 h2 => ?_⟩⟩
 ·have hj : j < cells.length := (List.getElem?_eq_some_iff.1 hv).1
  have hj' : j < us.size := by omega
  refine ⟨us[j], by simp only [Nat.zero_add]; rw [hcell]; simp [hj'], hc.get j v _ hv ?_⟩
  rw [List.getElem?_take_of_lt hj]
  simp [hj']
 ·exact ⟨⟨us[j]'h2, by rw [hcell]; simp⟩, hfro j h2⟩
theorem HGoes.new {H : List Ob} (h : HSim H μ w) {cells : List V} {us : Array Value} {es : Nat} {ty : TypeId} {fz : Nat × Nat} (hc : VL μ cells (us.toList.take cells.length)) (hle : cells.length ≤ us.size)
  (hz : w'.heap = w.heap.push (.cells us ty fz)) (hfz : us.size ≤ fz.1 ∨ fz.2 ≤ fz.1) (ho : w'.os = w.os) (ht : w'.tape = w.tape) (hou : w'.output = w.output) (hdr : w.drawn ≤ w'.drawn := by first | exact Nat.le_refl _ | exact Nat.le_succ _) (hpl : es ≠ 1 → fz.2 ≤ fz.1 := by first | exact fun _ => Nat.le_refl _ | exact fun h => absurd rfl h) :
  HGoes H μ w (H ++ [.mk true es cells]) (μ.add H.length ⟨w.heap.size, 0, cells.length, es, us.size, true⟩) w' := by
 have hsz : w'.heap.size = w.heap.size + 1 := by rw [hz]; simp
 have old : ∀ b, b < w.heap.size → w'.heap[b]? = w.heap[b]? := fun b hb => by
  rw [hz, Array.getElem?_push, if_neg (by omega)]
 have lt := kX h
 have key : ∀ (i : Nat) (o' : Ob) (m' : Mp), (H ++ [.mk true es cells])[i]? = some o' → μ.add H.length ⟨w.heap.size, 0, cells.length, es, us.size, true⟩ i = some m' → (H[i]? = some o' ∧ μ i = some m') ∨ (m'.blk = w.heap.size) := by
  intro i o' m' h1 h2
  rcases iF i o' h1 with ⟨rfl, rfl⟩ | ⟨e, h3⟩
  ·rw [Mu.add_self] at h2; cases h2; exact .inr rfl
  ·rw [Mu.add_ne _ _ e] at h2; exact .inl ⟨h3, h2⟩
 refine ⟨h.newAt h.fresh ⟨by simp, by simp⟩ iF (fun id o m h1 h2 h3 => .of_heap (old _ (lt id o m h1 h2 h3))) (by omega)
   (yx old (VL.le (Mu.le_add _ h.fresh) hc) hle hz hfz) (fun id o m h1 h2 h3 => Nat.ne_of_lt (lt id o m h1 h2 h3)) (fun es' cells' he h1 => by
    cases he
    intro k _
    have := hpl h1
    simp only [World.frozen?, hz, Array.getElem?_push_size]
    simp; omega),
  Mu.le_add _ h.fresh, ⟨by omega, fun b h1 _ => old b h1, fun b hb => ?_, ho, ht, hou, fun _ => hdr⟩, fun b hb => ?_, by simp, fun id m' h2 => ?_⟩
 ·rcases hb with ⟨i, o, m', h1, h2, h3, h4⟩ | hb
  ·rcases key i o m' h1 h3 with ⟨g1, g2⟩ | g
   ·exact .inl (.inl ⟨i, o, m', g1, h2, g2, h4⟩)
   ·exact .inr (by omega)
  ·cases hb
 ·obtain ⟨i, o, m', h1, h2, h3, h4⟩ := hb
  rcases key i o m' h1 h3 with ⟨g1, g2⟩ | g
  ·exact .inl ⟨i, o, m', g1, h2, g2, h4⟩
  ·exact .inr (by omega)
 ·by_cases e : id = H.length
  ·exact .inr (by omega)
  ·rw [Mu.add_ne _ _ e] at h2; exact .inl h2
theorem HGoesB.fill {H : List Ob} (h : HSim H μ w) {id : Nat} (hid : μ id = none) (hlt : id < H.length) {cells : List V} {us : Array Value} {es : Nat} {ty : TypeId} {fz : Nat × Nat} (hc : VL μ cells (us.toList.take cells.length)) (hle : cells.length ≤ us.size)
  (hz : w'.heap = w.heap.push (.cells us ty fz)) (hfz : us.size ≤ fz.1 ∨ fz.2 ≤ fz.1) (ho : w'.os = w.os) (ht : w'.tape = w.tape) (hou : w'.output = w.output) (hdr : w.drawn ≤ w'.drawn := by first | exact Nat.le_refl _ | exact Nat.le_succ _) (hpl : es ≠ 1 → fz.2 ≤ fz.1 := by first | exact fun _ => Nat.le_refl _ | exact fun h => absurd rfl h) :
  HGoesB (fun j => j = id) H μ w (H.set id (.mk true es cells)) (μ.add id ⟨w.heap.size, 0, cells.length, es, us.size, true⟩) w' := by
 have hsz : w'.heap.size = w.heap.size + 1 := by rw [hz]; simp
 have old : ∀ b, b < w.heap.size → w'.heap[b]? = w.heap[b]? := fun b hb => by
  rw [hz, Array.getElem?_push, if_neg (by omega)]
 have lt := kX h
 have hcs : ∀ (i : Nat) (o' : Ob), (H.set id (.mk true es cells))[i]? = some o' → (i = id ∧ o' = .mk true es cells) ∨ (i ≠ id ∧ H[i]? = some o') := by
  intro i o' h1
  rcases iK i o' h1 with ⟨e, e2, _⟩ | ⟨e, h3⟩
  ·exact .inl ⟨e, e2⟩
  ·exact .inr ⟨e, h3⟩
 have key : ∀ (i : Nat) (o' : Ob) (m' : Mp), (H.set id (.mk true es cells))[i]? = some o' → μ.add id ⟨w.heap.size, 0, cells.length, es, us.size, true⟩ i = some m' → (H[i]? = some o' ∧ μ i = some m') ∨ (m'.blk = w.heap.size) := by
  intro i o' m' h1 h2
  rcases hcs i o' h1 with ⟨rfl, rfl⟩ | ⟨e, h3⟩
  ·rw [Mu.add_self] at h2; cases h2; exact .inr rfl
  ·rw [Mu.add_ne _ _ e] at h2; exact .inl ⟨h3, h2⟩
 refine ⟨h.newAt hid ⟨by simp, by simpa using hlt⟩ hcs (fun id o m h1 h2 h3 => .of_heap (old _ (lt id o m h1 h2 h3))) (by omega)
   (yx old (VL.le (Mu.le_add _ hid) hc) hle hz hfz) (fun id o m h1 h2 h3 => Nat.ne_of_lt (lt id o m h1 h2 h3)) (fun es' cells' he h1 => by
    cases he
    intro k _
    have := hpl h1
    simp only [World.frozen?, hz, Array.getElem?_push_size]
    simp; omega),
  Mu.le_add _ hid, ⟨by omega, fun b h1 _ => old b h1, fun b hb => ?_, ho, ht, hou, fun _ => hdr⟩, fun b hb => ?_, by simp, fun j m' h2 => ?_⟩
 ·rcases hb with ⟨i, o, m', h1, h2, h3, h4⟩ | hb
  ·rcases key i o m' h1 h3 with ⟨g1, g2⟩ | g
   ·exact .inl (.inl ⟨i, o, m', g1, h2, g2, h4⟩)
   ·exact .inr (by omega)
  ·cases hb
 ·obtain ⟨i, o, m', h1, h2, h3, h4⟩ := hb
  rcases key i o m' h1 h3 with ⟨g1, g2⟩ | g
  ·exact .inl ⟨i, o, m', g1, h2, g2, h4⟩
  ·exact .inr (by omega)
 ·by_cases e : j = id
  ·exact .inr e
  ·rw [Mu.add_ne _ _ e] at h2; exact .inl h2
theorem HGoes.refl {H : List Ob} (h : HSim H μ w) : HGoes H μ w H μ w := ⟨h, μ.le_refl, Grow.refl _ _, Lives.refl _ _ _⟩
theorem HGoes.trans {H H' H'' : List Ob} {μ' μ'' : Mu} {w'' : World} (h : HGoes H μ w H' μ' w') (k : HGoes H' μ' w' H'' μ'' w'') : HGoes H μ w H'' μ'' w'' :=
 ⟨k.sim, Mu.le_trans h.mle k.mle, h.grow.trans k.grow, Lives.trans h.lives k.lives h.grow.size⟩
theorem HGoes.kill {H : List Ob} (h : HSim H μ w) (id : Nat) : HGoes H μ w (H.set id .dead) μ w := by
 have key : ∀ (i : Nat) (o : Ob), (H.set id .dead)[i]? = some o → o = .dead ∨ H[i]? = some o := by
  intro i o hi
  rcases iK i o hi with ⟨_, rfl, _⟩ | ⟨_, h1⟩
  ·exact .inl rfl
  ·exact .inr h1
 refine ⟨h.kill id, μ.le_refl, ⟨Nat.le_refl _, fun _ _ _ => rfl, fun b hb => ?_, rfl, rfl, rfl, fun _ => Nat.le_refl _⟩, fun b hb => ?_, by simp, fun _ _ h => .inl h⟩
 ·rcases hb with ⟨i, o, m', h1, h2, h3, h4⟩ | hb
  ·rcases key i o h1 with rfl | g
   ·cases h2
   ·exact .inl (.inl ⟨i, o, m', g, h2, h3, h4⟩)
  ·cases hb
 ·obtain ⟨i, o, m', h1, h2, h3, h4⟩ := hb
  rcases key i o h1 with rfl | g
  ·cases h2
  ·exact .inl ⟨i, o, m', g, h2, h3, h4⟩
theorem HGoes.world {H : List Ob} (h : HSim H μ w) (hh : w'.heap = w.heap) (ho : w'.os = w.os) (ht : w'.tape = w.tape) (hou : w'.output = w.output) (hdr : w.drawn ≤ w'.drawn := by first | exact Nat.le_refl _ | exact Nat.le_succ _) : HGoes H μ w H μ w' :=
 ⟨h.world (fun _ _ _ _ _ _ => .of_heap (by rw [hh])) (by rw [hh]; exact Nat.le_refl _), μ.le_refl, ⟨by rw [hh]; exact Nat.le_refl _, fun b _ _ => by rw [hh], fun b hb => .inl hb, ho, ht, hou, fun _ => hdr⟩, Lives.refl _ _ _⟩
theorem HGoes.regrow {H : List Ob} (h : HSim H μ w) {id : Nat} {m m' : Mp} {es o' : Nat} {cells cells' : List V} {us : List Value} (ho : H[id]? = some (.mk true es cells)) (hm : μ id = some m)
  (hw : Wrote w w' m.blk o' us) (hmb : m'.blk = m.blk) (hnew : ObjOk (μ.add H.length m') w' m' (.mk true es cells')) : HGoes H μ w (H.set id .dead ++ [.mk true es cells']) (μ.add H.length m') w' := by
 have hid : id < H.length := (List.getElem?_eq_some_iff.1 ho).1
 have key : ∀ (i : Nat) (o : Ob), (H.set id .dead)[i]? = some o → o = .dead ∨ (i ≠ id ∧ H[i]? = some o) := by
  intro i o hi
  rcases iK i o hi with ⟨_, rfl, _⟩ | ⟨e, h1⟩
  ·exact .inl rfl
  ·exact .inr ⟨e, h1⟩
 have sep : ∀ (i : Nat) (o : Ob) (m2 : Mp), (H.set id .dead)[i]? = some o → μ i = some m2 → live o = true → m2.blk ≠ m.blk := by
  intro i o m2 h1 h2 h3
  rcases key i o h1 with rfl | ⟨e, h4⟩
  ·cases h3
  ·exact fun e2 => h.sep id i _ o m m2 (fun e3 => e e3.symm) ho h4 hm h2 rfl h3 e2.symm
 have hk := h.kill id
 have hkl : (H.set id Ob.dead).length = H.length := by simp
 have hpc : ∀ (i : Nat) (o1 : Ob), (H.set id .dead ++ [.mk true es cells'])[i]? = some o1 → (i = H.length ∧ o1 = .mk true es cells') ∨ (i ≠ H.length ∧ (H.set id .dead)[i]? = some o1) := by
  intro i o1 h1
  have := iF i o1 h1
  rwa [hkl] at this
 refine ⟨hk.newAt h.fresh ⟨by simp, by simp⟩ hpc (fun i o m2 h1 h2 h3 => .of_heap (hw.other _ (sep i o m2 h1 h2 h3))) (Nat.le_of_eq hw.size.symm) hnew (fun i o m2 h1 h2 h3 => by rw [hmb]; exact sep i o m2 h1 h2 h3) (fun es' cells' he h1 => by cases he; rw [hmb]; exact (h.plain _ _ _ _ ho hm h1).wrote hw),
  Mu.le_add _ h.fresh, ⟨Nat.le_of_eq hw.size.symm, fun b h1 h2 => hw.other b (fun e => h2 (.inl ⟨id, _, m, ho, rfl, hm, e.symm⟩)), fun b hb => ?_, hw.os, hw.tape, hw.output, fun _ => Nat.le_of_eq hw.drawn.symm⟩, fun b hb => ?_, by simp, fun id' m2 h2 => ?_⟩
 ·rcases hb with ⟨i, o, m2, h1, h2, h3, h4⟩ | hb
  ·rcases hpc i o h1 with ⟨rfl, rfl⟩ | ⟨e, g1⟩
   ·rw [Mu.add_self] at h3; cases h3
    exact .inl (.inl ⟨id, _, m, ho, rfl, hm, by rw [← hmb]; exact h4⟩)
   ·rw [Mu.add_ne _ _ e] at h3
    rcases key i o g1 with rfl | ⟨_, g3⟩
    ·cases h2
    ·exact .inl (.inl ⟨i, o, m2, g3, h2, h3, h4⟩)
  ·cases hb
 ·obtain ⟨i, o, m2, h1, h2, h3, h4⟩ := hb
  rcases hpc i o h1 with ⟨rfl, rfl⟩ | ⟨e, g1⟩
  ·rw [Mu.add_self] at h3; cases h3
   exact .inl ⟨id, _, m, ho, rfl, hm, by rw [← hmb]; exact h4⟩
  ·rw [Mu.add_ne _ _ e] at h3
   rcases key i o g1 with rfl | ⟨_, g3⟩
   ·cases h2
   ·exact .inl ⟨i, o, m2, g3, h2, h3, h4⟩
 ·by_cases e : id' = H.length
  ·exact .inr (by omega)
  ·rw [Mu.add_ne _ _ e] at h2; exact .inl h2
end
section
variable {P : Program} {L : List Nat} {σ σ' : St} {μ : Mu} {β : List Nat} {a : Act} {w w' : World}
theorem nV {H : List Ob} (hs : HSim H μ w) {p : Option (Nat × Nat)} {n k es : Nat} {xs : List V} {u : Value} (h : aQ H p (k * es) = some xs) (hu : VR μ (.slc p n) u) :
  ∃ us, (Builtin.firstCells es k u).run P w = .ok us w ∧ VL μ xs us.toList ∧ ∃ q c, u = .slice q n c := by
 obtain ⟨hl, q, c, rfl, hn, hq⟩ := gp hs h hu
 rcases hq with ⟨rfl, hk⟩ | ⟨ad, rfl, hk | ⟨b, o, rfl, hc⟩⟩
 ·have : xs = [] := List.length_eq_zero_iff.1 (by omega)
  subst this
  exact ⟨#[], by simp [Builtin.firstCells], .nil, _, _, rfl⟩
 ·have : xs = [] := List.length_eq_zero_iff.1 (by omega)
  subst this
  refine ⟨#[], ?_, .nil, _, _, rfl⟩
  simp [Builtin.firstCells, hk, loadCells, loadCellsFrom]
 ·obtain ⟨us, h1, h2, h3⟩ := gB (P := P) hc
  rw [hl] at h1
  exact ⟨us, by simp [Builtin.firstCells, h1], VL.of_get (by simpa using h2.symm) (fun i v u hv hu => h3 i v u hv (by simpa using hu)), _, _, rfl⟩
theorem nX (b : ByteArray) (k es : Nat) : ∃ us, (Builtin.firstCells es k (.string b)).run P w = .ok us w ∧ VL μ ((b.data.toList.take k).map fun c => .int .u8 c.toNat) us.toList := by
 refine ⟨(b.extract 0 k).data.map fun b => .int .u8 b.toNat, by simp [Builtin.firstCells], ?_⟩
 have e : ((b.extract 0 k).data.map fun b => Value.int .u8 b.toNat).toList = (b.data.toList.take k).map fun b => Value.int .u8 b.toNat := by
  rw [Array.toList_map, qi]; simp
 rw [e]
 refine VL.of_get (by simp) fun i v u hv hu => ?_
 rw [List.getElem?_map] at hv hu
 cases hx : (b.data.toList.take k)[i]? with
 | none => rw [hx] at hv; cases hv
 | some x => rw [hx] at hv hu; cases hv; cases hu; exact .int _ _
theorem qB {ty : Nat → LT} (hty : TysOk P ty) {t : Nat} (h1 : ∀ k, (ty t).desc ≠ .int k) (h2 : (ty t).desc ≠ .other) : ∃ d, P.underlying t = some d ∧ ∀ k, d ≠ .int k := by
 have h := (hty.of_desc (t := t) h2).desc
 cases hd : (ty t).desc <;> rw [hd] at h <;> simp only [yT] at h
 case int k => exact absurd hd (h1 k)
 case other => exact absurd hd h2
 case ptr => obtain ⟨e, h⟩ := h; exact ⟨_, h, by simp⟩
 case func => obtain ⟨a, b, c, h⟩ := h; exact ⟨_, h, by simp⟩
 case iface => obtain ⟨ms, h⟩ := h; exact ⟨_, h, by simp⟩
 case struct => obtain ⟨Fs, h, _⟩ := h; exact ⟨_, h, by simp⟩
 all_goals exact ⟨_, h, by simp⟩
theorem jD {t tx rt e : TypeId} {E : LT} {d : TypeDesc} (h1 : P.underlying t = some (.slice e)) (hE : TyOk P e E) (h2 : P.underlying tx = some d) (h2' : ∀ k, d ≠ .int k)
  {base : Option Addr} {sLen sCap n : Nat} {x : Value} {us : Array Value} (hn : (Builtin.lenOf x).run P w = .ok n w) (hf : (Builtin.firstCells E.size n x).run P w = .ok us w) (hfit : sLen + n ≤ sCap)
  (hst : match base with | none => w' = w | some ad => (storeCells (ad.add (sLen * E.size)) us.toList).run P w = .ok () w') :
  (Builtin.append_ #[t, tx] rt #[.slice base sLen sCap, x]).run P w = .ok (.slice base (sLen + n) sCap) w' := by
 have hsz := aS hE w
 have hz : (match (generalizing := false) d with | .int _ => true | _ => false) = false := by cases d <;> first | rfl | exact absurd rfl (h2' _)
 simp only [Builtin.append_]
 simp only [List.getElem?_toArray, List.getElem?_cons_zero, List.getElem?_cons_succ, Sem.run_bind, run_underlying h1, Result.andThen_ok, hsz, run_underlying h2, hz, Sem.run_pure, Bool.false_eq_true, if_false, hn, Sem.run_ite, hfit, if_true,
  Bool.not_false]
 cases base with
 | none => subst hst; simp [hf]
 | some ad => simp only [] at hst; simp [hf, hst]
theorem vG (need cap : Nat) (h : cap < need) : Builtin.nextslicecap need cap ≤ 4 * need + 4000 := by
 unfold Builtin.nextslicecap
 split
 ·omega
 ·split
  ·omega
  ·simp only [Builtin.growBy]
   repeat' split
   all_goals omega
theorem qJ {t tx rt e : TypeId} {E : LT} {d : TypeDesc} (h1 : P.underlying t = some (.slice e)) (hE : TyOk P e E) (h2 : P.underlying tx = some d) (h2' : ∀ k, d ≠ .int k)
  {base : Option Addr} {sLen sCap n : Nat} {x : Value} {us os : Array Value} (hn : (Builtin.lenOf x).run P w = .ok n w)
  (hfx : (Builtin.firstCells E.size n x).run P w.drew = .ok us w.drew)
  (hfo : (Builtin.firstCells E.size sLen (.slice base sLen sCap)).run P w.drew = .ok os w.drew) (hfit : ¬ sLen + n ≤ sCap)
  (hb : (sLen + n) * E.bytes ≤ aB) (hbb : 0 < E.bytes ∧ E.bytes ≤ 1000000) :
  ∃ c rest, sLen + n ≤ c ∧ rest.size = (c - (sLen + n)) * E.zero.length ∧
   (Builtin.append_ #[t, tx] rt #[.slice base sLen sCap, x]).run P w = .ok (.slice (some ⟨w.heap.size, 0, none⟩) (sLen + n) c) (w.drew.alloc (.cells (os ++ us ++ rest) e)) := by
 obtain ⟨i, z, i1, i2, i3, i4, i5⟩ := hE.info
 have hsz := aS hE w
 have hz : (match (generalizing := false) d with | .int _ => true | _ => false) = false := by cases d <;> first | rfl | exact absurd rfl (h2' _)
 have hti : ∀ w, (typeInfo e).run P w = .ok i w := fun w => by simp [typeInfo, i1]
 have hzv : ∀ w, (zeroValue e).run P w = .ok z w := fun w => by simp [zeroValue, hti, i4]
 have hcap : sLen + n ≤ Question.cut (.appendCap (sLen + n) sCap e) (w.tape w.drawn (.appendCap (sLen + n) sCap e)) := by simp only [Question.cut]; omega
 generalize hc : Question.cut (.appendCap (sLen + n) sCap e) (w.tape w.drawn (.appendCap (sLen + n) sCap e)) = c at hcap
 have hch : (choose (.appendCap (sLen + n) sCap e)).run P w = .ok c w.drew := by simp [Question.forced, hc]
 have hnb : ¬ (Builtin.nextslicecap (sLen + n) sCap * i.bytes > 2 ^ 48) := by
  have h3 := vG (sLen + n) sCap (by omega)
  have h4 : Builtin.nextslicecap (sLen + n) sCap * i.bytes ≤ (4 * (sLen + n) + 4000) * i.bytes := Nat.mul_le_mul_right _ h3
  rw [Nat.add_mul, Nat.mul_assoc] at h4
  rw [← i3] at hb hbb
  unfold aB at hb
  have : 4000 * i.bytes ≤ 4000000000 := by omega
  omega
 have hb0 : i.bytes ≠ 0 := by omega
 refine ⟨c, Builtin.zeroCells z.cells (c - (sLen + n)), hcap, ?_, ?_⟩
 ·rw [i5]; simp [Builtin.zeroCells]
 ·simp only [Builtin.append_]
  simp only [List.getElem?_toArray, List.getElem?_cons_zero, List.getElem?_cons_succ, Sem.run_bind, run_underlying h1, Result.andThen_ok, hsz, run_underlying h2, hz, Sem.run_pure, Bool.false_eq_true, if_false, hn, Sem.run_ite, hfit,
   Bool.not_false, if_true, hti, hb0, or_self, and_false, hnb, hch, run_askRoom, hfo, hfx, hzv]
  simp [newRow]
theorem sU (q : Option Addr) (n c : Nat) (w : World) : (Builtin.lenOf (.slice q n c)).run P w = .ok n w := by simp [Builtin.lenOf]
theorem qh (b : ByteArray) (w : World) : (Builtin.lenOf (.string b)).run P w = .ok b.size w := by simp [Builtin.lenOf]
theorem ny {H : List Ob} (hs : HSim H μ w) {E : LT} {x : V} {u : Value} {xs : List V} {m : Nat} (h : aI E H x = some (xs, m)) (hu : VR μ x u) :
  (∀ w, (Builtin.lenOf u).run P w = .ok m w) ∧ xs.length = m * E.size ∧ ∃ us, (Builtin.firstCells E.size m u).run P w = .ok us w ∧ VL μ xs us.toList := by
 unfold aI at h
 split at h
 ·rename_i q m'
  split at h
  ·rename_i xs' hc
   cases h
   obtain ⟨us, h1, h2, q', c, rfl⟩ := nV (P := P) hs hc hu
   obtain ⟨hl, _⟩ := gp hs hc hu
   exact ⟨fun w => sU _ _ _ _, hl, us, h1, h2⟩
  ·cases h
 ·split at h
  ·rename_i h1
   cases h
   obtain ⟨b, rfl, rfl⟩ := hu.str_inv
   obtain ⟨us, h2, h3⟩ := nX (P := P) (w := w) (μ := μ) b b.data.toList.length E.size
   refine ⟨fun w => by rw [qh]; simp, by simp [h1], us, h2, ?_⟩
   rw [List.take_of_length_le (Nat.le_refl _)] at h3
   exact h3
  ·cases h
 ·cases h
theorem HSim.drew {H : List Ob} (h : HSim H μ w) : HSim H μ w.drew := h.world (fun _ _ _ _ _ _ => .of_heap rfl) (Nat.le_refl _)
theorem zA {ty : Nat → LT} (hty : TysOk P ty) {H : List Ob} (hs : HSim H μ w) {t tx rt e : TypeId} (he : (ty t).desc = .slice e) (hx1 : ∀ k, (ty tx).desc ≠ .int k) (hx2 : (ty tx).desc ≠ .other)
  {s x v : V} {us ux : Value} {H' : List Ob} (h : aT (ty e) H s x = some (v, H')) (hu : VR μ s us) (hv : VR μ x ux) :
  ∃ r w' μ', (Builtin.append_ #[t, tx] rt #[us, ux]).run P w = .ok r w' ∧ HGoes H μ w H' μ' w' ∧ VR μ' v r := by
 unfold aT at h
 split at h
 case isFalse => cases h
 rename_i hg
 simp only [fU, decide_eq_true_eq] at hg
 obtain ⟨g1, g2, g3, g4⟩ := hg
 have hE := hty.of_size (t := e) (by omega)
 have h1 := (hty.of_desc (t := t) (by rw [he]; simp)).desc
 rw [he] at h1
 obtain ⟨d, h2, h2'⟩ := qB hty hx1 hx2
 split at h
 ·cases h
 rename_i xs m hn
 obtain ⟨hl, hxl, uxs, hf, hvl⟩ := ny (P := P) hs hn hv
 obtain ⟨_, _, uxs', hf', hvl'⟩ := ny (P := P) hs.drew hn hv
 split at h
 ·rename_i hm0
  subst hm0
  have hx0 : xs = [] := List.length_eq_zero_iff.1 (by simpa using hxl)
  subst hx0
  have hu0 : uxs.toList = [] := List.length_eq_zero_iff.1 (by have := hvl.length; simp at this; simpa using this.symm)
  split at h
  ·cases h
   obtain ⟨rfl, _⟩ := hu.slcN_inv
   refine ⟨_, w, μ, jD (base := none) (us := uxs) h1 hE h2 h2' (hl w) hf (Nat.le_refl _) rfl, .refl hs, .slcN⟩
  ·rename_i p n
   cases h
   obtain ⟨id, off⟩ := p
   obtain ⟨mm, hmm, ⟨c, hc, hr, hre, rfl⟩ | ⟨rfl, hre, ad, rfl⟩⟩ := hu.slc_inv
   ·exact ⟨_, w, μ, jD (us := uxs) h1 hE h2 h2' (hl w) hf hc (by simp [hu0, storeCells]), .refl hs, hu⟩
   ·exact ⟨_, w, μ, jD (us := uxs) h1 hE h2 h2' (hl w) hf (Nat.le_refl _) (by simp [hu0, storeCells]), .refl hs, hu⟩
  ·cases h
 ·rename_i hm0
  split at h
  case isFalse => cases h
  rename_i hone
  split at h
  ·-- nil
   split at h
   case isFalse => cases h
   rename_i hb
   cases h
   obtain ⟨rfl, _⟩ := hu.slcN_inv
   obtain ⟨c, rest, hc, hrest, hrun⟩ := qJ (rt := rt) (sLen := 0) (sCap := 0) (base := none) (os := #[]) h1 hE h2 h2' (hl w) hf' (by simp [Builtin.firstCells]) (by omega) (by simpa using hb) ⟨g2, g3⟩
   have hlen := hvl'.length
   simp only [Array.length_toList] at hlen
   have hgo := HGoes.new (es := (ty e).size) (w' := w.drew.alloc (.cells (#[] ++ uxs' ++ rest) e)) (fz := (0, 0)) hs (cells := xs) (us := #[] ++ uxs' ++ rest) (ty := e) (by
     have : ((#[] ++ uxs' ++ rest).toList.take xs.length) = uxs'.toList := by
      simp only [Array.toList_append, List.nil_append]
      rw [List.take_append_of_le_length (by simp; omega), List.take_of_length_le (by simp; omega)]
     rw [this]; exact hvl') (by simp; omega) rfl (.inr (Nat.le_refl _)) rfl rfl rfl
   refine ⟨_, _, _, hrun, hgo, ?_⟩
   have hsz : (#[] ++ uxs' ++ rest).size = c * (ty e).size := by
    have e2 : c * (ty e).size = m * (ty e).size + (c - m) * (ty e).size := by rw [← Nat.add_mul]; congr 1; omega
    simp only [Array.size_append, hrest, g4]
    simp; omega
   have := VR.slc (μ := μ.add H.length ⟨w.heap.size, 0, xs.length, (ty e).size, (#[] ++ uxs' ++ rest).size, true⟩) H.length 0 m c ⟨w.heap.size, 0, xs.length, (ty e).size, (#[] ++ uxs' ++ rest).size, true⟩
    (Mu.add_self _ _ _) (by omega) (fun _ => by simp only [hsz]; omega)
    (by simp only [Nat.zero_add, hxl]; exact Nat.mul_le_mul_right _ (by omega))
   simpa using this
  ·rename_i id off n
   split at h
   case h_2 => cases h
   rename_i es cells ho
   split at h
   case isFalse => cases h
   rename_i hes
   subst hes
   obtain ⟨mm, hmm, hcase⟩ := hu.slc_inv
   obtain ⟨o1, o2, o3, o4, o5, o6⟩ := hs.obj id _ mm ho hmm
   obtain ⟨o6, o7⟩ := o6 rfl
   split at h
   ·-- in place
    rename_i hfit
    cases h
    rcases hcase with ⟨c, hc, hr, hre, rfl⟩ | ⟨rfl, hre, ad, rfl⟩
    ·have hr := hr o1.symm
     have hnc : n + m ≤ c := by
      have : (n + m) * (ty e).size ≤ c * (ty e).size := by rw [o2] at hfit ⊢; omega
      exact Nat.le_of_mul_le_mul_right this g1
     have e3 : (n + m) * (ty e).size = n * (ty e).size + m * (ty e).size := Nat.add_mul _ _ _
     have hul := hvl.length
     obtain ⟨w', hst, hw⟩ := dQ (P := P) mm.blk uxs.toList (mm.base + off + n * (ty e).size) 0 w (hvl.oneCell hone) (o7.mono (by omega) (by omega))
     refine ⟨_, w', μ, jD (us := uxs) h1 hE h2 h2' (hl w) hf hnc (by simpa [Addr.add_lit] using hst), HGoes.write hs ho hmm ?_ hvl (by omega), ?_⟩
     ·rw [Nat.add_zero, Nat.add_assoc] at hw; exact hw
     ·exact .slc id off (n + m) c mm hmm hnc (fun _ => hr) hre
    ·have : (0 + m) * (ty e).size = 0 := by omega
     rcases Nat.mul_eq_zero.1 this with h5 | h5 <;> omega
   ·rename_i hnfit
    split at h
    case isFalse => cases h
    rename_i htail
    cases h
    obtain ⟨htail, hb⟩ := htail
    have e3 : (n + m) * (ty e).size = n * (ty e).size + m * (ty e).size := Nat.add_mul _ _ _
    have hdrop : (cells.drop off).length = n * (ty e).size := by
     simp only [List.length_drop]
     rcases htail with h5 | ⟨rfl, h5⟩ <;> omega
    by_cases hcap : ∃ c, us = .slice (some ⟨mm.blk, mm.base + off, none⟩) n c ∧ n + m ≤ c ∧ mm.base + off + c * mm.es ≤ mm.size ∧ mm.len ≤ off + c * mm.es
    ·obtain ⟨c, rfl, hnc, hr, hre⟩ := hcap
     have e4 : (n + m) * (ty e).size ≤ c * (ty e).size := Nat.mul_le_mul_right _ hnc
     have hul := hvl.length
     rw [← o2] at hr hre
     obtain ⟨w', hst, hw⟩ := dQ (P := P) mm.blk uxs.toList (mm.base + off + n * (ty e).size) 0 w (hvl.oneCell hone) (o7.mono (by omega) (by omega))
     rw [Nat.add_zero] at hw
     refine ⟨_, w', μ.add H.length ⟨mm.blk, mm.base + off, (n + m) * (ty e).size, (ty e).size, mm.size, true⟩, jD (us := uxs) h1 hE h2 h2' (hl w) hf hnc (by simpa [Addr.add_lit] using hst),
      HGoes.regrow hs ho hmm hw rfl ⟨rfl, rfl, by simp only [List.length_append, hdrop, hxl]; omega, ?_, by rw [hw.size]; exact o5, fun _ => ⟨by simp only; omega, (hw.free o7).mono (by simp) (Nat.le_refl _)⟩⟩, ?_⟩
     ·intro j v hv
      simp only
      rw [hw.cell]
      by_cases hj : j < n * (ty e).size
      ·rw [if_neg (by omega)]
       rw [List.getElem?_append_left (by omega), List.getElem?_drop] at hv
       obtain ⟨u, k1, k2⟩ := o4 _ _ hv
       exact ⟨u, by rw [← k1, Nat.add_assoc], VR.le (Mu.le_add _ hs.fresh) k2⟩
      ·rw [List.getElem?_append_right (by omega), hdrop] at hv
       have hj2 : j - n * (ty e).size < xs.length := (List.getElem?_eq_some_iff.1 hv).1
       rw [if_pos (by omega)]
       have hj3 : j - n * (ty e).size < uxs.toList.length := by omega
       exact ⟨uxs.toList[j - n * (ty e).size], by rw [show mm.base + off + j - (mm.base + off + n * (ty e).size) = j - n * (ty e).size by omega]; simp [hj3], VR.le (Mu.le_add _ hs.fresh) (hvl.get _ _ _ hv (by simp [hj3]))⟩
     ·have := VR.slc (μ := μ.add H.length ⟨mm.blk, mm.base + off, (n + m) * (ty e).size, (ty e).size, mm.size, true⟩) H.length 0 (n + m) c ⟨mm.blk, mm.base + off, (n + m) * (ty e).size, (ty e).size, mm.size, true⟩
       (Mu.add_self _ _ _) hnc (fun _ => by simpa using hr) (by simpa using e4)
      simpa using this
    ·have hgrow : ∃ base c os, us = .slice base n c ∧ ¬ n + m ≤ c ∧ (Builtin.firstCells (ty e).size n us).run P w.drew = .ok os w.drew ∧ VL μ (cells.drop off) os.toList := by
      rcases hcase with ⟨c, hc, hr, hre, rfl⟩ | ⟨rfl, hre, ad, rfl⟩
      ·have hnn : ¬ n + m ≤ c := fun h5 => hcap ⟨c, rfl, h5, hr o1.symm, hre⟩
       have hca : CellsAt μ w.drew mm.blk (mm.base + off) (cells.drop off) := by
        intro j v hv
        rw [List.getElem?_drop] at hv
        obtain ⟨u, k1, k2⟩ := o4 _ _ hv
        exact ⟨u, by rw [World.cell?_drew, ← k1, Nat.add_assoc], k2⟩
       obtain ⟨os, k1, k2, k3⟩ := gB (P := P) hca
       rw [hdrop] at k1
       exact ⟨_, c, os, rfl, hnn, by simp [Builtin.firstCells, k1], VL.of_get (by simpa using k2.symm) (fun i v u hv hu => k3 i v u hv (by simpa using hu))⟩
      ·have : cells.drop off = [] := List.length_eq_zero_iff.1 (by omega)
       rw [this]
       exact ⟨_, 0, #[], rfl, by omega, by simp [Builtin.firstCells, loadCells, loadCellsFrom], .nil⟩
     obtain ⟨base, c0, os, rfl, hnn, hfo, hvo⟩ := hgrow
     obtain ⟨c, rest, hc, hrest, hrun⟩ := qJ (rt := rt) h1 hE h2 h2' (hl w) hf' hfo hnn hb ⟨g2, g3⟩
     have hk := HGoes.kill hs id
     have l1 := hvo.length
     have l2 := hvl'.length
     simp only [Array.length_toList] at l1 l2
     have hsz : (os ++ uxs' ++ rest).size = c * (ty e).size := by
      have e2 : c * (ty e).size = (n + m) * (ty e).size + (c - (n + m)) * (ty e).size := by rw [← Nat.add_mul]; congr 1; omega
      simp only [Array.size_append, hrest, g4]
      omega
     have hgo := HGoes.new (es := (ty e).size) (w' := w.drew.alloc (.cells (os ++ uxs' ++ rest) e)) (fz := (0, 0)) hk.sim (cells := cells.drop off ++ xs) (us := os ++ uxs' ++ rest) (ty := e) (by
       have : ((os ++ uxs' ++ rest).toList.take (cells.drop off ++ xs).length) = os.toList ++ uxs'.toList := by
        simp only [Array.toList_append]
        rw [List.take_append_of_le_length (by simp only [List.length_append, Array.length_toList]; omega), List.take_of_length_le (by simp only [List.length_append, Array.length_toList]; omega)]
       rw [this]; exact hvo.append hvl') (by simp only [List.length_append, Array.size_append]; omega) rfl (.inr (Nat.le_refl _)) rfl rfl rfl
     refine ⟨_, _, _, hrun, hk.trans hgo, ?_⟩
     have := VR.slc (μ := μ.add H.length ⟨w.heap.size, 0, (cells.drop off ++ xs).length, (ty e).size, (os ++ uxs' ++ rest).size, true⟩) H.length 0 (n + m) c ⟨w.heap.size, 0, (cells.drop off ++ xs).length, (ty e).size, (os ++ uxs' ++ rest).size, true⟩
      (Mu.add_self _ _ _) hc (fun _ => by simp only [hsz]; omega)
      (by simp only [Nat.zero_add, List.length_append, hdrop, hxl]; rw [← e3]; exact Nat.mul_le_mul_right _ hc)
     simpa using this
  ·cases h
end
end Go.Lite
end
