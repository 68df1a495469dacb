/- Part 12 of the proof of a law: the interpreter, its soundness, and what functions of the program compute over it. Conditions: none but those that each theorem names. -/
import Derived.Test.YtglbhjmpemiijaaGreatDoorA11
import Derived.Test.YtglbhjmpemiijaaGreatDoorA05
import Derived.KernelRfl
import Derived.Test.YtglbhjmpemiijaaGreatDoorA06
import Derived.Test.YtglbhjmpemiijaaGreatDoorA04
import Derived.RangeFuncNested
import Derived.RangeFuncBound
import Derived.RangeFuncCalls
import Derived.RangeFuncLeaves
import Derived.Shelf.Abstract
import Derived.Shelf.RegionOpen
import Derived.WalkKit
import Derived.OwnWalkIn
import Derived.TacticsInMore
import Derived.LoopNIn
import Derived.LoopIn
import Derived.Shelf.Spec.SlicesInsertGrow
import Derived.Test.YtglbhjmpemiijaaGreatDoorProg
import Derived.Shelf.SlGeneric
import Derived.Shelf.SlLaysF
import Derived.Shelf.Slices.In.SortAlone
import Derived.Ground.SlsfProg
import Derived.Ground.NamesProg
import Derived.Shelf.Slices.In.SortNone

section
namespace Go.Proofs.Try0
open Go Go.Lite
noncomputable def C : Ctx := ctxOf Tryz.prog tabs
@[simp] theorem ty3 : C.ty 3 = ⟨.int .i64, 1, 8, [.int .i64 0]⟩ := by kernel_rfl
@[simp] theorem ty4 : C.ty 4 = ⟨.bool, 1, 1, [.bool false]⟩ := by kernel_rfl
@[simp] theorem ty5 : C.ty 5 = ⟨.int .u8, 1, 1, [.int .u8 0]⟩ := by kernel_rfl
@[simp] theorem ty9 : C.ty 9 = ⟨.str, 1, 16, [.str []]⟩ := by kernel_rfl
@[simp] theorem ty29 : C.ty 29 = ⟨.slice 190, 1, 24, [.slc none 0]⟩ := by kernel_rfl
@[simp] theorem ty59 : C.ty 59 = ⟨.slice 5, 1, 24, [.slc none 0]⟩ := by kernel_rfl
@[simp] theorem ty190 : C.ty 190 = ⟨.struct [(0, 9), (1, 9)], 2, 32, [.str [], .str []]⟩ := by kernel_rfl
noncomputable def code50 : Code := match Tryz.f50.body with | some c => c | none => .skip
theorem fi50 : C.fids 50 = true := by kernel_rfl
theorem bo50 : Tryz.f50.body = some code50 := rfl
theorem pr50 : C.prim 50 = none := rfl
theorem fu50 : C.funcs 50 = some Tryz.f50 := Tryz.func50
theorem op50 {a : List V} {H : List Ob} {R : V → List Ob → Prop} : Ret C 50 a H R ↔ WP C 50 code50 ⟨initRegs a, 0, H⟩ (finQ C Tryz.f50 H R) := Ret_fn pr50 fi50 fu50 bo50
@[simp] theorem locs50 : C.locs 50 = [] := by kernel_rfl
noncomputable def code97 : Code := match Tryz.f97.body with | some c => c | none => .skip
theorem fi97 : C.fids 97 = true := by kernel_rfl
theorem bo97 : Tryz.f97.body = some code97 := rfl
theorem pr97 : C.prim 97 = none := rfl
theorem fu97 : C.funcs 97 = some Tryz.f97 := Tryz.func97
theorem op97 {a : List V} {H : List Ob} {R : V → List Ob → Prop} : Ret C 97 a H R ↔ WP C 97 code97 ⟨initRegs a, 0, H⟩ (finQ C Tryz.f97 H R) := Ret_fn pr97 fi97 fu97 bo97
@[simp] theorem locs97 : C.locs 97 = [] := by kernel_rfl
noncomputable def code114 : Code := match Tryz.f114.body with | some c => c | none => .skip
theorem fi114 : C.fids 114 = true := by kernel_rfl
theorem bo114 : Tryz.f114.body = some code114 := rfl
theorem pr114 : C.prim 114 = none := rfl
theorem fu114 : C.funcs 114 = some Tryz.f114 := Tryz.func114
theorem op114 {a : List V} {H : List Ob} {R : V → List Ob → Prop} : Ret C 114 a H R ↔ WP C 114 code114 ⟨initRegs a, 0, H⟩ (finQ C Tryz.f114 H R) := Ret_fn pr114 fi114 fu114 bo114
@[simp] theorem locs114 : C.locs 114 = [] := by kernel_rfl
noncomputable def code151 : Code := match Tryz.f151.body with | some c => c | none => .skip
theorem fi151 : C.fids 151 = true := by kernel_rfl
theorem bo151 : Tryz.f151.body = some code151 := rfl
theorem pr151 : C.prim 151 = none := rfl
theorem fu151 : C.funcs 151 = some Tryz.f151 := Tryz.func151
theorem op151 {a : List V} {H : List Ob} {R : V → List Ob → Prop} : Ret C 151 a H R ↔ WP C 151 code151 ⟨initRegs a, 0, H⟩ (finQ C Tryz.f151 H R) := Ret_fn pr151 fi151 fu151 bo151
@[simp] theorem locs151 : C.locs 151 = [] := by kernel_rfl
noncomputable def code152 : Code := match Tryz.f152.body with | some c => c | none => .skip
theorem fi152 : C.fids 152 = true := by kernel_rfl
theorem bo152 : Tryz.f152.body = some code152 := rfl
theorem pr152 : C.prim 152 = none := rfl
theorem fu152 : C.funcs 152 = some Tryz.f152 := Tryz.func152
theorem op152 {a : List V} {H : List Ob} {R : V → List Ob → Prop} : Ret C 152 a H R ↔ WP C 152 code152 ⟨initRegs a, 0, H⟩ (finQ C Tryz.f152 H R) := Ret_fn pr152 fi152 fu152 bo152
@[simp] theorem locs152 : C.locs 152 = [] := by kernel_rfl
noncomputable def code219 : Code := match Tryz.f219.body with | some c => c | none => .skip
theorem fi219 : C.fids 219 = true := by kernel_rfl
theorem bo219 : Tryz.f219.body = some code219 := rfl
theorem pr219 : C.prim 219 = none := rfl
theorem fu219 : C.funcs 219 = some Tryz.f219 := Tryz.func219
theorem op219 {a : List V} {H : List Ob} {R : V → List Ob → Prop} : Ret C 219 a H R ↔ WP C 219 code219 ⟨initRegs a, 0, H⟩ (finQ C Tryz.f219 H R) := Ret_fn pr219 fi219 fu219 bo219
@[simp] theorem locs219 : C.locs 219 = [] := by kernel_rfl
noncomputable def code222 : Code := match Tryz.f222.body with | some c => c | none => .skip
theorem fi222 : C.fids 222 = true := by kernel_rfl
theorem bo222 : Tryz.f222.body = some code222 := rfl
theorem pr222 : C.prim 222 = none := rfl
theorem fu222 : C.funcs 222 = some Tryz.f222 := Tryz.func222
theorem op222 {a : List V} {H : List Ob} {R : V → List Ob → Prop} : Ret C 222 a H R ↔ WP C 222 code222 ⟨initRegs a, 0, H⟩ (finQ C Tryz.f222 H R) := Ret_fn pr222 fi222 fu222 bo222
@[simp] theorem locs222 : C.locs 222 = [] := by kernel_rfl
noncomputable def code232 : Code := match Tryz.f232.body with | some c => c | none => .skip
theorem fi232 : C.fids 232 = true := by kernel_rfl
theorem bo232 : Tryz.f232.body = some code232 := rfl
theorem pr232 : C.prim 232 = none := rfl
theorem fu232 : C.funcs 232 = some Tryz.f232 := Tryz.func232
theorem op232 {a : List V} {H : List Ob} {R : V → List Ob → Prop} : Ret C 232 a H R ↔ WP C 232 code232 ⟨initRegs a, 0, H⟩ (finQ C Tryz.f232 H R) := Ret_fn pr232 fi232 fu232 bo232
@[simp] theorem locs232 : C.locs 232 = [] := by kernel_rfl
noncomputable def code256 : Code := match Tryz.f256.body with | some c => c | none => .skip
theorem fi256 : C.fids 256 = true := by kernel_rfl
theorem bo256 : Tryz.f256.body = some code256 := rfl
theorem pr256 : C.prim 256 = none := rfl
theorem fu256 : C.funcs 256 = some Tryz.f256 := Tryz.func256
theorem op256 {a : List V} {H : List Ob} {R : V → List Ob → Prop} : Ret C 256 a H R ↔ WP C 256 code256 ⟨initRegs a, 0, H⟩ (finQ C Tryz.f256 H R) := Ret_fn pr256 fi256 fu256 bo256
@[simp] theorem locs256 : C.locs 256 = [] := by kernel_rfl
noncomputable def code316 : Code := match Tryz.f316.body with | some c => c | none => .skip
theorem fi316 : C.fids 316 = true := by kernel_rfl
theorem bo316 : Tryz.f316.body = some code316 := rfl
theorem pr316 : C.prim 316 = none := rfl
theorem fu316 : C.funcs 316 = some Tryz.f316 := Tryz.func316
theorem op316 {a : List V} {H : List Ob} {R : V → List Ob → Prop} : Ret C 316 a H R ↔ WP C 316 code316 ⟨initRegs a, 0, H⟩ (finQ C Tryz.f316 H R) := Ret_fn pr316 fi316 fu316 bo316
@[simp] theorem locs316 : C.locs 316 = [] := by kernel_rfl
noncomputable def code319 : Code := match Tryz.f319.body with | some c => c | none => .skip
theorem fi319 : C.fids 319 = true := by kernel_rfl
theorem bo319 : Tryz.f319.body = some code319 := rfl
theorem pr319 : C.prim 319 = none := rfl
theorem fu319 : C.funcs 319 = some Tryz.f319 := Tryz.func319
theorem op319 {a : List V} {H : List Ob} {R : V → List Ob → Prop} : Ret C 319 a H R ↔ WP C 319 code319 ⟨initRegs a, 0, H⟩ (finQ C Tryz.f319 H R) := Ret_fn pr319 fi319 fu319 bo319
@[simp] theorem locs319 : C.locs 319 = [] := by kernel_rfl
noncomputable def code345 : Code := match Tryz.f345.body with | some c => c | none => .skip
theorem fi345 : C.fids 345 = true := by kernel_rfl
theorem bo345 : Tryz.f345.body = some code345 := rfl
theorem pr345 : C.prim 345 = none := rfl
theorem fu345 : C.funcs 345 = some Tryz.f345 := Tryz.func345
theorem op345 {a : List V} {H : List Ob} {R : V → List Ob → Prop} : Ret C 345 a H R ↔ WP C 345 code345 ⟨initRegs a, 0, H⟩ (finQ C Tryz.f345 H R) := Ret_fn pr345 fi345 fu345 bo345
@[simp] theorem locs345 : C.locs 345 = [] := by kernel_rfl
noncomputable def code391 : Code := match Tryz.f391.body with | some c => c | none => .skip
theorem fi391 : C.fids 391 = true := by kernel_rfl
theorem bo391 : Tryz.f391.body = some code391 := rfl
theorem pr391 : C.prim 391 = none := rfl
theorem fu391 : C.funcs 391 = some Tryz.f391 := Tryz.func391
theorem op391 {a : List V} {H : List Ob} {R : V → List Ob → Prop} : Ret C 391 a H R ↔ WP C 391 code391 ⟨initRegs a, 0, H⟩ (finQ C Tryz.f391 H R) := Ret_fn pr391 fi391 fu391 bo391
@[simp] theorem locs391 : C.locs 391 = [] := by kernel_rfl
noncomputable def code126 : Code := match Tryz.f126.body with | some c => c | none => .skip
@[simp] theorem locs126 : C.locs 126 = [3, 5] := by kernel_rfl
@[simp] theorem ord126_4 : C.ord 126 4 = some ⟨[0, 1, 2, 3, 4, 5, 6, 7, 8, 9, 10], [], [], [(0, 3), (2, 5), (6, 5), (10, 3)], [], []⟩ := by kernel_rfl
end Go.Proofs.Try0
end

section
namespace Go.Proofs.Try0
open Go Go.Lite
set_option linter.unusedSimpArgs false
set_option linter.unusedVariables false

set_option maxRecDepth 10000 in
theorem s_Plain {t : Str} {H : List Ob} (ht : t.length ≤ 1000) : callW C 316 [.str t] H = some (.bool (dec (Plain t)), H) := by
  apply Ret.dec
  rw [op316]
  simp [code316, Tryz.f316]
  refine WP_loop (fun k σ => ∃ (i : Nat) (r : Nat → R), i + k = t.length ∧ σ = ⟨r, 0, H⟩ ∧ r 0 = .val (.str t) ∧ r 3 = .val (.int .i64 i) ∧ ∀ j, j < i → ∀ c, t[j]? = some c → PlainB c) ?_ t.length _ ⟨0, _, by simp, rfl, by simp, by simp, by simp⟩
  rintro k σ ⟨i, r, hik, rfl, r0, r3, hall⟩
  cases k with
  | zero =>
    have hi : i = t.length := by omega
    subst hi
    simp [r0, r3]
    intro j c hc
    exact hall j (List.getElem?_eq_some_iff.1 hc).1 c hc
  | succ k =>
    have hi : i < t.length := by omega
    obtain ⟨c, hc⟩ : ∃ c, t[i]? = some c := ⟨t[i], by simp [hi]⟩
    have hc' : t[i] = c := (List.getElem?_eq_some_iff.1 hc).2
    have hw : IntKind.i64.wrap ((i : Int) + 1) = ((i : Int) + 1) := wrap_i64 (by omega) (by omega)
    by_cases h1 : (c.toNat : Int) < 32
    · simp [r0, r3, hi, hc', h1]
      intro hp
      have := (hp i c hc).1
      omega
    · by_cases h2 : (c.toNat : Int) > 126
      · simp [r0, r3, hi, hc', h1, h2]
        intro hp
        have := (hp i c hc).2
        omega
      · simp [r0, r3, hi, hc', h1, h2, hw]
        exact ⟨k, by omega, i + 1, by omega, by omega, all_step (P := fun _ c => PlainB c) hall hc ⟨by omega, by omega⟩⟩

set_option maxRecDepth 10000 in
theorem i_Plain {t : Str} {H : List Ob} (ht : t.length ≤ 1000) : callW C 151 [.str t] H = some (.bool (dec (Plain t)), H) := by
  apply Ret.dec
  rw [op151]
  simp [code151, Tryz.f151]
  refine WP_loop (fun k σ => ∃ (i : Nat) (r : Nat → R), i + k = t.length ∧ σ = ⟨r, 0, H⟩ ∧ r 0 = .val (.str t) ∧ r 5 = .val (.int .i64 t.length) ∧ r 6 = .val (.int .i64 i) ∧ ∀ j, j < i → ∀ c, t[j]? = some c → PlainB c) ?_ t.length _ ⟨0, _, by simp, rfl, by simp, by simp, by simp, by simp⟩
  rintro k σ ⟨i, r, hik, rfl, r0, r5, r6, hall⟩
  cases k with
  | zero =>
    have hi : i = t.length := by omega
    subst hi
    simp [r0, r5, r6]
    intro j c hc
    exact hall j (List.getElem?_eq_some_iff.1 hc).1 c hc
  | succ k =>
    have hi : i < t.length := by omega
    obtain ⟨c, hc⟩ : ∃ c, t[i]? = some c := ⟨t[i], by simp [hi]⟩
    have hc' : t[i] = c := (List.getElem?_eq_some_iff.1 hc).2
    have hw : IntKind.i64.wrap ((i : Int) + 1) = ((i : Int) + 1) := wrap_i64 (by omega) (by omega)
    by_cases h1 : (c.toNat : Int) < 32
    · simp [r0, r5, r6, hi, hc', h1]
      intro hp
      have := (hp i c hc).1
      omega
    · by_cases h2 : (c.toNat : Int) > 126
      · simp [r0, r5, r6, hi, hc', h1, h2]
        intro hp
        have := (hp i c hc).2
        omega
      · simp [r0, r5, r6, hi, hc', h1, h2, hw]
        exact ⟨k, by omega, i + 1, by omega, by omega, all_step (P := fun _ c => PlainB c) hall hc ⟨by omega, by omega⟩⟩

set_option maxRecDepth 10000 in
set_option maxHeartbeats 2000000 in
theorem s_Name {t : Str} {H : List Ob} : callW C 97 [.str t] H = some (.bool (dec (NameOk t)), H) := by
  apply Ret.dec
  rw [op97]
  by_cases g1 : (t.length : Int) < 1
  · have g2 : ¬ NameOk t := fun h => by have := h.1; omega
    simp [code97, Tryz.f97, g1, g2]
  by_cases g2 : (t.length : Int) > 20
  · have g3 : ¬ NameOk t := fun h => by have := h.2.1; omega
    simp [code97, Tryz.f97, g1, g2, g3]
  simp [code97, Tryz.f97, g1, g2]
  refine WP_loop (fun k σ => ∃ (i : Nat) (r : Nat → R), i + k = t.length ∧ σ = ⟨r, 0, H⟩ ∧ r 0 = .val (.str t) ∧ r 3 = .val (.int .i64 i) ∧ ∀ j, j < i → ∀ c, t[j]? = some c → LowB c ∨ (0 < j ∧ (DigB c ∨ c.toNat = 95))) ?_ t.length _ ⟨0, _, by simp, rfl, by simp, by simp, by simp⟩
  rintro k σ ⟨i, r, hik, rfl, r0, r3, hall⟩
  cases k with
  | zero =>
    have hi : i = t.length := by omega
    subst hi
    have hok : NameOk t := ⟨by omega, by omega, fun j c hc => hall j (List.getElem?_eq_some_iff.1 hc).1 c hc⟩
    simp [r0, r3, hok]
  | succ k =>
    have hi : i < t.length := by omega
    obtain ⟨c, hc⟩ : ∃ c, t[i]? = some c := ⟨t[i], by simp [hi]⟩
    have hc' : t[i] = c := (List.getElem?_eq_some_iff.1 hc).2
    have hw : IntKind.i64.wrap ((i : Int) + 1) = ((i : Int) + 1) := wrap_i64 (by omega) (by omega)
    have hgo : LowB c ∨ (0 < i ∧ (DigB c ∨ c.toNat = 95)) → ∃ k', k' < k + 1 ∧ ∃ i', i' + k' = t.length ∧ (i : Int) + 1 = i' ∧ ∀ j, j < i' → ∀ c, t[j]? = some c → LowB c ∨ (0 < j ∧ (DigB c ∨ c.toNat = 95)) := fun h =>
      ⟨k, by omega, i + 1, by omega, by omega, all_step (P := fun j c => LowB c ∨ (0 < j ∧ (DigB c ∨ c.toNat = 95))) hall hc h⟩
    by_cases h1 : LowB c
    · have h1a : (c.toNat : Int) ≥ 97 := by have := h1.1; omega
      have h1b : (c.toNat : Int) ≤ 122 := by have := h1.2; omega
      simp [r0, r3, hi, hc', h1a, h1b, hw]
      exact hgo (.inl h1)
    have hl : (¬ (c.toNat : Int) ≥ 97) ∨ ((c.toNat : Int) ≥ 97 ∧ ¬ (c.toNat : Int) ≤ 122) := by unfold LowB at h1; omega
    have hno : ¬ (0 < i ∧ (DigB c ∨ c.toNat = 95)) → ¬ NameOk t := fun h hk => (hk.2.2 i c hc).elim h1 h
    by_cases h2 : i = 0
    · have hno := hno (by omega)
      subst h2
      rcases hl with hl | ⟨hl, hl2⟩
      · simp [r0, r3, hi, hc', hl, hno]
      · simp [r0, r3, hi, hc', hl, hl2, hno]
    have h2' : ¬ (i : Int) = 0 := by omega
    by_cases h3 : DigB c
    · have h3a : (c.toNat : Int) ≥ 48 := by have := h3.1; omega
      have h3b : (c.toNat : Int) ≤ 57 := by have := h3.2; omega
      have h3c : ¬ (c.toNat : Int) ≥ 97 := by omega
      simp [r0, r3, hi, hc', h2, h3a, h3b, h3c, hw]
      exact hgo (.inr ⟨by omega, .inl h3⟩)
    have hd : (¬ (c.toNat : Int) ≥ 48) ∨ ((c.toNat : Int) ≥ 48 ∧ ¬ (c.toNat : Int) ≤ 57) := by unfold DigB at h3; omega
    by_cases h4 : c.toNat = 95
    · have := hgo (.inr ⟨by omega, .inr h4⟩)
      simp [r0, r3, hi, hc', h2, h4, hw]
      exact this
    · have h4' : ¬ (c.toNat : Int) = 95 := by omega
      have hno := hno (fun h => h.2.elim h3 h4)
      rcases hl with hl | ⟨hl, hl2⟩ <;> rcases hd with hd | ⟨hd, hd2⟩
      · simp [r0, r3, hi, hc', h2, h4', hl, hd, hno]
      · simp [r0, r3, hi, hc', h2, h4', hl, hd, hd2, hno]
      · simp [r0, r3, hi, hc', h2, h4', hl, hl2, hd, hno]
      · simp [r0, r3, hi, hc', h2, h4', hl, hl2, hd, hd2, hno]
end Go.Proofs.Try0
end

section
namespace Go.Proofs.Try0
open Go Go.Lite
set_option linter.unusedSimpArgs false
set_option linter.unusedVariables false

theorem lowC_up {c : UInt8} (h1 : 65 ≤ c.toNat) (h2 : c.toNat ≤ 90) : IntKind.u8.wrap ((c.toNat : Int) + 32) = ((lowC c).toNat : Int) := by
  have : lowC c = c + 32 := by unfold lowC; rw [if_pos ⟨h1, h2⟩]
  rw [this]
  unfold IntKind.wrap
  simp [IntKind.bits, IntKind.signed, UInt8.toNat_add]
theorem lowC_up32 {c : UInt8} (h1 : 65 ≤ c.toNat) (h2 : c.toNat ≤ 90) : (lowC c).toNat = c.toNat + 32 := by
  have : lowC c = c + 32 := by unfold lowC; rw [if_pos ⟨h1, h2⟩]
  rw [this, UInt8.toNat_add]
  have : c.toNat + 32 < 256 := by omega
  simp
  omega
theorem lowC_no {c : UInt8} (h : ¬ (65 ≤ c.toNat ∧ c.toNat ≤ 90)) : lowC c = c := by unfold lowC; rw [if_neg h]
theorem u8_32 {c : UInt8} : c = 32 ↔ c.toNat = 32 := ⟨fun h => by rw [h]; rfl, fun h => UInt8.toNat_inj.1 h⟩
theorem foldl_step {t : Str} {i : Nat} {c : UInt8} (h : t[i]? = some c) (f : Str → UInt8 → Str) (b : Str) : (t.take (i + 1)).foldl f b = f ((t.take i).foldl f b) c := by
  rw [take_get h, List.foldl_append]
  rfl
theorem endSp_last {b : Str} {d : UInt8} (h : b.getLast? = some d) : endSp b = true ↔ d = 32 := by
  unfold endSp
  rw [h]
  simp
theorem last_some {b : Str} (h : b ≠ []) : ∃ d, b.getLast? = some d := ⟨b.getLast h, List.getLast?_eq_some_getLast h⟩

set_option maxRecDepth 10000 in
set_option maxHeartbeats 4000000 in
theorem s_Norm {t : Str} {H : List Ob} : callW C 219 [.str t] H = some (.str (norm t), H) := by
  apply Ret.eq
  rw [op219]
  by_cases g1 : (t.length : Int) > 100
  · have : norm t = [] := by unfold norm; rw [if_neg (by omega)]
    simp [code219, Tryz.f219, g1, this]
  have hp := s_Plain (t := t) (H := H) (by omega)
  by_cases g2 : Plain t
  rotate_left
  · rw [dec_neg g2] at hp
    have : norm t = [] := by unfold norm; rw [dec_neg g2]; simp
    simp [code219, Tryz.f219, g1, hp, this]
  rw [dec_pos g2] at hp
  have hn : norm t = nfin (t.foldl nstep []) := by unfold norm; rw [if_pos ⟨by omega, dec_pos g2⟩]
  have hbz : ∀ i, ((t.take i).foldl nstep []).length ≤ 100 := fun i => by
    have := foldl_len (t.take i) []
    simp at this
    omega
  simp [code219, Tryz.f219, g1, hp, elemT, fillL, zerosL, St.new]
  refine WP_loop (fun k σ => ∃ (i : Nat) (r : Nat → R) (G : List Ob) (v : V), i + k = t.length ∧ σ = ⟨r, 0, G⟩ ∧ r 0 = .val (.str t) ∧ r 3 = .val v ∧ r 4 = .val (.int .i64 i) ∧ Bs H G v ((t.take i).foldl nstep [])) ?_ t.length _ ⟨0, _, _, _, by simp, rfl, by simp, by simp, by simp, Bs.init⟩
  rintro k σ ⟨i, r, G, v, hik, rfl, r0, r3, r4, hB⟩
  have hbl := hbz i
  generalize hb : (t.take i).foldl nstep [] = b at hB hbl
  have hw1 : IntKind.i64.wrap ((b.length : Int) - 1) = (b.length : Int) - 1 := wrap_i64 (by omega) (by omega)
  cases k with
  | zero =>
    have hi : i = t.length := by omega
    subst hi
    rw [List.take_length] at hb
    rw [hb] at hn
    obtain ⟨TT, rfl⟩ := hB.ext
    by_cases hb0 : b = []
    · subst hb0
      obtain ⟨id, rfl, hst, hsl⟩ := hB.cut (n := 0) (Nat.le_refl _)
      simp [r0, r3, r4, hsl, isByte, bys_mapM, hn, nfin, endSp]
    · obtain ⟨d, hd⟩ := last_some hb0
      have hb1 : 0 < b.length := List.length_pos_iff.2 hb0
      have hb2 : 0 < (b.length : Int) := by omega
      have hb3 : (1 : Int) ≤ (b.length : Int) := by omega
      have hb5 : (b.length : Int) - 1 < (b.length : Int) := by omega
      have hb4 : ((b.length : Int) - 1).toNat = b.length - 1 := by omega
      obtain ⟨id, rfl, hld⟩ := hB.last hd
      by_cases hd32 : d = 32
      · obtain ⟨_, hv, hst, hsl⟩ := hB.cut (n := b.length - 1) (by omega)
        cases hv
        have he : nfin b = b.take (b.length - 1) := by unfold nfin; rw [if_pos ((endSp_last hd).2 hd32), List.dropLast_eq_take]
        have hd' : (d.toNat : Int) = 32 := by rw [hd32]; rfl
        simp [r0, r3, r4, hb0, hb1, hb2, hb3, hb4, hb5, hw1, hld, hd', hst, hsl, isByte, bys_mapM, hn, he]
      · obtain ⟨_, hv, hst, hsl⟩ := hB.cut (n := b.length) (Nat.le_refl _)
        cases hv
        have he : nfin b = b := by unfold nfin; rw [if_neg (fun h => hd32 ((endSp_last hd).1 h))]
        have hd' : ¬ (d.toNat : Int) = 32 := by have := mt u8_32.2 hd32; omega
        rw [List.take_length] at hsl
        simp [r0, r3, r4, hb0, hb1, hb2, hb3, hb4, hb5, hw1, hld, hd', hst, hsl, isByte, bys_mapM, hn, he]
  | succ k =>
    have hi : i < t.length := by omega
    obtain ⟨c, hc⟩ : ∃ c, t[i]? = some c := ⟨t[i], by simp [hi]⟩
    have hc' : t[i] = c := (List.getElem?_eq_some_iff.1 hc).2
    have hw : IntKind.i64.wrap ((i : Int) + 1) = ((i : Int) + 1) := wrap_i64 (by omega) (by omega)
    have hfs := foldl_step hc nstep []
    rw [hb] at hfs
    have hgo : ∀ G' v', Bs H G' v' (nstep b c) → ∃ k', k' < k + 1 ∧ ∃ i', i' + k' = t.length ∧ (i : Int) + 1 = i' ∧ Bs H G' v' ((t.take i').foldl nstep []) := fun G' v' h =>
      ⟨k, by omega, i + 1, by omega, by omega, by rw [hfs]; exact h⟩
    by_cases hup : 65 ≤ c.toNat ∧ c.toNat ≤ 90
    · have hu1 : (c.toNat : Int) ≥ 65 := by omega
      have hu2 : (c.toNat : Int) ≤ 90 := by omega
      have hlw := lowC_up hup.1 hup.2
      have hl32 : ¬ ((lowC c).toNat : Int) = 32 := by rw [lowC_up32 hup.1 hup.2]; omega
      have hns : nstep b c = b ++ [lowC c] := by unfold nstep; rw [if_neg (fun h => hl32 (by rw [u8_32.1 h.1]; rfl))]
      obtain ⟨v', G', ha, hB'⟩ := hB.push (by omega) (c := lowC c) (d := .int .u8) (z := [.int .u8 0]) rfl
      rw [← hns] at hB'
      simp [r0, r3, r4, hi, hc', hu1, hu2, hlw, hl32, elemT, fillL, zerosL, St.new, badArg, ha, hw]
      obtain ⟨k', q1, i', q2, q3, q4⟩ := hgo G' v' hB'
      exact ⟨k', q1, i', q2, _, _, ⟨rfl, rfl⟩, by simp [r0], _, by simp [r3], by simp [q3], q4⟩
    have hlc := lowC_no hup
    have hu : (¬ (c.toNat : Int) ≥ 65) ∨ ((c.toNat : Int) ≥ 65 ∧ ¬ (c.toNat : Int) ≤ 90) := by omega
    by_cases h32 : c = 32
    · have h32' : (c.toNat : Int) = 32 := by rw [h32]; rfl
      have hu1 : ¬ (c.toNat : Int) ≥ 65 := by omega
      by_cases hb0 : b = []
      · have hns : nstep b c = b := by unfold nstep; rw [if_pos ⟨by rw [hlc, h32], .inl hb0⟩]
        rw [hns] at hgo
        have hbl0 : b.length = 0 := by rw [hb0]; rfl
        have := hgo G v hB
        simp [r0, r3, r4, hi, hc', h32', hB.len, hbl0, hw]
        obtain ⟨k', q1, i', q2, q3, q4⟩ := this
        exact ⟨k', q1, i', q2, _, _, ⟨rfl, rfl⟩, by simp [r0], _, by simp [r3], by simp [q3], q4⟩
      · obtain ⟨d, hd⟩ := last_some hb0
        have hb1 : 0 < b.length := List.length_pos_iff.2 hb0
        have hb3 : (1 : Int) ≤ (b.length : Int) := by omega
        have hb5 : (b.length : Int) - 1 < (b.length : Int) := by omega
        have hb4 : ((b.length : Int) - 1).toNat = b.length - 1 := by omega
        obtain ⟨id, hv, hld⟩ := hB.last hd
        have hB0 := hB
        subst hv
        by_cases hd32 : d = 32
        · have hns : nstep b c = b := by unfold nstep; rw [if_pos ⟨by rw [hlc, h32], .inr ((endSp_last hd).2 hd32)⟩]
          rw [hns] at hgo
          have hd' : (d.toNat : Int) = 32 := by rw [hd32]; rfl
          have := hgo G _ hB
          simp [r0, r3, r4, hi, hc', h32', hb0, hb1, hb3, hb4, hb5, hw1, hld, hd', hw]
          obtain ⟨k', q1, i', q2, q3, q4⟩ := this
          exact ⟨k', q1, i', q2, _, _, ⟨rfl, rfl⟩, by simp [r0], _, by simp [r3], by simp [q3], q4⟩
        · have hns : nstep b c = b ++ [c] := by unfold nstep; rw [if_neg (fun h => h.2.elim hb0 (fun h => hd32 ((endSp_last hd).1 h))), hlc]
          have hd' : ¬ (d.toNat : Int) = 32 := by have := mt u8_32.2 hd32; omega
          obtain ⟨v', G', ha, hB'⟩ := hB.push (by omega) (c := c) (d := .int .u8) (z := [.int .u8 0]) rfl
          rw [← hns] at hB'
          rw [h32'] at ha
          simp [r0, r3, r4, hi, hc', h32', hb0, hb1, hb3, hb4, hb5, hw1, hld, hd', elemT, fillL, zerosL, St.new, badArg, ha, hw]
          obtain ⟨k', q1, i', q2, q3, q4⟩ := hgo G' v' hB'
          exact ⟨k', q1, i', q2, _, _, ⟨rfl, rfl⟩, by simp [r0], _, by simp [r3], by simp [q3], q4⟩
    · have h32' : ¬ (c.toNat : Int) = 32 := by have := mt u8_32.2 h32; omega
      have hns : nstep b c = b ++ [c] := by unfold nstep; rw [if_neg (fun h => h32 (hlc ▸ h.1)), hlc]
      obtain ⟨v', G', ha, hB'⟩ := hB.push (by omega) (c := c) (d := .int .u8) (z := [.int .u8 0]) rfl
      rw [← hns] at hB'
      have := hgo G' v' hB'
      rcases hu with hu | ⟨hu, hu2⟩
      · simp [r0, r3, r4, hi, hc', hu, h32', elemT, fillL, zerosL, St.new, badArg, ha, hw]
        obtain ⟨k', q1, i', q2, q3, q4⟩ := this
        exact ⟨k', q1, i', q2, _, _, ⟨rfl, rfl⟩, by simp [r0], _, by simp [r3], by simp [q3], q4⟩
      · simp [r0, r3, r4, hi, hc', hu, hu2, h32', elemT, fillL, zerosL, St.new, badArg, ha, hw]
        obtain ⟨k', q1, i', q2, q3, q4⟩ := this
        exact ⟨k', q1, i', q2, _, _, ⟨rfl, rfl⟩, by simp [r0], _, by simp [r3], by simp [q3], q4⟩
end Go.Proofs.Try0
end

section
namespace Go.Proofs.Try0
open Go Go.Lite
set_option linter.unusedSimpArgs false
set_option linter.unusedVariables false

/-- Ends the one text with the other? -/
def EndsWith (s w : Str) : Prop := w.length ≤ s.length ∧ s.drop (s.length - w.length) = w

set_option maxRecDepth 10000 in
theorem hasSuffix {s w : Str} {H : List Ob} (hs : s.length ≤ 1000000) (hw : w.length ≤ 1000000) : callW C 345 [.str s, .str w] H = some (.bool (dec (EndsWith s w)), H) := by
  apply Ret.dec
  rw [op345]
  by_cases h1 : (s.length : Int) ≥ w.length
  · have hw1 : IntKind.i64.wrap ((s.length : Int) - w.length) = (s.length : Int) - w.length := wrap_i64 (by omega) (by omega)
    have h2 : (w.length : Int) ≤ (s.length : Int) := h1
    have h3 : ((s.length : Int) - w.length).toNat = s.length - w.length := by omega
    have h4 : (0 : Int) ≤ (s.length : Int) - w.length := by omega
    have h5 : w.length ≤ s.length := by omega
    by_cases h6 : s.drop (s.length - w.length) = w
    · have hn : EndsWith s w := ⟨h5, h6⟩
      simp [code345, Tryz.f345, h1, h2, h3, h4, h5, hw1, h6, hn]
    · have hn : ¬ EndsWith s w := fun h => h6 h.2
      simp [code345, Tryz.f345, h1, h2, h3, h4, h5, hw1, h6, hn]
  · have hn : ¬ EndsWith s w := fun h => h1 (by have := h.1; omega)
    simp [code345, Tryz.f345, h1, hn]

noncomputable def trimEnd (s w : Str) : Str := if dec (EndsWith s w) = true then s.take (s.length - w.length) else s

set_option maxRecDepth 10000 in
theorem trimSuffixL {s w : Str} {H : List Ob} (hs : s.length ≤ 1000000) (hw : w.length ≤ 1000000) : callW C 256 [.str s, .str w] H = some (.str (trimEnd s w), H) := by
  apply Ret.eq
  rw [op256]
  have hc := hasSuffix (H := H) hs hw
  by_cases h : EndsWith s w
  · rw [dec_pos h] at hc
    have h0 := h.1
    have hw1 : IntKind.i64.wrap ((s.length : Int) - w.length) = (s.length : Int) - w.length := wrap_i64 (by omega) (by omega)
    have h2 : (w.length : Int) ≤ (s.length : Int) := by omega
    have h3 : ((s.length : Int) - w.length).toNat = s.length - w.length := by omega
    have ht : trimEnd s w = s.take (s.length - w.length) := by unfold trimEnd; rw [dec_pos h]; rfl
    simp [code256, Tryz.f256, hc, hw1, h2, h3, ht]
  · rw [dec_neg h] at hc
    have ht : trimEnd s w = s := by unfold trimEnd; rw [dec_neg h]; rfl
    simp [code256, Tryz.f256, hc, ht]

theorem trimEnd_sp {s : Str} : trimEnd s [32] = nfin s := by
  have he : EndsWith s [32] ↔ endSp s = true := by
    unfold EndsWith endSp
    cases hl : s.getLast? with
    | none =>
      have : s = [] := by simpa using hl
      subst this
      simp
    | some d =>
      have hne : s ≠ [] := by rintro rfl; simp at hl
      have h1 : 1 ≤ s.length := List.length_pos_iff.2 hne
      rw [List.getLast?_eq_getElem?] at hl
      have h2 : s.drop (s.length - 1) = [d] := by
        apply List.ext_getElem?
        intro j
        rw [List.getElem?_drop]
        cases j with
        | zero => simpa using hl
        | succ j => simp; omega
      simp [h1, h2]
  unfold trimEnd nfin
  by_cases h : endSp s = true
  · rw [dec_pos (he.2 h), if_pos rfl, if_pos h, List.dropLast_eq_take]
    rfl
  · rw [dec_neg (mt he.1 h), if_neg (by simp), if_neg h]

set_option maxRecDepth 10000 in
theorem trimSp {s : Str} {H : List Ob} (hs : s.length ≤ 1000000) : callW C 152 [.str s, .str [32]] H = some (.str (nfin s), H) := by
  apply Ret.eq
  rw [op152]
  have hc := trimSuffixL (H := H) hs (w := [32]) (by simp)
  rw [trimEnd_sp] at hc
  simp [code152, Tryz.f152, hc]

set_option maxRecDepth 10000 in
set_option maxHeartbeats 4000000 in
theorem i_Norm {t : Str} {H : List Ob} : callW C 50 [.str t] H = some (.str (norm t), H) := by
  apply Ret.eq
  rw [op50]
  by_cases g1 : (t.length : Int) > 100
  · have : norm t = [] := by unfold norm; rw [if_neg (by omega)]
    simp [code50, Tryz.f50, g1, this]
  have hp := i_Plain (t := t) (H := H) (by omega)
  by_cases g2 : Plain t
  rotate_left
  · rw [dec_neg g2] at hp
    have : norm t = [] := by unfold norm; rw [dec_neg g2]; simp
    simp [code50, Tryz.f50, g1, hp, this]
  rw [dec_pos g2] at hp
  have hn : norm t = nfin (t.foldl nstep []) := by unfold norm; rw [if_pos ⟨by omega, dec_pos g2⟩]
  have hbz : ∀ i, ((t.take i).foldl nstep []).length ≤ 100 := fun i => by
    have := foldl_len (t.take i) []
    simp at this
    omega
  simp [code50, Tryz.f50, g1, hp, elemT, fillL, zerosL, St.new]
  refine WP_loop (fun k σ => ∃ (i : Nat) (r : Nat → R) (G : List Ob) (v : V), i + k = t.length ∧ σ = ⟨r, 0, G⟩ ∧ r 0 = .val (.str t) ∧ r 3 = .val v ∧ r 16 = .val (.int .i64 t.length) ∧ r 17 = .val (.int .i64 i) ∧ Bs H G v ((t.take i).foldl nstep [])) ?_ t.length _ ⟨0, _, _, _, by simp, rfl, by simp, by simp, by simp, by simp, Bs.init⟩
  rintro k σ ⟨i, r, G, v, hik, rfl, r0, r3, r16, r17, hB⟩
  have hbl := hbz i
  generalize hb : (t.take i).foldl nstep [] = b at hB hbl
  have hw1 : IntKind.i64.wrap ((b.length : Int) - 1) = (b.length : Int) - 1 := wrap_i64 (by omega) (by omega)
  cases k with
  | zero =>
    have hi : i = t.length := by omega
    subst hi
    rw [List.take_length] at hb
    rw [hb] at hn
    obtain ⟨TT, rfl⟩ := hB.ext
    obtain ⟨id, rfl, hst, hsl⟩ := hB.cut (n := b.length) (Nat.le_refl _)
    rw [List.take_length] at hsl
    have hts := trimSp (s := b) (H := H ++ TT) (by omega)
    simp [r0, r3, r16, r17, hsl, isByte, bys_mapM, hn, hts]
  | succ k =>
    have hi : i < t.length := by omega
    obtain ⟨c, hc⟩ : ∃ c, t[i]? = some c := ⟨t[i], by simp [hi]⟩
    have hc' : t[i] = c := (List.getElem?_eq_some_iff.1 hc).2
    have hw : IntKind.i64.wrap ((i : Int) + 1) = ((i : Int) + 1) := wrap_i64 (by omega) (by omega)
    have hfs := foldl_step hc nstep []
    rw [hb] at hfs
    have hgo : ∀ G' v', Bs H G' v' (nstep b c) → ∃ k', k' < k + 1 ∧ ∃ i', i' + k' = t.length ∧ (i : Int) + 1 = i' ∧ Bs H G' v' ((t.take i').foldl nstep []) := fun G' v' h =>
      ⟨k, by omega, i + 1, by omega, by omega, by rw [hfs]; exact h⟩
    by_cases hup : 65 ≤ c.toNat ∧ c.toNat ≤ 90
    · have hu1 : (c.toNat : Int) ≥ 65 := by omega
      have hu2 : (c.toNat : Int) ≤ 90 := by omega
      have hlw := lowC_up hup.1 hup.2
      have hl32 : ¬ ((lowC c).toNat : Int) = 32 := by rw [lowC_up32 hup.1 hup.2]; omega
      have hns : nstep b c = b ++ [lowC c] := by unfold nstep; rw [if_neg (fun h => hl32 (by rw [u8_32.1 h.1]; rfl))]
      obtain ⟨v', G', ha, hB'⟩ := hB.push (by omega) (c := lowC c) (d := .int .u8) (z := [.int .u8 0]) rfl
      rw [← hns] at hB'
      simp [r0, r3, r16, r17, hi, hc', hu1, hu2, hlw, hl32, elemT, fillL, zerosL, St.new, badArg, ha, hw]
      obtain ⟨k', q1, i', q2, q3, q4⟩ := hgo G' v' hB'
      exact ⟨k', q1, i', q2, _, _, ⟨rfl, rfl⟩, by simp [r0], _, by simp [r3], by simp [r16], by simp [q3], q4⟩
    have hlc := lowC_no hup
    have hu : (¬ (c.toNat : Int) ≥ 65) ∨ ((c.toNat : Int) ≥ 65 ∧ ¬ (c.toNat : Int) ≤ 90) := by omega
    by_cases h32 : c = 32
    · have h32' : (c.toNat : Int) = 32 := by rw [h32]; rfl
      have hu1 : ¬ (c.toNat : Int) ≥ 65 := by omega
      by_cases hb0 : b = []
      · have hns : nstep b c = b := by unfold nstep; rw [if_pos ⟨by rw [hlc, h32], .inl hb0⟩]
        rw [hns] at hgo
        have hbl0 : b.length = 0 := by rw [hb0]; rfl
        simp [r0, r3, r16, r17, hi, hc', h32', hB.len, hbl0, hw]
        obtain ⟨k', q1, i', q2, q3, q4⟩ := hgo G v hB
        exact ⟨k', q1, i', q2, _, _, ⟨rfl, rfl⟩, by simp [r0], _, by simp [r3], by simp [r16], by simp [q3], q4⟩
      · obtain ⟨d, hd⟩ := last_some hb0
        have hb1 : 0 < b.length := List.length_pos_iff.2 hb0
        have hb3 : (1 : Int) ≤ (b.length : Int) := by omega
        have hb5 : (b.length : Int) - 1 < (b.length : Int) := by omega
        have hb4 : ((b.length : Int) - 1).toNat = b.length - 1 := by omega
        obtain ⟨id, hv, hld⟩ := hB.last hd
        subst hv
        by_cases hd32 : d = 32
        · have hns : nstep b c = b := by unfold nstep; rw [if_pos ⟨by rw [hlc, h32], .inr ((endSp_last hd).2 hd32)⟩]
          rw [hns] at hgo
          have hd' : (d.toNat : Int) = 32 := by rw [hd32]; rfl
          simp [r0, r3, r16, r17, hi, hc', h32', hb0, hb1, hb3, hb4, hb5, hw1, hld, hd', hw]
          obtain ⟨k', q1, i', q2, q3, q4⟩ := hgo G _ hB
          exact ⟨k', q1, i', q2, _, _, ⟨rfl, rfl⟩, by simp [r0], _, by simp [r3], by simp [r16], by simp [q3], q4⟩
        · have hns : nstep b c = b ++ [c] := by unfold nstep; rw [if_neg (fun h => h.2.elim hb0 (fun h => hd32 ((endSp_last hd).1 h))), hlc]
          have hd' : ¬ (d.toNat : Int) = 32 := by have := mt u8_32.2 hd32; omega
          obtain ⟨v', G', ha, hB'⟩ := hB.push (by omega) (c := c) (d := .int .u8) (z := [.int .u8 0]) rfl
          rw [← hns] at hB'
          rw [h32'] at ha
          simp [r0, r3, r16, r17, hi, hc', h32', hb0, hb1, hb3, hb4, hb5, hw1, hld, hd', elemT, fillL, zerosL, St.new, badArg, ha, hw]
          obtain ⟨k', q1, i', q2, q3, q4⟩ := hgo G' v' hB'
          exact ⟨k', q1, i', q2, _, _, ⟨rfl, rfl⟩, by simp [r0], _, by simp [r3], by simp [r16], by simp [q3], q4⟩
    · have h32' : ¬ (c.toNat : Int) = 32 := by have := mt u8_32.2 h32; omega
      have hns : nstep b c = b ++ [c] := by unfold nstep; rw [if_neg (fun h => h32 (hlc ▸ h.1)), hlc]
      obtain ⟨v', G', ha, hB'⟩ := hB.push (by omega) (c := c) (d := .int .u8) (z := [.int .u8 0]) rfl
      rw [← hns] at hB'
      obtain ⟨k', q1, i', q2, q3, q4⟩ := hgo G' v' hB'
      rcases hu with hu | ⟨hu, hu2⟩
      · simp [r0, r3, r16, r17, hi, hc', hu, h32', elemT, fillL, zerosL, St.new, badArg, ha, hw]
        exact ⟨k', q1, i', q2, _, _, ⟨rfl, rfl⟩, by simp [r0], _, by simp [r3], by simp [r16], by simp [q3], q4⟩
      · simp [r0, r3, r16, r17, hi, hc', hu, hu2, h32', elemT, fillL, zerosL, St.new, badArg, ha, hw]
        exact ⟨k', q1, i', q2, _, _, ⟨rfl, rfl⟩, by simp [r0], _, by simp [r3], by simp [r16], by simp [q3], q4⟩

theorem s_Value {t : Str} {H : List Ob} : callW C 114 [.str t] H = some (.bool (dec (ValueOk t)), H) := by
  apply Ret.dec
  rw [op114]
  have hn := s_Norm (t := t) (H := H)
  by_cases g1 : (t.length : Int) ≥ 1
  · by_cases g2 : (t.length : Int) ≤ 40
    · by_cases g3 : norm t = []
      · have hv : ¬ ValueOk t := fun h => h.2.2 g3
        simp [code114, Tryz.f114, g1, g2, hn, g3, hv]
      · have hv : ValueOk t := ⟨by omega, by omega, g3⟩
        simp [code114, Tryz.f114, g1, g2, hn, g3, hv]
    · have : ¬ ValueOk t := fun h => by have := h.2.1; omega
      simp [code114, Tryz.f114, g1, g2, this]
  · have : ¬ ValueOk t := fun h => by have := h.1; omega
    simp [code114, Tryz.f114, g1, this]

theorem i_Value {t : Str} {H : List Ob} : callW C 232 [.str t] H = some (.bool (dec (ValueOk t)), H) := by
  apply Ret.dec
  rw [op232]
  have hn := i_Norm (t := t) (H := H)
  by_cases g1 : (t.length : Int) ≥ 1
  · by_cases g2 : (t.length : Int) ≤ 40
    · by_cases g3 : norm t = []
      · have hv : ¬ ValueOk t := fun h => h.2.2 g3
        simp [code232, Tryz.f232, g1, g2, hn, g3, hv]
      · have hv : ValueOk t := ⟨by omega, by omega, g3⟩
        simp [code232, Tryz.f232, g1, g2, hn, g3, hv]
    · have : ¬ ValueOk t := fun h => by have := h.2.1; omega
      simp [code232, Tryz.f232, g1, g2, this]
  · have : ¬ ValueOk t := fun h => by have := h.1; omega
    simp [code232, Tryz.f232, g1, this]
end Go.Proofs.Try0
end

section
namespace Go.Proofs.Try0
open Go Go.Lite
set_option linter.unusedSimpArgs false
set_option linter.unusedVariables false

theorem prim_cmp {a b : Str} {H : List Ob} : callW C 425 [.str a, .str b] H = some (.int .i64 (Lib.compareBytes a b), H) :=
  callW_prim (pr := cmpPrim) rfl
theorem l_CompareString {a b : Str} {H : List Ob} : callW C 391 [.str a, .str b] H = some (.int .i64 (Lib.compareBytes a b), H) := by
  apply Ret.eq
  rw [op391]
  simp [code391, Tryz.f391, prim_cmp]
theorem l_Compare {a b : Str} {H : List Ob} : callW C 319 [.str a, .str b] H = some (.int .i64 (Lib.compareBytes a b), H) := by
  apply Ret.eq
  rw [op319]
  simp [code319, Tryz.f319, l_CompareString]
theorem i_byNorm {a b : Str} {H : List Ob} : callW C 222 [.str a, .str b] H = some (.int .i64 (Lib.compareBytes (norm a) (norm b)), H) := by
  apply Ret.eq
  rw [op222]
  have c1 := i_Norm (t := a) (H := H)
  have c2 := i_Norm (t := b) (H := H)
  simp [code222, Tryz.f222, c1, c2, l_Compare]
end Go.Proofs.Try0
end

section
namespace Go.Proofs.Try1
open Go Go.Lite

theorem progOk0 : ProgOk Tryz.prog Try0.C := progB_sound Try0.mixed Try0.ok fun g pr h => by
  change Try0.primTab g = some pr at h
  unfold Try0.primTab at h
  split at h
  · rename_i hg; subst hg; cases h; exact cmp_ok
  · cases h

end Go.Proofs.Try1
end

section
namespace Go.Lite
open Go

theorem wpIn_count {ro : Option Nat} {n m : Nat} {P : Program} {c : Code} {Q : Exit → Act → World → Prop} {a : Act} {w : World} (h : c.wpIn (rf ro) n P Q a w) : c.wpIn (rf ro) m P Q a w :=
  fun b k cs h1 h2 _ => h b k cs h1 h2 (fun d hd => by cases hd)

theorem wp_round {P : Program} {C : Ctx} (hp : ProgOk P C) {f : Nat} {c : Code} {σ σ' : St} {μ : Mu} {β : List Nat} {a : Act} {w : World} {ex : Ex} {Q : Exit → Act → World → Prop} {ro : Option Nat} {n : Nat}
    (hs : Sim (C.locs f) σ μ β a w) (hc : CodeOk P C f a.tmps.size c) (h : execW C f c σ = some (ex, σ')) (hq : ∀ a' w', Leads (C.locs f) σ μ β a w σ' a' w' → Q (toExit ex) a' w') : c.wpIn (rf ro) n P Q a w := by
  obtain ⟨m, hm⟩ := execW_iff.1 h
  exact wpIn_count (exec_sound hp.ty (callN_ok hp m) c hs hc hm hq)
end Go.Lite
end

section
namespace Go.Proofs.Try0
open Go Go.Lite Go.RowKit Go.Shelf
set_option linter.unusedSimpArgs false
set_option linter.unusedVariables false
attribute [local go_sem] Oper.semAt_some

/-- What an element of a name is, within bounds. -/
abbrev DkE := { p : ByteArray × ByteArray // p.1.size ≤ 1048576 ∧ p.2.size ≤ 1048576 }
def DkE.encs (x : Int × DkE) : Array Value := #[.int .i64 x.1, .agg #[.string x.2.1.1, .string x.2.1.2]]
instance : Inhabited DkE := ⟨⟨(.empty, .empty), by decide, by decide⟩⟩

/-- What has come when k rounds are over: the last k, backward. -/
def dkUpto (zs : List DkE) (k : Nat) : List (Int × DkE) := (List.range k).map fun j => (((zs.length - 1 - j : Nat) : Int), zs[zs.length - 1 - j]!)
theorem dkUpto_succ (zs : List DkE) (k : Nat) : dkUpto zs (k + 1) = dkUpto zs k ++ [(((zs.length - 1 - k : Nat) : Int), zs[zs.length - 1 - k]!)] := by simp [dkUpto, List.range_succ]
theorem dkUpto_length (zs : List DkE) (k : Nat) : (dkUpto zs k).length = k := by simp [dkUpto]

/-- What a round keeps: what lay below, and the box. -/
def DkKp (n₀ Bs : Nat) (A B : World) : Prop := Below n₀ A B ∧ ∀ v, A.cell? ⟨Bs, 0, none⟩ = some v → B.cell? ⟨Bs, 0, none⟩ = some v
theorem DkKp.refl (n₀ Bs : Nat) (A : World) : DkKp n₀ Bs A A := ⟨Below.refl _ _, fun _ h => h⟩
theorem DkKp.trans {n₀ Bs : Nat} {A B C : World} (h : DkKp n₀ Bs A B) (k : DkKp n₀ Bs B C) : DkKp n₀ Bs A C := ⟨h.1.trans k.1, fun v e => k.2 v (h.2 v e)⟩
theorem dkKp_b {n₀ Bs : Nat} {w : World} (hn : n₀ ≤ w.heap.size) (W : World) (l : Nat) (o o' : Obj) (hl : w.heap.size ≤ l) (h : W.heap[l]? = some o) (hc : o.isCells = false) (hw : o.isWalk = false) : DkKp n₀ Bs W (W.putObj l o') :=
  ⟨belowK_b hn W l o o' hl h hc hw, fun v hv => by
    by_cases e : Bs = l
    · subst e
      simp only [World.cell?] at hv
      rw [h] at hv
      cases o <;> simp_all [Obj.isCells]
    · rw [← hv]
      exact World.cell?_of_block (World.putObj_heap_other (by simpa using e))⟩

set_option maxRecDepth 100000 in
set_option maxHeartbeats 4000000 in
theorem dk_back1 (l Bs n₀ b off cap : Nat) (zs : List DkE) (hlen : zs.length ≤ 1048576) (hb : b < n₀) (J Jx : List (Int × DkE) → World → Prop) (n : Nat)
    (hY : ∀ pre x W, J pre W → pre.length < zs.length → YieldAt Fence.wide n Tryz.prog l (DkE.encs x) W fun e W' =>
      (e = .returned (.bool true) ∧ J (pre ++ [x]) W' ∧ DkKp n₀ Bs W W') ∨ (e = .returned (.bool false) ∧ Jx (pre ++ [x]) W'))
    (W : World) (hBs : W.cell? ⟨Bs, 0, none⟩ = some (.slice (some ⟨b, off, none⟩) zs.length cap))
    (hc : ∀ j, j < zs.length → W.cell? ⟨b, off + j * 2, none⟩ = some (.string zs[j]!.1.1) ∧ W.cell? ⟨b, off + j * 2 + 1, none⟩ = some (.string zs[j]!.1.2)) (h0 : J [] W) :
    CallsIn Fence.wide (n + 1) Tryz.prog 337 #[.func (.yield l) #[] #[], .pointer (some ⟨Bs, 0, none⟩)] W fun e W' => (∃ v, e = .returned v) ∧
      ((∃ ys, ys = dkUpto zs zs.length ∧ J ys W') ∨ (∃ pre, (∃ k, k ≤ zs.length ∧ pre = dkUpto zs k) ∧ Jx pre W')) := by
  refine callsIn_of_wp Tryz.func337 rfl trivial ?_ rfl
  simp only [Tryz.ntmps337, List.size_toArray, List.length_cons, List.length_nil, Nat.reduceAdd, Nat.reduceSub, Array.replicate_succ, Array.replicate_zero, List.push_toArray, List.append_toArray, List.nil_append, List.cons_append]
  gi_wp2
  gi_loopw [3] (fun i wr => ∃ k : Nat, k ≤ zs.length ∧ i = .int .i64 ((zs.length : Int) - 1 - k) ∧ J (dkUpto zs k) wr ∧ DkKp n₀ Bs W wr)
    (fun i _ => (intOf i + 1).toNat)
  case atStart => exact ⟨0, Nat.zero_le _, by simp, h0, DkKp.refl _ _ _⟩
  case round =>
    obtain ⟨k, hk, rfl, hJs, hnx⟩ := hrel
    have hBx : wr.cell? ⟨Bs, 0, none⟩ = some (.slice (some ⟨b, off, none⟩) zs.length cap) := hnx.2 _ hBs
    by_cases hlt : k < zs.length
    · obtain ⟨q, hqk⟩ : ∃ q : Nat, q + k + 1 = zs.length := ⟨zs.length - 1 - k, by omega⟩
      have hqz : zs.length - 1 - k = q := by omega
      have hUs := dkUpto_succ zs k
      rw [hqz] at hUs
      obtain ⟨hc1, hc2⟩ := hc q (by omega)
      generalize zs[q]! = z at hUs hc1 hc2
      obtain ⟨fn, tmps, assign, body, hy, hR⟩ := hY _ ((q : Int), z) wr hJs (by rw [dkUpto_length]; exact hlt)
      replace hc1 := (hnx.1.cell (p := ⟨b, off + q * 2, none⟩) hb).trans hc1
      replace hc2 := (hnx.1.cell (p := ⟨b, off + q * 2 + 1, none⟩) hb).trans hc2
      dsimp only [DkE.encs] at hy
      rw [show ((zs.length : Int) - 1 - k) = (q : Int) by omega]
      have hq1 : q < zs.length := by omega
      clear hqz hlt
      gi_wp2
      refine hR.mono ?_
      rintro e W3 (⟨rfl, hJ3, hk3⟩ | ⟨rfl, hJx3⟩)
      · gi_wp2
        go_roundw
        case rel => exact ⟨k + 1, by omega, by congr 1; omega, by rw [hUs]; exact hJ3, hnx.trans hk3⟩
        case measure => simp [intOf]
      · gi_wp2
        refine bodyPost_ret (results_none rfl _ _ _) rfl ?_
        exact ⟨⟨_, rfl⟩, .inr ⟨_, ⟨k + 1, by omega, hUs.symm⟩, hJx3⟩⟩
    · obtain rfl : k = zs.length := by omega
      rw [show ((zs.length : Int) - 1 - (zs.length : Nat)) = -1 by omega]
      gi_wp2
      go_end0
      exact ⟨⟨_, rfl⟩, .inl ⟨_, rfl, hJs⟩⟩

set_option maxRecDepth 100000 in
set_option maxHeartbeats 2000000 in
theorem dk_back1_nil (l Bs cap : Nat) (p : Option Addr) (J : List (Int × DkE) → World → Prop) (n : Nat) (W : World) (hBs : W.cell? ⟨Bs, 0, none⟩ = some (.slice p 0 cap)) (h0 : J [] W) :
    CallsIn Fence.wide (n + 1) Tryz.prog 337 #[.func (.yield l) #[] #[], .pointer (some ⟨Bs, 0, none⟩)] W fun e W' => (∃ v, e = .returned v) ∧ J [] W' := by
  refine callsIn_of_wp Tryz.func337 rfl trivial ?_ rfl
  simp only [Tryz.ntmps337, List.size_toArray, List.length_cons, List.length_nil, Nat.reduceAdd, Nat.reduceSub, Array.replicate_succ, Array.replicate_zero, List.push_toArray, List.append_toArray, List.nil_append, List.cons_append]
  gi_wp2
  gi_loopw [3] (fun i wr => i = .int .i64 (-1) ∧ J [] wr) (fun _ _ => 0)
  case atStart => exact ⟨rfl, h0⟩
  case round =>
    obtain ⟨rfl, hJs⟩ := hrel
    gi_wp2
    go_end0
    exact ⟨⟨_, rfl⟩, hJs⟩

set_option maxHeartbeats 1000000 in
theorem dk_back (n : Nat) (a : Option Addr) (len cap : Nat) (w : World) :
    CallsIn Fence.wide n Tryz.prog 238 #[.slice a len cap] w fun e w' => e = .returned (.func (.func 337) #[] #[.pointer (some ⟨w.heap.size, 0, none⟩)]) ∧ w' = w.alloc (.cells #[.slice a len cap] 29) := by
  refine callsIn_of_wp Tryz.func238 rfl trivial ?_ rfl
  simp only [Tryz.ntmps238, List.size_toArray, List.length_cons, List.length_nil, Nat.reduceAdd, Nat.reduceSub, Array.replicate_succ, Array.replicate_zero, List.push_toArray, List.append_toArray, List.nil_append, List.cons_append]
  gi_wp2
  go_ret
  exact ⟨rfl, rfl⟩

/-- The slice's cells. -/
def DkAt (n₀ : Nat) (W : World) (sv : Value) (zs : List DkE) : Prop :=
  (∃ p cap, sv = .slice p 0 cap ∧ zs = []) ∨ ∃ b off cap, sv = .slice (some ⟨b, off, none⟩) zs.length cap ∧ b < n₀ ∧ ∀ j, j < zs.length → W.cell? ⟨b, off + j * 2, none⟩ = some (.string zs[j]!.1.1) ∧ W.cell? ⟨b, off + j * 2 + 1, none⟩ = some (.string zs[j]!.1.2)
theorem DkAt.below {n₀ : Nat} {A B : World} (h : Below n₀ A B) {sv : Value} {zs : List DkE} : DkAt n₀ A sv zs → DkAt n₀ B sv zs
  | .inl e => .inl e
  | .inr ⟨b, off, cap, e, hb, hc⟩ => .inr ⟨b, off, cap, e, hb, fun j hj => ⟨(h.cell (p := ⟨b, off + j * 2, none⟩) hb).trans (hc j hj).1, (h.cell (p := ⟨b, off + j * 2 + 1, none⟩) hb).trans (hc j hj).2⟩⟩

theorem dk_stops (n Bs n₀ : Nat) (sv : Value) (zs : List DkE) (hlen : zs.length ≤ 1048576) (w : World) (hBs : Bs < w.heap.size) (hn₀ : n₀ ≤ w.heap.size)
    (hc : w.cell? ⟨Bs, 0, none⟩ = some sv) (hI : DkAt n₀ w sv zs) :
    SeqStopsK Fence.wide (n + 1) Tryz.prog 337 #[.pointer (some ⟨Bs, 0, none⟩)] DkE.encs (DkKp n₀ Bs) (fun ys => ys = dkUpto zs zs.length) (fun pre => ∃ k, k ≤ zs.length ∧ pre = dkUpto zs k) zs.length w := fun l J Jx W hW _ _ hY h0 => by
  have hc' := (hW.cell (p := ⟨Bs, 0, none⟩) hBs).trans hc
  rcases hI.below (hW.mono hn₀) with ⟨p, cap, rfl, rfl⟩ | ⟨b, off, cap, rfl, hb, hcs⟩
  · exact (dk_back1_nil l Bs cap p J n W hc' h0).mono fun e W' ⟨he, hj⟩ => ⟨he, .inl ⟨_, rfl, hj⟩⟩
  · refine (dk_back1 l Bs n₀ b off cap zs hlen hb J Jx n hY W hc' hcs h0).mono ?_
    rintro e W' ⟨he, h⟩
    exact ⟨he, h⟩

/-- The key. -/
def dkStep (nb : ByteArray → ByteArray) (s : ByteArray) (x : Int × DkE) : ByteArray := s ++ ((((⟨#[1]⟩ : ByteArray) ++ x.2.1.1) ++ (⟨#[61]⟩ : ByteArray)) ++ nb x.2.1.2)
def dkKey (nb : ByteArray → ByteArray) (l : List (Int × DkE)) : ByteArray := l.foldl (dkStep nb) .empty
theorem dkKey_snoc (nb : ByteArray → ByteArray) (l : List (Int × DkE)) (x : Int × DkE) : dkKey nb (l ++ [x]) = dkStep nb (dkKey nb l) x := by simp [dkKey]
theorem dkFold_size {nb : ByteArray → ByteArray} (hn : ∀ b, (nb b).size ≤ b.size + 100) : ∀ (l : List (Int × DkE)) (s : ByteArray), (l.foldl (dkStep nb) s).size ≤ s.size + l.length * 4194304 := by
  intro l
  induction l with
  | nil => intro s; simp
  | cons x l ih =>
    intro s
    have h := ih (dkStep nb s x)
    have h1 := x.2.2.1
    have h2 := x.2.2.2
    have h3 := hn x.2.1.2
    have e1 : (⟨#[1]⟩ : ByteArray).size = 1 := rfl
    have e2 : (⟨#[61]⟩ : ByteArray).size = 1 := rfl
    simp only [List.foldl_cons, List.length_cons]
    simp only [dkStep, ByteArray.size_append] at h ⊢
    omega
theorem dkKey_size {nb : ByteArray → ByteArray} (hn : ∀ b, (nb b).size ≤ b.size + 100) (l : List (Int × DkE)) : (dkKey nb l).size ≤ l.length * 4194304 := by
  have h := dkFold_size hn l .empty
  have e : (ByteArray.empty).size = 0 := rfl
  rw [e] at h
  rw [dkKey]
  omega

/-- Two cells in a block. -/
def Box2 (W : World) (B : Nat) (x : DkE) : Prop := W.heap[B]? = some (.cells #[.string x.1.1, .string x.1.2] 190 (0, 0))

/-- The variable that gathers the key. -/
def CellS (W : World) (B : Nat) (k : ByteArray) : Prop := W.cell? ⟨B, 0, none⟩ = some (.string k) ∧ W.frozen? ⟨B, 0, none⟩ = false
theorem CellS.lt {W : World} {B : Nat} {k : ByteArray} (h : CellS W B k) : B < W.heap.size := by
  have := h.1
  simp only [World.cell?] at this
  cases e : W.heap[B]? with
  | none => rw [e] at this; cases this
  | some o => exact (Array.getElem?_eq_some_iff.1 e).1
theorem CellS.block {W W' : World} {B : Nat} {k : ByteArray} (h : CellS W B k) (hb : W'.heap[B]? = W.heap[B]?) : CellS W' B k := ⟨(World.cell?_of_block hb).trans h.1, (World.frozen?_of_block hb).trans h.2⟩

/-- The code of the loop's body. -/
def rfBody : Code → Code
  | .rangeFunc _ _ _ b => b
  | .seq a b => match rfBody a with
    | .skip => rfBody b
    | c => c
  | .block _ b => rfBody b
  | _ => .skip
noncomputable def bodyC : Code := rfBody code126
set_option maxRecDepth 100000 in
theorem bodyOk : CodeOk Tryz.prog C 126 21 bodyC := codeB_sound (tyOf_ok _) mixed (by decide +kernel)

noncomputable def nbOf (b : ByteArray) : ByteArray := ⟨(norm b.data.toList).toArray⟩
def regsK (key s v : ByteArray) : Nat → R := fun t => if t = 3 then .box 0 [.str key.data.toList] else if t = 5 then .box 1 [.str s.data.toList, .str v.data.toList] else .val .undef

theorem nbOf_size (b : ByteArray) : (nbOf b).size ≤ b.size + 100 := by
  have := norm_len (t := b.data.toList)
  show (norm b.data.toList).toArray.size ≤ _
  simp
  omega

set_option maxRecDepth 10000 in
theorem body_run (key s v : ByteArray) (h1 : key.size ≤ 4398046511104) (h2 : s.size ≤ 1048576) (h3 : v.size ≤ 1048576) :
    WP C 126 bodyC ⟨regsK key s v, 2, []⟩ fun ex σ' => ex = .norm ∧ σ'.regs 3 = .box 0 [.str (key ++ ((((⟨#[1]⟩ : ByteArray) ++ s) ++ (⟨#[61]⟩ : ByteArray)) ++ nbOf v)).data.toList] := by
  have c1 := i_Norm (t := v.data.toList) (H := [])
  have e1 : key.data.toList.length ≤ 4398046511104 := by simpa using h1
  have e2 : s.data.toList.length ≤ 1048576 := by simpa using h2
  have e3 := norm_len (t := v.data.toList)
  have g1 : 1 + s.size ≤ 4611686018427387904 := by omega
  have g2 : 1 + s.size + 1 ≤ 4611686018427387904 := by omega
  have g2' : s.size + 1 + 1 ≤ 4611686018427387904 := by omega
  have g3 : s.size + 1 + 1 + (norm v.data.toList).length ≤ 4611686018427387904 := by omega
  have g4 : key.size + (s.size + ((norm v.data.toList).length + 1) + 1) ≤ 4611686018427387904 := by omega
  simp [bodyC, rfBody, code126, Tryz.f126, g1, g2, g2', g3, g4, regsK, c1, strBin, maxStr, nbOf, List.lookup, regionL_some]

set_option maxRecDepth 100000 in
set_option maxHeartbeats 4000000 in
theorem dk_key (progOk : ProgOk Tryz.prog C) (a : Option Addr) (len cap : Nat) (zs : List DkE) (hlen : zs.length ≤ 1048576) (w : World) (hI : DkAt w.heap.size w (.slice a len cap) zs) :
    Calls Tryz.prog 126 #[.slice a len cap] w fun e W' => e = .returned (.string (dkKey nbOf (dkUpto zs zs.length))) ∧ Below w.heap.size w W' := by
  refine (callsIn_wide (n := 6)).1 ?_
  refine callsIn_of_wp_marks Tryz.func126 rfl trivial ?_ rfl
  simp only [Tryz.ntmps126, List.size_toArray, List.length_cons, List.length_nil, Nat.reduceAdd, Nat.reduceSub, Array.replicate_succ, Array.replicate_zero, List.push_toArray, List.append_toArray, List.nil_append, List.cons_append]
  gi_wp2_with (refine ⟨trivial, ?_⟩; gi_at_call 238; refine (dk_back _ _ _ _ _).mono ?_; rintro e w' ⟨rfl, rfl⟩)
  have bS := (Boxed.new w 9 (.string .empty)).alloc (.cells #[.slice a len cap] 29)
  have bA := Boxed.new (w.alloc (.cells #[.string .empty] 9)) 29 (.slice a len cap)
  simp only [World.size_alloc] at bS bA
  have hB0 : Below w.heap.size w ((w.alloc (.cells #[.string .empty] 9)).alloc (.cells #[.slice a len cap] 29)) := ((Below.refl _ w).alloc (Nat.le_refl _) _).alloc (by simp) _
  have hsz : ((w.alloc (.cells #[.string .empty] 9)).alloc (.cells #[.slice a len cap] 29)).heap.size = w.heap.size + 2 := by simp
  change Code.wpIn _ _ _ _ _ _ ((w.alloc (.cells #[.string .empty] 9)).alloc (.cells #[.slice a len cap] 29))
  obtain ⟨W0, hW0⟩ : ∃ W0, (w.alloc (.cells #[.string .empty] 9)).alloc (.cells #[.slice a len cap] 29) = W0 := ⟨_, rfl⟩
  rw [hW0] at bS bA hB0 hsz ⊢
  clear hW0
  refine wpIn_rangeFunc_ownH rfl (by omega) (gf := 337) (lb := #[.pointer (some ⟨w.heap.size + 1, 0, none⟩)]) rfl trivial (enters_of Tryz.func337 (by kernel_rfl) rfl)
    (dk_stops 4 (w.heap.size + 1) w.heap.size (.slice a len cap) zs hlen W0 (by omega) (by omega) bA.cell (hI.below hB0)) DkKp.trans (dkKp_b (by omega)) (Below.refl _ _) (fun _ => rfl)
    (fun pre W => (CellS W w.heap.size (dkKey nbOf pre) ∧ Boxed W (w.heap.size + 1) 29 (.slice a len cap)) ∧ Below w.heap.size w W)
    (fun _ _ _ => False)
    (OwnFrom.and (OwnFrom.and (Own.from (fun s X Y row hs hg hr => ⟨cell_kept hs.1 hg hr, (frozen_kept hs.1 hg hr).trans hs.2⟩) _) (Own.from (boxed_own _ _ _) _)) (ownFrom_below (Nat.le_refl _) (by omega)))
    (fun _ _ _ _ _ hs _ _ => hs)
    ⟨⟨⟨bS.cell, bS.frozen⟩, bA⟩, hB0⟩
    (fun x a' W => ∃ Bx, w.heap.size + 1 < Bx ∧ Box2 W Bx x.2 ∧ a' = { tmps := #[.slice a len cap, undef, .string ⟨#[]⟩, .pointer (some ⟨w.heap.size, 0, none⟩), undef, .pointer (some ⟨Bx, 0, none⟩), .slice a len cap, .func (.func 337) #[] #[.pointer (some ⟨w.heap.size + 1, 0, none⟩)], .int .i64 x.1, .agg #[.string x.2.1.1, .string x.2.1.2], undef, undef, undef, undef, undef, undef, undef, undef, undef, undef, undef], defers := [] })
    (fun x a' _ X Y row hs hg hr => by
      obtain ⟨Bx, h1, h2, h3⟩ := hs
      refine ⟨Bx, h1, (hg.block Bx (Array.getElem?_eq_some_iff.1 h2).1 fun e => ?_).trans h2, h3⟩
      obtain ⟨_, o, ho, hc⟩ := hr Bx e.symm
      rw [show X.heap[Bx]? = _ from h2] at ho
      cases ho
      cases hc)
    ?assign ?body ?done ?stop
  case assign =>
    rintro l pre x W K ⟨⟨bS1, bA1⟩, hB1⟩ hK
    obtain ⟨i, ⟨⟨s, v⟩, hs⟩⟩ := x
    dsimp only [DkE.encs] at hK ⊢
    gi_wp2
    refine hK _ _ ((KeepsOthers.alloc _ _).from _) ⟨(Below.refl _ W).alloc hB1.size _, fun u hu => (World.cell?_of_block (Below.heap_alloc W _ _ bA1.lt)).trans hu⟩ ⟨⟨bS1.block (Below.heap_alloc W _ _ bS1.lt), bA1.alloc _⟩, hB1.alloc hB1.size _⟩ ⟨W.heap.size, bA1.lt, World.alloc_heap_new W _, rfl⟩
  case body =>
    rintro l pre x a' W hl ⟨r, hr⟩ ⟨⟨bS1, bA1⟩, hB1⟩ ⟨Bx, hBx, bX, rfl⟩ hlt
    have hkz := dkKey_size nbOf_size pre
    obtain ⟨i, ⟨⟨s, v⟩, hs⟩⟩ := x
    dsimp only at hs bX
    have z1 : (dkKey nbOf pre).size ≤ 4398046511104 := by omega
    obtain ⟨ex, σ', hex, rfl, hr3⟩ := body_run (dkKey nbOf pre) s v z1 hs.1 hs.2
    have hBne : w.heap.size ≠ Bx := by omega
    have hBxl : Bx < W.heap.size := (Array.getElem?_eq_some_iff.1 bX).1
    have hsim : Sim (C.locs 126) ⟨regsK (dkKey nbOf pre) s v, 2, []⟩ (fun _ => none) [w.heap.size, Bx] { tmps := #[.slice a len cap, undef, .string ⟨#[]⟩, .pointer (some ⟨w.heap.size, 0, none⟩), undef, .pointer (some ⟨Bx, 0, none⟩), .slice a len cap, .func (.func 337) #[] #[.pointer (some ⟨w.heap.size + 1, 0, none⟩)], .int .i64 i, .agg #[.string s, .string v], undef, undef, undef, undef, undef, undef, undef, undef, undef, undef, undef], defers := [] } W := {
      heap := ⟨fun id m h => by simp at h, fun id o h => by simp at h, fun id o m h => by simp at h, fun id id' o o' m m' _ h => by simp at h, fun id es cells m h => by simp at h⟩
      lenβ := rfl
      reg := fun t ht => by
        by_cases t3 : t = 3
        · subst t3; exact ⟨_, rfl, rfl⟩
        by_cases t5 : t = 5
        · subst t5; exact ⟨_, rfl, rfl⟩
        show RR _ _ _ _ (regsK _ _ _ t) _
        simp only [regsK, t3, t5, if_false]
        exact .undef _
      box := fun t c cells b ht h1 h2 => by
        simp only [regsK] at h1
        split at h1
        · cases h1
          simp at h2
          subst h2
          refine ⟨fun j u hj => ?_, fun o ho1 ho2 => ?_⟩
          · match j, hj with
            | 0, hj => cases hj; exact ⟨_, bS1.1, .str _⟩
          · have : o = 0 := by simp at ho2; omega
            subst this
            exact ⟨⟨_, bS1.1⟩, bS1.2⟩
        split at h1
        · cases h1
          simp at h2
          subst h2
          have q0 : W.cell? ⟨Bx, 0, none⟩ = some (.string s) := by simp [World.cell?, show W.heap[Bx]? = _ from bX]
          have q1 : W.cell? ⟨Bx, 1, none⟩ = some (.string v) := by simp [World.cell?, show W.heap[Bx]? = _ from bX]
          have q2 : ∀ o, W.frozen? ⟨Bx, o, none⟩ = false := fun o => by simp [World.frozen?, show W.heap[Bx]? = _ from bX]
          refine ⟨fun j u hj => ?_, fun o ho1 ho2 => ?_⟩
          · match j, hj with
            | 0, hj => cases hj; exact ⟨_, q0, .str _⟩
            | 1, hj => cases hj; exact ⟨_, q1, .str _⟩
          · have : o = 0 ∨ o = 1 := by simp at ho2; omega
            rcases this with rfl | rfl
            · exact ⟨⟨_, q0⟩, q2 _⟩
            · exact ⟨⟨_, q1⟩, q2 _⟩
        · cases h1
      sepβ := fun id o m b h => by simp at h
      injβ := fun c c' b h1 h2 => by
        match c, c', h1, h2 with
        | 0, 0, _, _ => rfl
        | 1, 1, _, _ => rfl
        | 0, 1, h1, h2 => simp at h1 h2; omega
        | 1, 0, h1, h2 => simp at h1 h2; omega
        | 0, _ + 2, _, h2 => simp at h2
        | 1, _ + 2, _, h2 => simp at h2
        | _ + 2, _, h1, _ => simp at h1
      ltβ := fun b hb => by
        simp at hb
        rcases hb with rfl | rfl
        · exact bS1.lt
        · exact hBxl
      uniq := fun t t' c cells cells' _ _ h1 h2 => by
        simp only [regsK] at h1 h2
        split at h1
        · rename_i e
          cases h1
          split at h2
          · rename_i e'; rw [e, e']
          split at h2
          · cases h2
          · cases h2
        split at h1
        · rename_i e
          cases h1
          split at h2
          · cases h2
          split at h2
          · rename_i e'; rw [e, e']
          · cases h2
        · cases h1
      loc := fun t c cells _ h1 => by
        simp only [regsK] at h1
        split at h1
        · rename_i e; subst e; simp
        split at h1
        · rename_i e; subst e; simp
        · cases h1
      defs := rfl }
    refine wp_round (ro := some l) progOk hsim bodyOk hex fun a'' w' hl' => ?_
    obtain ⟨μ', β', k1, k2, k3, k4, k5, k6⟩ := hl'
    have hno : ∀ b, b ≠ w.heap.size → b ≠ Bx → ¬ OwnB (St.heap ⟨regsK (dkKey nbOf pre) s v, 2, []⟩) (fun _ => none) [w.heap.size, Bx] b := by
      rintro b h1 h2 (⟨id, o, m, h, _⟩ | h)
      · simp at h
      · simp at h; omega
    have hsame : ∀ b, b < W.heap.size → b ≠ w.heap.size → b ≠ Bx → w'.heap[b]? = W.heap[b]? := fun b h h1 h2 => k5.same b h (hno b h1 h2)
    have hcell : CellS w' w.heap.size (dkKey nbOf (pre ++ [(i, ⟨(s, v), hs⟩)])) := by
      rw [dkKey_snoc]
      have r3 := k1.reg 3 (by rw [k4]; exact (by decide : 3 < 21))
      rw [hr3] at r3
      obtain ⟨b, hb, _⟩ := r3
      have hb0 : β'[0]? = some w.heap.size := by
        obtain ⟨ν, rfl⟩ := k3
        rfl
      rw [hb0] at hb
      cases hb
      obtain ⟨q1, q2⟩ := k1.box 3 0 _ _ (by rw [k4]; exact (by decide : 3 < 21)) hr3 hb0
      obtain ⟨u, hu1, hu2⟩ := q1 0 _ rfl
      obtain ⟨x, rfl, hx⟩ := hu2.str_inv
      refine ⟨?_, (q2 0 (Nat.le_refl _) (by simp)).2⟩
      rw [Nat.zero_add] at hu1
      rw [hu1]
      congr 2
      exact ByteArray.ext (Array.toList_inj.1 hx.symm)
    have hbl : Below w.heap.size W w' := ⟨k5.os, k5.tape, k5.output, k5.size, fun k hk => hsame k (by have := hB1.size; omega) (by omega) (by omega)⟩
    have hbA : Boxed w' (w.heap.size + 1) 29 (.slice a len cap) := (hsame _ bA1.lt (by omega) (by omega)).trans bA1
    refine ⟨⟨k5.size, fun k o hk1 hk2 hk3 => ?_⟩, ⟨hbl, fun u hu => ?_⟩, ⟨hcell, hbA⟩, hB1.trans hbl⟩
    · by_cases e : k = Bx
      · subst e
        rw [show W.heap[k]? = _ from bX] at hk2
        cases hk2
        cases hk3
      · rw [hsame k (Array.getElem?_eq_some_iff.1 hk2).1 (by omega) e]
        exact hk2
    · rw [bA1.cell] at hu
      cases hu
      exact hbA.cell
  case done =>
    rintro D ys W hD rfl ⟨⟨bS1, bA1⟩, hB1⟩ hK
    have cS := bS1.1
    gi_wp2
    refine ⟨by simp, .inl ⟨_, _, rfl, run_takeDeferred hK, ?_⟩⟩
    exact ⟨_, results_tmp rfl _ _ _, rfl, hB1.trans (belowK_b (w := w) (Nat.le_refl _) W D _ _ (by omega) hK rfl rfl)⟩
  case stop =>
    rintro D c pre W _ _ h _
    exact h.elim

theorem below_goes {H : List Ob} {μ : Mu} {w w' : World} (h : HSim H μ w) (hb : Below w.heap.size w w') : HGoes H μ w H μ w' :=
  ⟨h.world (fun id o m h1 h2 h3 => .of_heap (hb.block _ (live_lt h id o m h1 h2 h3))) hb.size, μ.le_refl, ⟨hb.size, fun b hb' _ => hb.block b hb', fun b h => .inl h, hb.os, hb.tape, hb.output, fun h => h.elim⟩, Lives.refl _ _ _⟩

noncomputable def dkOf (p : Str × Str) : DkE := if h : p.1.length ≤ 1048576 ∧ p.2.length ≤ 1048576 then ⟨(⟨p.1.toArray⟩, ⟨p.2.toArray⟩), by simpa [ByteArray.size] using h⟩ else default
theorem dkOf_fst {p : Str × Str} (h : p.1.length ≤ 1048576 ∧ p.2.length ≤ 1048576) : (dkOf p).1 = (⟨p.1.toArray⟩, ⟨p.2.toArray⟩) := by unfold dkOf; rw [dif_pos h]

theorem pairs_get : ∀ {cs : List V} {l : List (Str × Str)}, pairsOf cs = some l → ∀ (j : Nat) p, l[j]? = some p → cs[j * 2]? = some (.str p.1) ∧ cs[j * 2 + 1]? = some (.str p.2)
  | cs, l, h, j, p, hp => by
    unfold pairsOf at h
    split at h
    · cases h; cases hp
    · rename_i a v rest
      split at h
      · rename_i l' hl'
        cases h
        cases j with
        | zero => cases hp; exact ⟨rfl, rfl⟩
        | succ j =>
          have ih := pairs_get hl' j p (by simpa using hp)
          rw [show (j + 1) * 2 = j * 2 + 1 + 1 by omega]
          simpa using ih
      · cases h
    · cases h

theorem dkUpto_snd (zs : List DkE) : (dkUpto zs zs.length).map Prod.snd = zs.reverse := by
  apply List.ext_getElem
  · simp [dkUpto]
  · intro i h1 h2
    simp only [List.length_reverse] at h2
    simp only [dkUpto, List.map_map, List.getElem_map, List.getElem_range, Function.comp, List.getElem_reverse]
    rw [getElem!_pos]

theorem key_fold : ∀ (l : List (Str × Str)) (s : ByteArray), fitsL l = true → ((l.map dkOf).foldl (fun s z => dkStep nbOf s (0, z)) s).data.toList = l.foldl keyStep s.data.toList
  | [], s, _ => rfl
  | p :: l, s, h => by
    simp only [fitsL, List.all_cons, Bool.and_eq_true, decide_eq_true_eq] at h
    have ih := key_fold l (dkStep nbOf s (0, dkOf p)) (by simpa [fitsL] using h.2)
    rw [List.map_cons, List.foldl_cons, List.foldl_cons, ih]
    congr 1
    simp only [dkStep, dkOf_fst h.1, keyStep, nbOf]
    simp

theorem key_eq {l : List (Str × Str)} (h : fitsL l = true) : (dkKey nbOf (dkUpto (l.map dkOf) (l.map dkOf).length)).data.toList = keyL l := by
  have e : dkKey nbOf (dkUpto (l.map dkOf) (l.map dkOf).length) = ((dkUpto (l.map dkOf) (l.map dkOf).length).map Prod.snd).foldl (fun s z => dkStep nbOf s (0, z)) .empty := by
    rw [List.foldl_map]
    rfl
  rw [e, dkUpto_snd, ← List.map_reverse, key_fold _ _ (by unfold fitsL at h ⊢; rw [List.all_reverse]; exact h)]
  rfl

theorem dkPrim_ok (progOk : ProgOk Tryz.prog C) : PrimOk Tryz.prog 126 dkPrim := by
  intro args H r H' h μ w us hs hv
  have hent : ∀ us w, (callFunc 126 us).run Tryz.prog w = .ok (.enter 126 us) w := enters_of Tryz.func126 (by kernel_rfl) rfl
  unfold dkPrim at h
  split at h
  case h_2 => cases h
  rename_i p n
  obtain ⟨u, rfl, hu⟩ := hv.one
  refine .inr ⟨hent _ _, ?_⟩
  split at h
  · rename_i hn
    subst hn
    cases h
    have : ∃ q c, u = .slice q 0 c := by
      cases p with
      | none => obtain ⟨rfl, _⟩ := hu.slcN_inv; exact ⟨_, _, rfl⟩
      | some p =>
        obtain ⟨id, off⟩ := p
        obtain ⟨m, _, ⟨c, _, _, _, rfl⟩ | ⟨_, _, a, rfl⟩⟩ := hu.slc_inv <;> exact ⟨_, _, rfl⟩
    obtain ⟨q, c, rfl⟩ := this
    refine (dk_key progOk q 0 c [] (by simp) w (.inl ⟨q, c, rfl, rfl⟩)).mono ?_
    rintro e w' ⟨rfl, hb⟩
    exact ⟨_, rfl, μ, below_goes hs hb, VR.str .empty⟩
  rename_i hn
  split at h
  case isFalse => cases h
  rename_i hn1
  split at h
  case h_2 => cases h
  rename_i id off
  split at h
  case h_2 => cases h
  rename_i own cells ho
  split at h
  case isFalse => cases h
  rename_i hlen
  split at h
  case h_2 => cases h
  rename_i l hl
  split at h
  case isFalse => cases h
  rename_i hf
  obtain ⟨hf, hln⟩ := hf
  cases h
  obtain ⟨m, hm, ⟨c, hc1, hc2, hc3, rfl⟩ | ⟨h0, _⟩⟩ := hu.slc_inv
  rotate_left
  · exact absurd h0 hn
  obtain ⟨g1, g2, g3, g4, g5, g6⟩ := hs.obj id _ m ho hm
  have hfit : ∀ p ∈ l, p.1.length ≤ 1048576 ∧ p.2.length ≤ 1048576 := fun p hp => by
    have := List.all_eq_true.1 hf p hp
    simpa using this
  have hI : DkAt w.heap.size w (.slice (some ⟨m.blk, m.base + off, none⟩) n c) (l.map dkOf) := by
    refine .inr ⟨m.blk, m.base + off, c, by rw [List.length_map, hln], g5, fun j hj => ?_⟩
    rw [List.length_map] at hj
    have hpj : l[j]? = some l[j] := List.getElem?_eq_getElem hj
    obtain ⟨q1, q2⟩ := pairs_get hl j _ hpj
    have hget : ∀ k, k < n * 2 → ((cells.drop off).take (n * 2))[k]? = cells[off + k]? := fun k hk => by rw [List.getElem?_take_of_lt hk, List.getElem?_drop]
    rw [hget _ (by omega)] at q1 q2
    obtain ⟨u1, a1, a2⟩ := g4 _ _ q1
    obtain ⟨u2, b1, b2⟩ := g4 _ _ q2
    obtain ⟨x1, rfl, ex1⟩ := a2.str_inv
    obtain ⟨x2, rfl, ex2⟩ := b2.str_inv
    have hz : (l.map dkOf)[j]! = dkOf l[j] := by rw [getElem!_pos _ _ (by simpa using hj)]; simp
    rw [hz, dkOf_fst (hfit _ (List.getElem_mem hj))]
    have e1 : x1 = ⟨(l[j]).1.toArray⟩ := ByteArray.ext (by simp [ex1])
    have e2 : x2 = ⟨(l[j]).2.toArray⟩ := ByteArray.ext (by simp [ex2])
    rw [← Nat.add_assoc] at a1 b1
    rw [← Nat.add_assoc] at b1
    rw [a1, b1, e1, e2]
    exact ⟨rfl, rfl⟩
  refine (dk_key progOk _ n c (l.map dkOf) (by rw [List.length_map]; omega) w hI).mono ?_
  rintro e w' ⟨rfl, hb⟩
  refine ⟨_, rfl, μ, below_goes hs hb, ?_⟩
  rw [← key_eq hf]
  exact .str _
end Go.Proofs.Try0
end

section
namespace Go.Proofs.Try1
open Go Go.Lite

theorem dk_ok : PrimOk Tryz.prog 126 dkPrim := Try0.dkPrim_ok progOk0
end Go.Proofs.Try1
end

section
namespace Go.Lite
open Go Go.Lib Go.Shelf
set_option linter.unusedSimpArgs false
set_option linter.unusedVariables false

theorem CellsAt.vals {μ : Mu} {w : World} {b : Nat} : ∀ {xs : List V} {o : Nat}, CellsAt μ w b o xs → ∃ us : List Value, VL μ xs us ∧ ∀ (j : Nat) (u : Value), us[j]? = some u → w.cell? ⟨b, o + j, none⟩ = some u
  | [], o, _ => ⟨[], .nil, fun j u h => by simp at h⟩
  | x :: xs, o, h => by
    obtain ⟨u, h1, h2⟩ := h 0 x rfl
    obtain ⟨us, h3, h4⟩ := CellsAt.vals (xs := xs) (o := o + 1) (fun j v hv => by
      obtain ⟨u, k1, k2⟩ := h (j + 1) v (by simpa using hv)
      exact ⟨u, by rw [← k1]; congr 2; omega, k2⟩)
    refine ⟨u :: us, .cons h2 h3, fun j u' hj => ?_⟩
    cases j with
    | zero => cases hj; exact h1
    | succ j =>
      have := h4 j u' (by simpa using hj)
      rw [← this]; congr 2; omega

theorem CellsAt.part {μ : Mu} {w : World} {b o off n : Nat} {xs : List V} (h : CellsAt μ w b o xs) : CellsAt μ w b (o + off) ((xs.drop off).take n) := by
  intro j v hv
  rw [List.getElem?_take] at hv
  split at hv
  · rw [List.getElem?_drop] at hv
    obtain ⟨u, h1, h2⟩ := h _ v hv
    exact ⟨u, by rw [← h1, Nat.add_assoc], h2⟩
  · cases hv

theorem wrote_setCells {w : World} {b o : Nat} {us : List Value} (h : FreeAt w b o (o + us.length)) (h1 : ∀ u ∈ us, u.oneCell' = true) : Wrote w (w.setCells b o us) b o us := by
  obtain ⟨w', hr, hw⟩ := run_storeCells_free (P := default) b us o 0 w h1 h
  have h2 := run_storeCells_cells (P := default) b o us 0 w (fun j hj => by
    obtain ⟨⟨u, h3⟩, _⟩ := h (o + j) (by omega) (by omega)
    simp [h3]) (fun j hj => by simpa using (h (o + j) (by omega) (by omega)).2) h1
  rw [hr] at h2
  simp only [Nat.add_zero] at h2 hw
  cases h2
  exact hw

theorem Wrote.both {w w1 w2 : World} {b o : Nat} {us1 us2 : List Value} (h1 : Wrote w w1 b (o + us1.length) us2) (h2 : Wrote w1 w2 b o us1) : Wrote w w2 b o (us1 ++ us2) where
  size := h2.size.trans h1.size
  os := h2.os.trans h1.os
  tape := h2.tape.trans h1.tape
  drawn := h2.drawn.trans h1.drawn
  output := h2.output.trans h1.output
  other b' hb := (h2.other b' hb).trans (h1.other b' hb)
  frozen j := (h2.frozen j).trans (h1.frozen j)
  cell j := by
    rw [h2.cell, h1.cell, List.length_append]
    by_cases c1 : o ≤ j ∧ j < o + us1.length
    · rw [if_pos c1, if_pos (by omega), List.getElem?_append_left (by omega)]
    · rw [if_neg c1]
      by_cases c2 : o + us1.length ≤ j ∧ j < o + us1.length + us2.length
      · rw [if_pos c2, if_pos (by omega), List.getElem?_append_right (by omega)]
        congr 1; omega
      · rw [if_neg c2, if_neg (by omega)]

theorem VL.zeros {μ : Mu} {z : List V} {zV : Value} (h : VL μ z zV.cells.toList) (h0 : 0 < z.length) (n : Nat) :
    ∃ zs, VL μ zs (Builtin.zeroCells zV.cells n).toList ∧ zs.length = n * z.length := by
  have hl := h.length
  simp only [Array.length_toList] at hl
  refine ⟨(List.range (n * zV.cells.size)).map fun i => z.getD (i % zV.cells.size) .nilfn, VL.of_get (by simp [Builtin.zeroCells]) fun i v u h1 h2 => ?_, by simp [hl]⟩
  have hi : i < n * zV.cells.size := by have := (List.getElem?_eq_some_iff.1 h1).1; simpa using this
  have hm : i % zV.cells.size < zV.cells.size := Nat.mod_lt _ (by omega)
  simp only [Builtin.zeroCells] at h2
  simp [hi] at h1 h2
  subst h1; subst h2
  refine h.get (i % zV.cells.size) _ _ ?_ ?_
  · rw [List.getElem?_eq_getElem (by omega)]; simp
  · simp [hm]

theorem free_shape {w : World} {b lo hi : Nat} (h : FreeAt w b lo hi) (h1 : lo < hi) (he : EndB w b) : ∃ t k, w.shape? b = some (t, k) ∧ k ≠ 0 ∧ w.frozen? ⟨b, k, none⟩ = false := by
  obtain ⟨⟨u, hu⟩, _⟩ := h lo (Nat.le_refl _) h1
  cases ho : w.heap[b]? with
  | none => simp [World.cell?, ho] at hu
  | some o =>
    cases o <;> simp [World.cell?, ho] at hu
    rename_i cs t fz
    have hlo : lo < cs.size := by
      by_cases c : lo < cs.size
      · exact c
      · rw [Array.getElem?_eq_none (by omega)] at hu; cases hu
    refine ⟨t, cs.size, by simp [World.shape?, ho], by omega, he _ ?_⟩
    simp [World.cell?, ho]

theorem zero_size (zV : Value) (n : Nat) : (Builtin.zeroCells zV.cells n).size = n * zV.cells.size := by
  simp [Builtin.zeroCells]

/-- The world is another one but its cells are the same; more is asked of the tape. -/
theorem EndB.free {w : World} {b lo hi : Nat} (h : FreeAt w b lo hi) : ∀ j, lo ≤ j → j < hi → (w.cell? ⟨b, j, none⟩).isSome = true ∧ w.frozen? ⟨b, j, none⟩ = false := fun j h1 h2 => by
  obtain ⟨⟨u, hu⟩, hf⟩ := h j h1 h2
  exact ⟨by rw [hu]; rfl, hf⟩

set_option maxHeartbeats 1600000 in
theorem insertPrim_ok {P : Program} {g : FuncId} {T : TypeId} {zV : Value} {z : List V} {bytes : Nat} (hz : ∀ μ, VL μ z zV.cells.toList) (hz2 : z.length = 2) (hby : bytes ≤ 1000) (hcall : ∀ us w, (callFunc g us).run P w = .ok (.enter g us) w)
    (hshift : ∀ (b off n c i vb vo vc : Nat) (cs vs : List Value) (w : World) (_ : i < n) (_ : n + 1 ≤ c) (_ : n ≤ 1000000) (_ : vb ≠ b) (_ : cs.length = n * 2) (_ : vs.length = 2)
      (_ : ∀ (j : Nat) v, cs[j]? = some v → w.cell? ⟨b, off + j, none⟩ = some v) (_ : ∀ j, j < (n + 1) * 2 → (w.cell? ⟨b, off + j, none⟩).isSome = true) (_ : ∀ j, j < (n + 1) * 2 → w.frozen? ⟨b, off + j, none⟩ = false)
      (_ : ∀ (j : Nat) v, vs[j]? = some v → w.cell? ⟨vb, vo + j, none⟩ = some v) (_ : ∀ v ∈ cs, v.oneCell' = true) (_ : ∀ v ∈ vs, v.oneCell' = true)
      (tA tB : TypeId) (kA kB : Nat) (_ : w.shape? vb = some (tA, kA)) (_ : w.shape? b = some (tB, kB)) (_ : kB ≠ 0) (_ : w.frozen? ⟨vb, vo, none⟩ = false) (_ : w.frozen? ⟨vb, kA, none⟩ = false),
      Calls P g #[.slice (some ⟨b, off, none⟩) n c, .int .i64 i, .slice (some ⟨vb, vo, none⟩) 1 vc] w fun e w' =>
        e = .returned (.slice (some ⟨b, off, none⟩) (n + 1) c) ∧ w' = (w.drew.setCells b (off + (i + 1) * 2) (cs.drop (i * 2))).setCells b (off + i * 2) vs)
    (hendR : ∀ (b off n c vb vo vc : Nat) (vs : List Value) (w : World) (_ : n + 1 ≤ c) (_ : n ≤ 1000000) (_ : vs.length = 2) (_ : ∀ j, j < 2 → (w.cell? ⟨b, off + n * 2 + j, none⟩).isSome = true) (_ : ∀ j, j < 2 → w.frozen? ⟨b, off + n * 2 + j, none⟩ = false)
      (_ : ∀ (j : Nat) v, vs[j]? = some v → w.cell? ⟨vb, vo + j, none⟩ = some v) (_ : ∀ v ∈ vs, v.oneCell' = true),
      Calls P g #[.slice (some ⟨b, off, none⟩) n c, .int .i64 n, .slice (some ⟨vb, vo, none⟩) 1 vc] w fun e w' =>
        e = .returned (.slice (some ⟨b, off, none⟩) (n + 1) c) ∧ w' = w.setCells b (off + n * 2) vs)
    (hendG : ∀ (base : Option Addr) (n c vb vo vc : Nat) (cs vs : List Value) (w : World) (_ : n ≤ c) (_ : c < n + 1) (_ : (n + 1) * bytes ≤ 140737488355328) (_ : cs.length = n * 2) (_ : vs.length = 2) (_ : base = none → n = 0)
      (_ : ∀ a, base = some a → ∀ (j : Nat) v, cs[j]? = some v → w.cell? (a.add j) = some v) (_ : ∀ (j : Nat) v, vs[j]? = some v → w.cell? ⟨vb, vo + j, none⟩ = some v) (_ : ∀ v ∈ vs, v.oneCell' = true),
      Calls P g #[.slice base n c, .int .i64 n, .slice (some ⟨vb, vo, none⟩) 1 vc] w fun e w' =>
        e = .returned (.slice (some ⟨w.heap.size, 0, none⟩) (n + 1) (grownCap w (n + 1) c T)) ∧
        w' = w.drew.alloc (.cells ((cs ++ vs).toArray ++ Builtin.zeroCells zV.cells (grownCap w (n + 1) c T - (n + 1))) T))
    (hgrow : ∀ (b off n c i vb vo vc : Nat) (cs vs : List Value) (w : World) (_ : i < n) (_ : n ≤ c) (_ : c < n + 1) (_ : (n + 1) * bytes ≤ 140737488355328) (_ : cs.length = n * 2) (_ : vs.length = 2)
      (_ : ∀ (j : Nat) v, cs[j]? = some v → w.cell? ⟨b, off + j, none⟩ = some v) (_ : ∀ (j : Nat) v, vs[j]? = some v → w.cell? ⟨vb, vo + j, none⟩ = some v) (_ : ∀ v ∈ cs, v.oneCell' = true) (_ : ∀ v ∈ vs, v.oneCell' = true),
      Calls P g #[.slice (some ⟨b, off, none⟩) n c, .int .i64 i, .slice (some ⟨vb, vo, none⟩) 1 vc] w fun e w' =>
        e = .returned (.slice (some ⟨w.heap.size, 0, none⟩) (n + 1) (grownCap w (n + 1) c T)) ∧
        w' = (((w.alloc (.cells ((cs.take (i * 2)).toArray ++ Builtin.zeroCells zV.cells (n + 1 - i) ++ Builtin.zeroCells zV.cells (grownCap w (n + 1) c T - (n + 1))) T)).drew.setCells w.heap.size (i * 2) vs).drew).setCells w.heap.size ((i + 1) * 2) (cs.drop (i * 2))) :
    PrimOk P g (insertPrim 2) := by
  intro args H r H' h μ w us hs hv
  refine .inr ⟨hcall _ _, ?_⟩
  unfold insertPrim at h
  split at h
  case h_2 => cases h
  rename_i p n i idv
  split at h
  case h_2 => cases h
  rename_i es' xs hov
  split at h
  case isFalse => cases h
  rename_i hc
  obtain ⟨rfl, hxl, hi0, hin, hn, hone⟩ := hc
  obtain ⟨u, u2, u3, rfl, hu, hu2, hu3⟩ : ∃ u u2 u3, us = #[u, u2, u3] ∧ VR μ (.slc p n) u ∧ VR μ (.int .i64 i) u2 ∧ VR μ (.slc (some (idv, 0)) 1) u3 := by
    have hl := hv.length
    match us, hl, hv with
    | ⟨[a, b, c]⟩, _, hv => exact ⟨a, b, c, rfl, hv.get 0 _ _ rfl rfl, hv.get 1 _ _ rfl rfl, hv.get 2 _ _ rfl rfl⟩
  obtain ⟨i, rfl⟩ : ∃ k : Nat, i = k := ⟨i.toNat, by omega⟩
  have hin : i ≤ n := by omega
  obtain rfl : u2 = .int .i64 i := by cases hu2; rfl
  obtain ⟨mv, hmv, ⟨vc, hvc1, hvc2, hvc3, rfl⟩ | ⟨h0, _⟩⟩ := hu3.slc_inv
  rotate_left
  · cases h0
  obtain ⟨v1, v2, v3, v4, v5, v6⟩ := hs.obj idv _ mv hov hmv
  obtain ⟨v6, v7⟩ := v6 rfl
  simp only [Nat.add_zero] at hvc2 ⊢
  obtain ⟨vs, hvl, hvs⟩ := CellsAt.vals v4
  have hvsl : vs.length = 2 := by rw [← hvl.length, hxl]
  have h1v := hvl.oneCell hone
  have hzs : zV.cells.size = 2 := by
    have := (hz μ).length
    simp at this
    omega
  have hbig : (n + 1) * bytes ≤ 140737488355328 := Nat.le_trans (Nat.mul_le_mul (show n + 1 ≤ 1000001 by omega) hby) (by decide)
  -- a new row at the end
  have atEnd : ∀ (base : Option Addr) (c : Nat) (ys : List V) (cs : List Value) (Hd : List Ob) (hk : HGoes H μ w Hd μ w) (hHd : Hd.length = H.length), i = n → n ≤ c → c < n + 1 → VL μ ys cs → cs.length = n * 2 → (base = none → n = 0) → (∀ a, base = some a → ∀ (j : Nat) v, cs[j]? = some v → w.cell? (a.add j) = some v) →
      Calls P g #[.slice base n c, .int .i64 i, .slice (some ⟨mv.blk, mv.base, none⟩) 1 vc] w fun e w' => ∃ u, e = .returned u ∧ ∃ μ', HGoes H μ w (Hd ++ [.mk true 2 (ys ++ xs)]) μ' w' ∧ VR μ' (.slc (some (H.length, 0)) (n + 1)) u := by
    intro base c ys cs Hd hk hHd e1 hnc hcn hyl hcl hb0 hbc
    subst e1
    refine (hendG base i c mv.blk mv.base vc cs vs w hnc hcn hbig hcl hvsl hb0 hbc hvs h1v).mono ?_
    rintro e w' ⟨rfl, rfl⟩
    have hG := grownCap_ge w (i + 1) c T
    generalize grownCap w (i + 1) c T = G at hG
    obtain ⟨US, hUS⟩ : ∃ US, US = (cs ++ vs).toArray ++ Builtin.zeroCells zV.cells (G - (i + 1)) := ⟨_, rfl⟩
    have hUSl : US.size = G * 2 := by rw [hUS, Array.size_append, zero_size, hzs]; simp [hcl, hvsl]; omega
    have hyl2 := hyl.length
    have hgo := HGoes.new (es := 2) (w' := w.drew.alloc (.cells US T)) (fz := (0, 0)) hk.sim (cells := ys ++ xs) (us := US) (ty := T) (by
        have : US.toList.take (ys ++ xs).length = cs ++ vs := by
          rw [hUS, Array.toList_append, List.take_append_of_le_length (by simp; omega), List.take_of_length_le (by simp; omega)]
        rw [this]; exact hyl.append hvl) (by rw [hUSl]; simp; omega) rfl (.inr (Nat.le_refl _)) rfl rfl rfl
    rw [← hUS]
    refine ⟨_, rfl, _, hk.trans hgo, ?_⟩
    rw [hHd]
    have := VR.slc (μ := μ.add H.length ⟨w.heap.size, 0, (ys ++ xs).length, 2, US.size, true⟩) H.length 0 (i + 1) G ⟨w.heap.size, 0, (ys ++ xs).length, 2, US.size, true⟩
      (Mu.add_self _ _ _) hG (fun _ => by simp only [hUSl]; omega) (by simp only [Nat.zero_add, List.length_append]; omega)
    simpa using this
  cases p with
  | none =>
    simp only [] at h
    split at h
    case isFalse => cases h
    rename_i hn0
    subst hn0
    cases h
    obtain ⟨rfl, _⟩ := hu.slcN_inv
    exact atEnd none 0 [] [] H (.refl hs) rfl (by omega) (Nat.le_refl _) (by omega) .nil rfl (fun _ => rfl) (fun a h => by cases h)
  | some p =>
    obtain ⟨id, off⟩ := p
    simp only [] at h
    split at h
    case h_2 => cases h
    rename_i es'' cells ho
    split at h
    case isFalse => cases h
    rename_i hc
    obtain ⟨rfl, hne, hlen, honec⟩ := hc
    cases h
    obtain ⟨m, hm, hcase⟩ := hu.slc_inv
    obtain ⟨g1, g2, g3, g4, g5, g6⟩ := hs.obj id _ m ho hm
    obtain ⟨g6, g7⟩ := g6 rfl
    have hblk : m.blk ≠ mv.blk := hs.sep id idv _ _ m mv hne ho hov hm hmv rfl rfl
    obtain ⟨cs, hcl, hcs⟩ := CellsAt.vals (g4.part (off := off) (n := n * 2))
    have hDl : ((cells.drop off).take (n * 2)).length = n * 2 := by simp; omega
    have hcsl : cs.length = n * 2 := by rw [← hcl.length, hDl]
    have h1c := hcl.oneCell honec
    have hHl : (H.set id .dead).length = H.length := by simp
    have hk := HGoes.kill hs id
    obtain ⟨D, hD⟩ : ∃ D, D = (cells.drop off).take (n * 2) := ⟨_, rfl⟩
    rw [← hD] at hcl hDl
    have hDi : (cells.drop off).take (i * 2) = D.take (i * 2) := by rw [hD, List.take_take, Nat.min_eq_left (by omega)]
    rw [Int.toNat_natCast, hDi, ← hD]
    have hxs2 : D.drop (n * 2) = [] := List.drop_of_length_le (by omega)
    have hxs3 : D.take (n * 2) = D := List.take_of_length_le (by omega)
    rcases hcase with ⟨c, hnc, hr, hre, rfl⟩ | ⟨rfl, hre, ad, rfl⟩
    · have hr := hr g1.symm
      have hr2 : m.base + off + c * 2 ≤ m.size := by rw [← g2] at hr; exact hr
      by_cases hroom : n + 1 ≤ c
      · -- in place
        have hfree : FreeAt w m.blk (m.base + off) (m.base + off + (n + 1) * 2) := g7.mono (by omega) (by omega)
        obtain ⟨vt, vk, s1, s2, s3⟩ := free_shape v7 (by omega) (hs.plain _ _ _ _ hov hmv (by decide))
        obtain ⟨bt, bk, t1, t2, t3⟩ := free_shape hfree (by omega) (hs.plain _ _ _ _ ho hm (by decide))
        have hfr := EndB.free hfree
        have goes : ∀ (W W' : World), HGoes H μ w H μ W → (∀ x, W.cell? x = w.cell? x) → (∀ x, W.frozen? x = w.frozen? x) → W.heap.size = w.heap.size → Wrote W W' m.blk (m.base + off + i * 2) (vs ++ cs.drop (i * 2)) →
            ∃ μ', HGoes H μ w (H.set id .dead ++ [.mk true 2 (D.take (i * 2) ++ xs ++ D.drop (i * 2))]) μ' W' ∧ VR μ' (.slc (some (H.length, 0)) (n + 1)) (.slice (some ⟨m.blk, m.base + off, none⟩) (n + 1) c) := by
          intro W W' hg hWc hWf hWs hw
          have hwl : (vs ++ cs.drop (i * 2)).length = 2 + (n - i) * 2 := by simp [hvsl, hcsl]; omega
          refine ⟨μ.add H.length ⟨m.blk, m.base + off, (n + 1) * 2, 2, m.size, true⟩, hg.trans (HGoes.regrow hg.sim ho hm hw rfl ⟨rfl, rfl, ?_, ?_, by rw [hw.size, hWs]; exact g5, fun _ => ⟨?_, ?_⟩⟩), ?_⟩
          · simp [hDl, hxl]; omega
          · intro j v hj
            simp only
            rw [hw.cell, hwl]
            by_cases hj1 : j < i * 2
            · rw [if_neg (by omega), hWc]
              rw [List.append_assoc, List.getElem?_append_left (by simp; omega), List.getElem?_take_of_lt hj1] at hj
              have hj2 : j < cs.length := by omega
              refine ⟨cs[j], hcs j _ (List.getElem?_eq_getElem hj2), VR.le (Mu.le_add _ hs.fresh) (hcl.get j v _ hj (List.getElem?_eq_getElem hj2))⟩
            · have hjl : j < (D.take (i * 2) ++ xs ++ D.drop (i * 2)).length := (List.getElem?_eq_some_iff.1 hj).1
              rw [List.append_assoc, List.getElem?_append_right (by simp; omega)] at hj
              have e1 : (D.take (i * 2)).length = i * 2 := by simp; omega
              rw [e1] at hj
              have hjl2 : j < (n + 1) * 2 := by simp [hDl, hxl] at hjl; omega
              rw [if_pos (by omega)]
              have e2 : m.base + off + j - (m.base + off + i * 2) = j - i * 2 := by omega
              rw [e2]
              have hvv : VL μ (xs ++ D.drop (i * 2)) (vs ++ cs.drop (i * 2)) := hvl.append (hcl.drop _)
              have hj3 : j - i * 2 < (vs ++ cs.drop (i * 2)).length := by omega
              exact ⟨_, List.getElem?_eq_getElem hj3, VR.le (Mu.le_add _ hs.fresh) (hvv.get _ v _ hj (List.getElem?_eq_getElem hj3))⟩
          · simp only; omega
          · refine hw.free ?_
            intro o h1 h2
            rw [hWc, hWf]
            exact g7 o (by simp only at h1; omega) h2
          · have := VR.slc (μ := μ.add H.length ⟨m.blk, m.base + off, (n + 1) * 2, 2, m.size, true⟩) H.length 0 (n + 1) c ⟨m.blk, m.base + off, (n + 1) * 2, 2, m.size, true⟩
              (Mu.add_self _ _ _) hroom (fun _ => by simp only [← g2] at hr ⊢; omega) (by simp only; omega)
            simpa using this
        by_cases hie : i = n
        · subst hie
          refine (hendR m.blk (m.base + off) i c mv.blk mv.base vc vs w hroom hn hvsl (fun j hj => (hfr _ (by omega) (by omega)).1) (fun j hj => (hfr _ (by omega) (by omega)).2) hvs h1v).mono ?_
          rintro e w' ⟨rfl, rfl⟩
          have hw := wrote_setCells (w := w) (b := m.blk) (o := m.base + off + i * 2) (us := vs) (hfree.mono (by omega) (by omega)) h1v
          have hcd : cs.drop (i * 2) = [] := List.drop_of_length_le (by omega)
          obtain ⟨μ', k1, k2⟩ := goes w _ (.refl hs) (fun _ => rfl) (fun _ => rfl) rfl (by rw [hcd, List.append_nil]; exact hw)
          exact ⟨_, rfl, μ', k1, k2⟩
        · refine (hshift m.blk (m.base + off) n c i mv.blk mv.base vc cs vs w (by omega) hroom hn (fun e => hblk e.symm) hcsl hvsl hcs (fun j hj => (hfr _ (by omega) (by omega)).1) (fun j hj => (hfr _ (by omega) (by omega)).2) hvs h1c h1v vt bt vk bk s1 t1 t2 (v7 _ (by omega) (by omega)).2 s3).mono ?_
          rintro e w' ⟨rfl, rfl⟩
          have hcdl : (cs.drop (i * 2)).length = (n - i) * 2 := by simp [hcsl]; omega
          have hw1 := wrote_setCells (w := w.drew) (b := m.blk) (o := m.base + off + (i + 1) * 2) (us := cs.drop (i * 2)) (fun o h1 h2 => hfree o (by omega) (by omega)) (fun v hv => h1c v (List.mem_of_mem_drop hv))
          have hw2 := wrote_setCells (w := w.drew.setCells m.blk (m.base + off + (i + 1) * 2) (cs.drop (i * 2))) (b := m.blk) (o := m.base + off + i * 2) (us := vs) (hw1.free (fun o h1 h2 => hfree o (by omega) (by omega))) h1v
          have e1 : m.base + off + (i + 1) * 2 = m.base + off + i * 2 + vs.length := by omega
          rw [e1] at hw1 hw2 ⊢
          obtain ⟨μ', k1, k2⟩ := goes w.drew _ (HGoes.world hs rfl rfl rfl rfl) (fun _ => rfl) (fun _ => rfl) rfl (hw1.both hw2)
          exact ⟨_, rfl, μ', k1, k2⟩
      · -- a new row
        by_cases hie : i = n
        · subst hie
          rw [hxs2, hxs3, List.append_nil]
          exact atEnd (some ⟨m.blk, m.base + off, none⟩) c D cs _ hk hHl rfl hnc (by omega) hcl hcsl (fun e => by cases e) (fun a ha j v hj => by cases ha; rw [Addr.add_lit]; exact hcs j v hj)
        · refine (hgrow m.blk (m.base + off) n c i mv.blk mv.base vc cs vs w (by omega) hnc (by omega) hbig hcsl hvsl hcs hvs h1c h1v).mono ?_
          rintro e w' ⟨rfl, rfl⟩
          have hG := grownCap_ge w (n + 1) c T
          generalize grownCap w (n + 1) c T = G at hG
          obtain ⟨zs, hzl, hzn⟩ := (hz μ).zeros (by omega) (n + 1 - i)
          have hzl2 := hzl.length
          obtain ⟨US, hUS⟩ : ∃ US, US = (cs.take (i * 2)).toArray ++ Builtin.zeroCells zV.cells (n + 1 - i) ++ Builtin.zeroCells zV.cells (G - (n + 1)) := ⟨_, rfl⟩
          have hUSl : US.size = G * 2 := by
            rw [hUS, Array.size_append, Array.size_append, zero_size, zero_size, hzs]
            simp [hcsl]; omega
          rw [← hUS]
          have hDt : (D.take (i * 2)).length = i * 2 := by simp; omega
          have hrl : (D.take (i * 2) ++ zs).length = (n + 1) * 2 := by rw [List.length_append, hDt, hzn, hz2]; omega
          have hn := HGoes.new (es := 2) (w' := (w.alloc (.cells US T)).drew) (fz := (0, 0)) hk.sim (cells := D.take (i * 2) ++ zs) (us := US) (ty := T) (by
              have : US.toList.take (D.take (i * 2) ++ zs).length = cs.take (i * 2) ++ (Builtin.zeroCells zV.cells (n + 1 - i)).toList := by
                rw [hUS, Array.toList_append, Array.toList_append, List.take_append_of_le_length (by rw [hrl, List.length_append, ← hzl2, hzn, hz2]; simp; omega), List.take_of_length_le (by rw [hrl, List.length_append, ← hzl2, hzn, hz2]; simp; omega)]
              rw [this]; exact (hcl.take _).append hzl) (by rw [hrl, hUSl]; omega) rfl (.inr (Nat.le_refl _)) rfl rfl rfl
          rw [hHl] at hn
          obtain ⟨M, hM⟩ : ∃ M : Mp, M = ⟨w.heap.size, 0, (D.take (i * 2) ++ zs).length, 2, US.size, true⟩ := ⟨_, rfl⟩
          rw [← hM] at hn
          have hMm : (μ.add H.length M) H.length = some M := Mu.add_self _ _ _
          have hle : μ.le (μ.add H.length M) := Mu.le_add _ hs.fresh
          have hl0 : ∀ o, (H.set id .dead ++ [o])[H.length]? = some o := fun o => by rw [← hHl]; simp
          have hfN : FreeAt (w.alloc (.cells US T)).drew w.heap.size 0 (G * 2) := by
            obtain ⟨_, q⟩ := (hn.sim.obj H.length _ M (hl0 _) hMm).2.2.2.2.2 rfl
            rw [hM] at q
            simp only [hUSl] at q
            exact q
          have hw1 := wrote_setCells (w := (w.alloc (.cells US T)).drew) (b := w.heap.size) (o := i * 2) (us := vs) (hfN.mono (by omega) (by omega)) h1v
          have hp1 := HGoes.write (off := i * 2) (us := vs) hn.sim (hl0 _) hMm (by rw [hM]; simp only [Nat.zero_add]; exact hw1) (VL.le hle hvl) (by rw [hrl]; omega)
          have hd := HGoes.world (w' := ((w.alloc (.cells US T)).drew.setCells w.heap.size (i * 2) vs).drew) hp1.sim rfl rfl rfl rfl
          have hw2 := wrote_setCells (w := ((w.alloc (.cells US T)).drew.setCells w.heap.size (i * 2) vs).drew) (b := w.heap.size) (o := (i + 1) * 2) (us := cs.drop (i * 2)) (fun o h1 h2 => hw1.free hfN o (by omega) (by simp [hcsl] at h2; omega)) (fun v hv => h1c v (List.mem_of_mem_drop hv))
          have hl1 : ∀ o o', ((H.set id .dead ++ [o]).set H.length o')[H.length]? = some o' := fun o o' => by rw [List.getElem?_set_self (by simp)]
          have hsl : (setRange (D.take (i * 2) ++ zs) (i * 2) xs).length = (n + 1) * 2 := by rw [setRange_length (by rw [hrl]; omega), hrl]
          have hp2 := HGoes.write (off := (i + 1) * 2) (us := cs.drop (i * 2)) hd.sim (hl1 _ _) hMm (by rw [hM]; simp only [Nat.zero_add]; exact hw2) (VL.le hle (hcl.drop (i * 2))) (by rw [hsl]; simp [hDl]; omega)
          have hfin : setRange (setRange (D.take (i * 2) ++ zs) (i * 2) xs) ((i + 1) * 2) (D.drop (i * 2)) = D.take (i * 2) ++ xs ++ D.drop (i * 2) := by
            have e1 : setRange (D.take (i * 2) ++ zs) (i * 2) xs = D.take (i * 2) ++ xs ++ (D.take (i * 2) ++ zs).drop (i * 2 + xs.length) := by
              unfold setRange
              rw [List.take_append_of_le_length (by omega), List.take_of_length_le (by omega)]
            rw [e1]
            have e2 : (D.take (i * 2) ++ xs).length = (i + 1) * 2 := by rw [List.length_append, hDt, hxl]; omega
            unfold setRange
            rw [List.take_append_of_le_length (by omega), List.take_of_length_le (by omega), List.drop_of_length_le (l := D.take (i * 2) ++ xs ++ _) (by rw [← e1, hsl]; simp [hDl]; omega), List.append_nil]
          have hset : ((H.set id .dead ++ [Ob.mk true 2 (D.take (i * 2) ++ zs)]).set H.length (.mk true 2 (setRange (D.take (i * 2) ++ zs) (i * 2) xs))).set H.length (.mk true 2 (setRange (setRange (D.take (i * 2) ++ zs) (i * 2) xs) ((i + 1) * 2) (D.drop (i * 2)))) = H.set id .dead ++ [.mk true 2 (D.take (i * 2) ++ xs ++ D.drop (i * 2))] := by
            rw [List.set_set, hfin, ← hHl, List.set_append_right _ _ (Nat.le_refl _), Nat.sub_self]
            rfl
          rw [hset] at hp2
          refine ⟨_, rfl, _, hk.trans (hn.trans (hp1.trans (hd.trans hp2))), ?_⟩
          have := VR.slc (μ := μ.add H.length M) H.length 0 (n + 1) G M hMm hG (fun _ => by rw [hM]; simp only [hUSl]; omega) (by rw [hM]; simp only [hrl]; omega)
          rw [hM] at this
          simpa [hM] using this
    · have hi0 : i = 0 := by omega
      subst hi0
      have hD0 : D = [] := List.length_eq_zero_iff.1 (by omega)
      rw [hD0]
      have := atEnd (some ad) 0 [] [] _ hk hHl rfl (Nat.le_refl _) (by omega) .nil rfl (fun e => by cases e) (fun a ha j v hj => by simp at hj)
      simpa using this
end Go.Lite
end

section
namespace Go.Proofs.InsEntry
open Go Go.Lib Go.RowKit Go.Shelf
set_option linter.unusedSimpArgs false
set_option linter.unusedVariables false

abbrev zV : Value := .agg #[.slice none 0 0, .slice none 0 0]
theorem info : (Tryz.prog.info? 32).map (fun i => (i.zero, i.size, i.bytes)) = some (some zV, 2, 48) := by kernel_rfl
theorem sizeE : ∀ w, (Go.sizeOf 32).run Tryz.prog w = .ok 2 w := Tryz.sizeOf32

theorem copy2 {P : Program} (w : World) (dT sT ty elem : TypeId) (b o dLen dCap : Nat) (a : Addr) (sLen sCap k : Nat) (cs : List Value)
    (hu : P.underlying dT = some (.slice elem)) (hs : (P.info? elem).map (·.size) = some 2) (hk : k = Nat.min sLen dLen) (hn : cs.length = k * 2)
    (hsrc : ∀ j v, cs[j]? = some v → w.cell? (a.add j) = some v) (hc : ∀ j, j < cs.length → (w.cell? ⟨b, o + j, none⟩).isSome = true) (hf : ∀ j, j < cs.length → w.frozen? ⟨b, o + j, none⟩ = false) (h1 : ∀ v ∈ cs, v.oneCell' = true) :
    (Builtin.copy_ #[dT, sT] ty #[.slice (some ⟨b, o, none⟩) dLen dCap, .slice (some a) sLen sCap]).run P w = .ok (goInt k) (w.setCells b o cs) := by
  have hl := run_loadCells_list (P := P) w a cs hsrc
  have hst := run_storeCells_cells (P := P) b o cs 0 w (by simpa using hc) (by simpa using hf) h1
  rw [hn] at hl
  cases hq : P.info? elem with
  | none => simp [hq] at hs
  | some i =>
    have hi : i.size = 2 := by simpa [hq] using hs
    simp [Builtin.copy_, run_underlying hu, Builtin.lenOf, Builtin.firstCells, sizeOf, typeInfo, hq, hi, ← hk, hl, hst]

theorem sz2 : (Tryz.prog.info? 32).map (·.size) = some 2 := by
  obtain ⟨i0, hi0, h0, h1, h2⟩ := info_parts info
  rw [hi0]; simp [h1]

set_option maxHeartbeats 4000000 in
set_option maxRecDepth 100000 in
/-- There is room, ahead of the end: in place. -/
theorem shift (b off n c i vb vo vc : Nat) (cs vs : List Value) (w : World) (hi : i < n) (hroom : n + 1 ≤ c) (hn63 : n ≤ 1000000) (hvb : vb ≠ b)
    (hcl : cs.length = n * 2) (hvl : vs.length = 2)
    (hcs : ∀ j v, cs[j]? = some v → w.cell? ⟨b, off + j, none⟩ = some v) (hsp : ∀ j, j < (n + 1) * 2 → (w.cell? ⟨b, off + j, none⟩).isSome = true) (hfz : ∀ j, j < (n + 1) * 2 → w.frozen? ⟨b, off + j, none⟩ = false)
    (hvs : ∀ j v, vs[j]? = some v → w.cell? ⟨vb, vo + j, none⟩ = some v) (h1c : ∀ v ∈ cs, v.oneCell' = true) (h1v : ∀ v ∈ vs, v.oneCell' = true)
    (tA tB : TypeId) (kA kB : Nat) (hsa : w.shape? vb = some (tA, kA)) (hsb : w.shape? b = some (tB, kB)) (hkB : kB ≠ 0) (hfa : w.frozen? ⟨vb, vo, none⟩ = false) (hfe : w.frozen? ⟨vb, kA, none⟩ = false) :
    Calls Tryz.prog 287 #[.slice (some ⟨b, off, none⟩) n c, .int .i64 i, .slice (some ⟨vb, vo, none⟩) 1 vc] w fun e w' =>
      e = .returned (.slice (some ⟨b, off, none⟩) (n + 1) c) ∧ w' = (w.drew.setCells b (off + (i + 1) * 2) (cs.drop (i * 2))).setCells b (off + i * 2) vs := by
  have hz2 : ¬ ((i : Int) = (n : Int)) := by omega
  have hov : ∀ lb cb, (callFunc 363 #[.slice (some ⟨vb, vo, none⟩) 1 vc, .slice (some ⟨b, off + (i + 1) * 2, none⟩) lb cb]).run Tryz.prog w = .ok (.value (.bool false)) w := fun lb cb => by
    rw [run_callFunc_extern Tryz.func363 (by kernel_rfl) (by kernel_rfl) (by kernel_rfl) (e := Extern.SlicesOverlaps.overlaps #[53, 53] #[4]) (by kernel_rfl),
      Lib.run_overlaps_apart w 53 4 32 Tryz.underlying53 2 sizeE ⟨vb, vo, none⟩ ⟨b, off + (i + 1) * 2, none⟩ 1 vc lb cb hvb tA tB kA kB hsa hsb hkB hfa hfe]
    rfl
  have hdl : (cs.drop (i * 2)).length = (n - i) * 2 := by rw [List.length_drop, hcl]; omega
  have hw1 : IntKind.i64.wrap ((i : Int) + 1) = (i : Int) + 1 := by rw [IntKind.wrap_i64]; omega
  have hw2 : IntKind.i64.wrap ((n : Int) + 1) = (n : Int) + 1 := by rw [IntKind.wrap_i64]; omega
  have hb1 : (0 : Int) ≤ (i : Int) + 1 := by omega
  have hb0 : (0 : Int) ≤ (n : Int) + 1 := by omega
  have hin : i ≤ n := by omega
  have htn : ((i : Int) + 1).toNat = i + 1 := by omega
  have htn2 : ((n : Int) + 1).toNat = n + 1 := by omega
  have hb2 : ¬ (c = i + 1) := by omega
  have hb3 : (i : Int) ≤ (n : Int) + 1 := by omega
  have hb5 : (i : Int) + 1 ≤ (n : Int) + 1 := by omega
  have hb6 : ¬ ((c : Int) < (n : Int) + 1) := by omega
  have hb7 : (n : Int) + 1 ≤ c := by omega
  have hb4 : ¬ (c = i) := by omega
  have hcp1 : ∀ ty dc sc, (Builtin.copy_ #[53, 53] ty #[.slice (some ⟨b, off + (i + 1) * 2, none⟩) (n - i) dc, .slice (some ⟨b, off + i * 2, none⟩) (n + 1 - i) sc]).run Tryz.prog w.drew = .ok (goInt ((n - i : Nat) : Int)) (w.drew.setCells b (off + (i + 1) * 2) (cs.drop (i * 2))) := fun ty dc sc =>
    copy2 w.drew _ _ ty 32 b (off + (i + 1) * 2) (n - i) dc ⟨b, off + i * 2, none⟩ (n + 1 - i) sc (n - i) (cs.drop (i * 2)) Tryz.underlying53 sz2 (by simp only [Nat.min_def]; split <;> omega) hdl
      (fun j v hj => by rw [Addr.add_lit, Nat.add_assoc]; exact hcs (i * 2 + j) v (by rwa [List.getElem?_drop] at hj))
      (fun j hj => by rw [Nat.add_assoc]; exact hsp _ (by omega)) (fun j hj => by rw [Nat.add_assoc]; exact hfz _ (by omega)) (fun v hv => h1c v (List.mem_of_mem_drop hv))
  obtain ⟨W1, hW1⟩ : ∃ W1, W1 = w.drew.setCells b (off + (i + 1) * 2) (cs.drop (i * 2)) := ⟨_, rfl⟩
  have hsp1 : ∀ k, k < (n + 1) * 2 → (W1.cell? ⟨b, off + k, none⟩).isSome = true := fun k hk => by
    rw [hW1]
    exact isSome_setCells b _ _ _ (fun j hj => by rw [Nat.add_assoc]; exact hsp _ (by omega)) _ (hsp k hk)
  have hcp2 : ∀ (W : World), (∀ x, W.cell? x = W1.cell? x) → (∀ x, W.frozen? x = W1.frozen? x) → ∀ ty dc, (Builtin.copy_ #[53, 53] ty #[.slice (some ⟨b, off + i * 2, none⟩) (n + 1 - i) dc, .slice (some ⟨vb, vo, none⟩) 1 vc]).run Tryz.prog W = .ok (goInt 1) (W.setCells b (off + i * 2) vs) := fun W hWc hWf ty dc =>
    copy2 W _ _ ty 32 b (off + i * 2) (n + 1 - i) dc ⟨vb, vo, none⟩ 1 vc 1 vs Tryz.underlying53 sz2 (by simp only [Nat.min_def]; split <;> omega) (by omega)
      (fun j v hj => by
        rw [Addr.add_lit, hWc, hW1, World.cell?_setCells_out b _ _ _ _ (fun h _ => absurd h hvb)]
        exact hvs j v hj)
      (fun j hj => by rw [hWc, Nat.add_assoc]; exact hsp1 _ (by omega)) (fun j hj => by rw [hWf, hW1, World.frozen?_setCells, Nat.add_assoc]; exact hfz _ (by omega)) h1v
  rw [← hW1] at hcp1
  have mixed : Tryz.prog.follows .mixedOrders = true := rfl
  go_enter Tryz.func287, Tryz.ntmps287
  go_wp2_with (simp only [hov])
  go_region_law_o (refine step_copy_runI rfl _ _ 53 53 rfl _ _ (by simp [Act.eval, Act.put]) (by simp [Act.eval, Act.put]) (hcp1 _ _ _) ?_)
  go_wp2_with (at_builtin; refine wpList_copy_runI _ rfl _ _ 53 53 rfl _ _ rfl rfl (hcp2 _ (fun _ => rfl) (fun _ => rfl) _ _) ?_)
  go_ret
  first | exact ⟨rfl, rfl⟩ | exact ⟨rfl, by rw [hW1]⟩

set_option maxHeartbeats 4000000 in
set_option maxRecDepth 100000 in
/-- There is room, at the end. -/
theorem endRoom (b off n c vb vo vc : Nat) (vs : List Value) (w : World) (hroom : n + 1 ≤ c) (hn63 : n ≤ 1000000)
    (hvl : vs.length = 2) (hsp : ∀ j, j < 2 → (w.cell? ⟨b, off + n * 2 + j, none⟩).isSome = true) (hfz : ∀ j, j < 2 → w.frozen? ⟨b, off + n * 2 + j, none⟩ = false)
    (hvs : ∀ j v, vs[j]? = some v → w.cell? ⟨vb, vo + j, none⟩ = some v) (h1v : ∀ v ∈ vs, v.oneCell' = true) :
    Calls Tryz.prog 287 #[.slice (some ⟨b, off, none⟩) n c, .int .i64 n, .slice (some ⟨vb, vo, none⟩) 1 vc] w fun e w' =>
      e = .returned (.slice (some ⟨b, off, none⟩) (n + 1) c) ∧ w' = w.setCells b (off + n * 2) vs := by
  have mixed : Tryz.prog.follows .mixedOrders = true := rfl
  obtain ⟨i0, hi0, hz0, hzs, hzb⟩ := info_parts info
  have hsrc : Src Tryz.prog i0.size 53 (.slice (some ⟨vb, vo, none⟩) 1 vc) 1 vs w := by
    rw [hzs]
    exact Src.ofSlice w Tryz.underlying53 ⟨vb, vo, none⟩ 1 vc vs (by omega) (fun j u hj => by rw [Addr.add_lit]; exact hvs j u hj) h1v
  go_enter Tryz.func287, Tryz.ntmps287
  go_wp2_with (at_builtin; refine wpList_append_room_src _ rfl _ _ 53 53 rfl 32 i0 Tryz.underlying53 hi0 b off n c rfl _ rfl 1 vs hsrc hroom (by rw [hvl, hzs]; exact hsp) (by rw [hvl, hzs]; exact hfz) ?_)
  go_ret
  exact ⟨rfl, rfl⟩

set_option maxHeartbeats 4000000 in
set_option maxRecDepth 100000 in
/-- There is no room, at the end (nil too): a new row. -/
theorem endGrow (base : Option Addr) (n c vb vo vc : Nat) (cs vs : List Value) (w : World) (hnc : n ≤ c) (hroom : c < n + 1) (hbig : (n + 1) * 48 ≤ 140737488355328)
    (hcl : cs.length = n * 2) (hvl : vs.length = 2) (hnil : base = none → n = 0)
    (hcs : ∀ a, base = some a → ∀ j v, cs[j]? = some v → w.cell? (a.add j) = some v)
    (hvs : ∀ j v, vs[j]? = some v → w.cell? ⟨vb, vo + j, none⟩ = some v) (h1v : ∀ v ∈ vs, v.oneCell' = true) :
    Calls Tryz.prog 287 #[.slice base n c, .int .i64 n, .slice (some ⟨vb, vo, none⟩) 1 vc] w fun e w' =>
      e = .returned (.slice (some ⟨w.heap.size, 0, none⟩) (n + 1) (grownCap w (n + 1) c 32)) ∧
      w' = w.drew.alloc (.cells ((cs ++ vs).toArray ++ Builtin.zeroCells zV.cells (grownCap w (n + 1) c 32 - (n + 1))) 32) := by
  have mixed : Tryz.prog.follows .mixedOrders = true := rfl
  obtain ⟨i0, hi0, hz0, hzs, hzb⟩ := info_parts info
  have hsrc : Src Tryz.prog i0.size 53 (.slice (some ⟨vb, vo, none⟩) 1 vc) 1 vs w := by
    rw [hzs]
    exact Src.ofSlice w Tryz.underlying53 ⟨vb, vo, none⟩ 1 vc vs (by omega) (fun j u hj => by rw [Addr.add_lit]; exact hvs j u hj) h1v
  have hold : (Builtin.firstCells i0.size n (.slice base n c)).run Tryz.prog w.drew = .ok cs.toArray w.drew := by
    rw [hzs]
    cases base with
    | none =>
      have h0 := hnil rfl
      subst h0
      rw [List.length_eq_zero_iff.1 (by omega : cs.length = 0)]
      exact run_firstCells_none w.drew 2 0 0 c
    | some a => exact run_firstCells_some w.drew 2 n a n c cs (by omega) (fun j v hj => hcs a rfl j v hj)
  have hrun : ∀ ty, (Builtin.append_ #[53, 53] ty #[.slice base n c, .slice (some ⟨vb, vo, none⟩) 1 vc]).run Tryz.prog w = _ := fun ty =>
    run_append_grow_src w 53 53 ty 32 i0 _ Tryz.underlying53 hi0 hz0 base n c cs hold _ 1 vs hsrc hroom (by omega) (by rw [hzb]; exact growslice_fits hroom hbig)
  go_enter Tryz.func287, Tryz.ntmps287
  cases base with
  | none =>
    have h0 := hnil rfl
    subst h0
    go_wp2_with (at_builtin; refine Lib.wpList_append_run _ rfl _ _ _ _ rfl _ _ rfl rfl _ _ (hrun _) ?_)
    go_ret
    exact ⟨rfl, rfl⟩
  | some a =>
    obtain ⟨ab, ao, asp⟩ := a
    go_wp2_with (at_builtin; refine Lib.wpList_append_run _ rfl _ _ _ _ rfl _ _ rfl rfl _ _ (hrun _) ?_)
    all_goals (go_ret; exact ⟨rfl, rfl⟩)

set_option maxHeartbeats 8000000 in
set_option maxRecDepth 100000 in
/-- There is no room, ahead of the end: a new row. -/
theorem grow (b off n c i vb vo vc : Nat) (cs vs : List Value) (w : World) (hi : i < n) (hnc : n ≤ c) (hroom : c < n + 1) (hbig : (n + 1) * 48 ≤ 140737488355328)
    (hcl : cs.length = n * 2) (hvl : vs.length = 2)
    (hcs : ∀ j v, cs[j]? = some v → w.cell? ⟨b, off + j, none⟩ = some v)
    (hvs : ∀ j v, vs[j]? = some v → w.cell? ⟨vb, vo + j, none⟩ = some v) (h1c : ∀ v ∈ cs, v.oneCell' = true) (h1v : ∀ v ∈ vs, v.oneCell' = true) :
    Calls Tryz.prog 287 #[.slice (some ⟨b, off, none⟩) n c, .int .i64 i, .slice (some ⟨vb, vo, none⟩) 1 vc] w fun e w' =>
      e = .returned (.slice (some ⟨w.heap.size, 0, none⟩) (n + 1) (grownCap w (n + 1) c 32)) ∧
      w' = (((w.alloc (.cells ((cs.take (i * 2)).toArray ++ Builtin.zeroCells zV.cells (n + 1 - i) ++ Builtin.zeroCells zV.cells (grownCap w (n + 1) c 32 - (n + 1))) 32)).drew.setCells w.heap.size (i * 2) vs).drew).setCells w.heap.size ((i + 1) * 2) (cs.drop (i * 2)) := by
  have mixed : Tryz.prog.follows .mixedOrders = true := rfl
  obtain ⟨i0, hi0, hz0, hzs, hzb⟩ := info_parts info
  have hz2 : ¬ ((i : Int) = (n : Int)) := by omega
  have hz3 : (c : Int) < (n : Int) + 1 := by omega
  have hbw : b < w.heap.size := block_lt_of_cell (hcs 0 _ (List.getElem?_eq_getElem (by omega)))
  have hvw : vb < w.heap.size := block_lt_of_cell (hvs 0 _ (List.getElem?_eq_getElem (by omega)))
  have hkk : (n : Int) + 1 - (i : Int) = ((n + 1 - i : Nat) : Int) := by omega
  have hik : i + (n + 1 - i) = n + 1 := by omega
  have hold : (Builtin.firstCells i0.size i (.slice (some ⟨b, off, none⟩) i c)).run Tryz.prog w.drew = .ok (cs.take (i * 2)).toArray w.drew := by
    rw [hzs]
    exact run_firstCells_some w.drew 2 i ⟨b, off, none⟩ i c (cs.take (i * 2)) (by rw [List.length_take]; omega) (fun j v hj => by
      rw [Addr.add_lit]
      rw [List.getElem?_take] at hj
      split at hj
      · exact hcs j v hj
      · cases hj)
  have hrz : ∀ ty, (Builtin.append_ #[53, 3] ty #[.slice (some ⟨b, off, none⟩) i c, .int .i64 ((n : Int) + 1 - (i : Int))]).run Tryz.prog w =
      .ok (.slice (some ⟨w.heap.size, 0, none⟩) (n + 1) (grownCap w (n + 1) c 32)) (w.drew.alloc (.cells ((cs.take (i * 2)).toArray ++ Builtin.zeroCells zV.cells (n + 1 - i) ++ Builtin.zeroCells zV.cells (grownCap w (n + 1) c 32 - (n + 1))) 32)) := fun ty => by
    have h := Lib.run_append_grow_zeros w 53 3 ty 32 i0 _ .i64 .i64 Tryz.underlying53 Tryz.underlying3 hi0 hz0 (some ⟨b, off, none⟩) i c (cs.take (i * 2)) hold (n + 1 - i) (by omega) (by omega) (by omega) (by omega) (by rw [hzb]; omega) (by rw [hzb, hik]; exact growslice_fits hroom hbig)
    rw [hik] at h
    rw [hkk]
    exact h
  obtain ⟨G, hG⟩ : ∃ G, G = grownCap w (n + 1) c 32 := ⟨_, rfl⟩
  obtain ⟨ROW, hROW⟩ : ∃ ROW : Array Value, ROW = (cs.take (i * 2)).toArray ++ Builtin.zeroCells zV.cells (n + 1 - i) ++ Builtin.zeroCells zV.cells (G - (n + 1)) := ⟨_, rfl⟩
  rw [← hG] at hrz ⊢
  rw [← hROW] at hrz ⊢
  have hRl : (n + 1) * 2 ≤ ROW.size := by
    rw [hROW]
    simp [Builtin.zeroCells, Value.cells]
    omega
  obtain ⟨W1, hW1⟩ : ∃ W1, W1 = w.drew.alloc (.cells ROW 32) := ⟨_, rfl⟩
  rw [← hW1] at hrz
  have hN : ∀ j, j < (n + 1) * 2 → (W1.cell? ⟨w.heap.size, j, none⟩).isSome = true := fun j hj => by
    rw [hW1, World.cell?_alloc_at (w := w.drew) ROW _ w.heap.size j rfl, Array.getElem?_eq_getElem (by omega)]; rfl
  have hNf : ∀ j, W1.frozen? ⟨w.heap.size, j, none⟩ = false := fun j => by rw [hW1]; exact World.frozen?_alloc_at (w := w.drew) ROW _ w.heap.size j rfl
  have hOb : ∀ j v, w.cell? ⟨b, j, none⟩ = some v → W1.cell? ⟨b, j, none⟩ = some v := fun j v h => by rw [hW1, World.cell?_alloc_past (w := w.drew) _ b j hbw]; exact h
  have hOv : ∀ j v, w.cell? ⟨vb, j, none⟩ = some v → W1.cell? ⟨vb, j, none⟩ = some v := fun j v h => by rw [hW1, World.cell?_alloc_past (w := w.drew) _ vb j hvw]; exact h
  have hcpA : ∀ (W : World), (∀ x, W.cell? x = W1.cell? x) → (∀ x, W.frozen? x = W1.frozen? x) → ∀ ty dc, (Builtin.copy_ #[53, 53] ty #[.slice (some ⟨w.heap.size, i * 2, none⟩) (n + 1 - i) dc, .slice (some ⟨vb, vo, none⟩) 1 vc]).run Tryz.prog W = .ok (goInt 1) (W.setCells w.heap.size (i * 2) vs) := fun W hWc hWf ty dc =>
    copy2 W _ _ ty 32 w.heap.size (i * 2) (n + 1 - i) dc ⟨vb, vo, none⟩ 1 vc 1 vs Tryz.underlying53 sz2 (by simp only [Nat.min_def]; split <;> omega) (by omega)
      (fun j v hj => by rw [Addr.add_lit, hWc]; exact hOv _ v (hvs j v hj))
      (fun j hj => by rw [hWc]; exact hN _ (by omega)) (fun j hj => by rw [hWf]; exact hNf _) h1v
  have hGn : n + 1 ≤ G := by rw [hG]; exact grownCap_ge w _ _ _
  have hG63 : G ≤ 9223372036854775807 := by
    have := grownCap_le_maxLen w (n + 1) c 32 (by unfold maxLen; omega)
    rw [← hG] at this
    unfold maxLen at this
    omega
  have hGi : ¬ (G = i) := by omega
  have hGim : ¬ (G = i + 1) := by omega
  have hci : ¬ (c = i) := by omega
  have hbN : b ≠ w.heap.size := by omega
  have hdl : (cs.drop (i * 2)).length = (n - i) * 2 := by rw [List.length_drop, hcl]; omega
  have hcpB : ∀ (W : World), (∀ x, W.cell? x = (W1.setCells w.heap.size (i * 2) vs).cell? x) → (∀ x, W.frozen? x = (W1.setCells w.heap.size (i * 2) vs).frozen? x) → ∀ ty dc sc, (Builtin.copy_ #[53, 53] ty #[.slice (some ⟨w.heap.size, (i + 1) * 2, none⟩) (n - i) dc, .slice (some ⟨b, off + i * 2, none⟩) (n - i) sc]).run Tryz.prog W = .ok (goInt ((n - i : Nat) : Int)) (W.setCells w.heap.size ((i + 1) * 2) (cs.drop (i * 2))) := fun W hWc hWf ty dc sc =>
    copy2 W _ _ ty 32 w.heap.size ((i + 1) * 2) (n - i) dc ⟨b, off + i * 2, none⟩ (n - i) sc (n - i) (cs.drop (i * 2)) Tryz.underlying53 sz2 (by simp only [Nat.min_def]; split <;> omega) hdl
      (fun j v hj => by
        rw [Addr.add_lit, hWc, World.cell?_setCells_out _ _ _ _ _ (fun h _ => absurd h hbN), Nat.add_assoc]
        exact hOb _ v (hcs (i * 2 + j) v (by rwa [List.getElem?_drop] at hj)))
      (fun j hj => by rw [hWc]; exact isSome_setCells _ _ _ _ (fun t ht => hN _ (by omega)) _ (hN _ (by omega)))
      (fun j hj => by rw [hWf, World.frozen?_setCells]; exact hNf _) (fun v hv => h1c v (List.mem_of_mem_drop hv))
  subst hW1
  have hE1 : ∀ x, ((w.alloc (.cells ROW 32)).drew).cell? x = (w.drew.alloc (.cells ROW 32)).cell? x := fun x => rfl
  have hE2 : ∀ x, ((w.alloc (.cells ROW 32)).drew).frozen? x = (w.drew.alloc (.cells ROW 32)).frozen? x := fun x => rfl
  have hF1 : ∀ x, (((w.alloc (.cells ROW 32)).drew.setCells w.heap.size (i * 2) vs).drew).cell? x = ((w.drew.alloc (.cells ROW 32)).setCells w.heap.size (i * 2) vs).cell? x := fun x => rfl
  have hF2 : ∀ x, (((w.alloc (.cells ROW 32)).drew.setCells w.heap.size (i * 2) vs).drew).frozen? x = ((w.drew.alloc (.cells ROW 32)).setCells w.heap.size (i * 2) vs).frozen? x := fun x => rfl
  have hw1 : IntKind.i64.wrap ((i : Int) + 1) = (i : Int) + 1 := by rw [IntKind.wrap_i64]; omega
  have hw2 : IntKind.i64.wrap ((n : Int) + 1) = (n : Int) + 1 := by rw [IntKind.wrap_i64]; omega
  have hw3 : IntKind.i64.wrap ((n : Int) + 1 - i) = (n : Int) + 1 - i := by rw [IntKind.wrap_i64]; omega
  have hb1 : (0 : Int) ≤ (i : Int) + 1 := by omega
  have hin : i ≤ n := by omega
  have htn : ((i : Int) + 1).toNat = i + 1 := by omega
  have hb3 : (i : Int) ≤ (n : Int) := by omega
  clear hkk hik hold hROW hG hRl
  go_enter Tryz.func287, Tryz.ntmps287
  go_wp2_with (first
    | (at_builtin; refine Lib.wpList_append_run _ rfl _ _ _ _ rfl _ _ rfl rfl _ _ (hrz _) ?_)
    | (at_builtin; refine wpList_copy_runI _ rfl _ _ 53 53 rfl _ _ rfl rfl (hcpA _ hE1 hE2 _ _) ?_)
    | (at_builtin; refine wpList_copy_runI _ rfl _ _ 53 53 rfl _ _ rfl rfl (hcpB _ (fun _ => rfl) (fun _ => rfl) _ _ _) ?_))
  go_region_law_o (refine step_copy_runI rfl _ _ 53 53 rfl (.slice (some ⟨w.heap.size, (i + 1) * 2, none⟩) (n - i) (G - (i + 1))) (.slice (some ⟨b, off + i * 2, none⟩) (n - i) (c - i)) (by simp [Act.eval, Act.put]) (by simp [Act.eval, Act.put]) (hcpB _ hF1 hF2 3 (G - (i + 1)) (c - i)) ?_)
  go_wp2
  go_ret
  exact ⟨rfl, rfl⟩
end Go.Proofs.InsEntry
end

section
namespace Go.Proofs.Try1
open Go Go.Lite

theorem insEntry_ok : PrimOk Tryz.prog 287 (insertPrim 2) :=
  insertPrim_ok (T := 32) (zV := InsEntry.zV) (z := [.slc none 0, .slc none 0]) (bytes := 48) (fun _ => .cons .slcN (.cons .slcN .nil)) rfl (by decide)
    (enters Tryz.func287 (by kernel_rfl) (by kernel_rfl))
    InsEntry.shift InsEntry.endRoom InsEntry.endGrow InsEntry.grow
end Go.Proofs.Try1
end

section
namespace Go.Proofs
open Go.Shelf
def Tryz.laysSort_ren : Go.Shelf.Ren := ⟨fun | 190 => 341 | 125 => 318 | 258 => 399 | 128 => 389 | 129 => 390 | 302 => 430 | 303 => 431 | 304 => 432 | 305 => 433 | 306 => 434 | 307 => 435 | 308 => 436 | 309 => 437 | 310 => 438 | 333 => 448 | 329 => 421 | 330 => 422 | 334 => 449 | 335 => 450 | 336 => 346 | 344 => 452 | n => n, fun | 31 => 26 | 9 => 9 | 3 => 3 | 46 => 321 | 0 => 0 | 51 => 376 | 53 => 251 | 4 => 4 | 183 => 370 | 182 => 369 | 131 => 194 | 5 => 5 | 218 => 397 | 222 => 401 | 228 => 410 | 229 => 317 | n => n, fun | n => n⟩
theorem Tryz.laysSort : Go.Proofs.Lays.n190 Tryz.prog Tryz.laysSort_ren := {
  mixed := by kernel_rfl
  f125 := Tryz.func318.trans (congrArg some (by kernel_rfl))
  f128 := Tryz.func389.trans (congrArg some (by kernel_rfl))
  f129 := Tryz.func390.trans (congrArg some (by kernel_rfl))
  f190 := Tryz.func341.trans (congrArg some (by kernel_rfl))
  f258 := Tryz.func399.trans (congrArg some (by kernel_rfl))
  f302 := Tryz.func430.trans (congrArg some (by kernel_rfl))
  f303 := Tryz.func431.trans (congrArg some (by kernel_rfl))
  f304 := Tryz.func432.trans (congrArg some (by kernel_rfl))
  f305 := Tryz.func433.trans (congrArg some (by kernel_rfl))
  f306 := Tryz.func434.trans (congrArg some (by kernel_rfl))
  f307 := Tryz.func435.trans (congrArg some (by kernel_rfl))
  f308 := Tryz.func436.trans (congrArg some (by kernel_rfl))
  f309 := Tryz.func437.trans (congrArg some (by kernel_rfl))
  f310 := Tryz.func438.trans (congrArg some (by kernel_rfl))
  f329 := Tryz.func421.trans (congrArg some (by kernel_rfl))
  f330 := Tryz.func422.trans (congrArg some (by kernel_rfl))
  f333 := Tryz.func448.trans (congrArg some (by kernel_rfl))
  f334 := Tryz.func449.trans (congrArg some (by kernel_rfl))
  f335 := Tryz.func450.trans (congrArg some (by kernel_rfl))
  f336 := Tryz.func346.trans (congrArg some (by kernel_rfl))
  f344 := Tryz.func452.trans (congrArg some (by kernel_rfl))
  t0 := Tryz.underlying0
  a0 := Tryz.isAgg0
  z0 := Tryz.sizeOf0
  v0 := Tryz.zeroValue0
  t3 := Tryz.underlying3
  a3 := Tryz.isAgg3
  z3 := Tryz.sizeOf3
  v3 := Tryz.zeroValue3
  t4 := Tryz.underlying4
  a4 := Tryz.isAgg4
  z4 := Tryz.sizeOf4
  v4 := Tryz.zeroValue4
  t5 := Tryz.underlying5
  a5 := Tryz.isAgg5
  z5 := Tryz.sizeOf5
  v5 := Tryz.zeroValue5
  t9 := Tryz.underlying9
  a9 := Tryz.isAgg9
  z9 := Tryz.sizeOf9
  v9 := Tryz.zeroValue9
  t31 := Tryz.underlying26
  a31 := Tryz.isAgg26
  z31 := Tryz.sizeOf26
  v31 := Tryz.zeroValue26
  t46 := Tryz.underlying321
  a46 := Tryz.isAgg321
  z46 := Tryz.sizeOf321
  v46 := Tryz.zeroValue321
  t51 := Tryz.underlying376
  a51 := Tryz.isAgg376
  z51 := Tryz.sizeOf376
  v51 := Tryz.zeroValue376
  t53 := Tryz.underlying251
  a53 := Tryz.isAgg251
  z53 := Tryz.sizeOf251
  v53 := Tryz.zeroValue251
  t131 := Tryz.underlying194
  a131 := Tryz.isAgg194
  z131 := Tryz.sizeOf194
  v131 := Tryz.zeroValue194
  t182 := Tryz.underlying369
  a182 := Tryz.isAgg369
  z182 := Tryz.sizeOf369
  v182 := Tryz.zeroValue369
  t183 := Tryz.underlying370
  a183 := Tryz.isAgg370
  z183 := Tryz.sizeOf370
  v183 := Tryz.zeroValue370
  t218 := Tryz.underlying397
  a218 := Tryz.isAgg397
  z218 := Tryz.sizeOf397
  v218 := Tryz.zeroValue397
  t222 := Tryz.underlying401
  a222 := Tryz.isAgg401
  z222 := Tryz.sizeOf401
  v222 := Tryz.zeroValue401
  t228 := Tryz.underlying410
  a228 := Tryz.isAgg410
  z228 := Tryz.sizeOf410
  v228 := Tryz.zeroValue410
  t229 := Tryz.underlying317
  a229 := Tryz.isAgg317
  z229 := Tryz.sizeOf317
  v229 := Tryz.zeroValue317 }
end Go.Proofs
end

section
namespace Go.Proofs.Try1
open Go Go.Lite

theorem sort_ok : PrimOk Tryz.prog 341 sortPrim :=
  sortPrim_ok (enters Tryz.func341 (by kernel_rfl) (by kernel_rfl))
    (fun blk off cap zs w hH hb hl => calls_of_in fun D => AnyS.slices_Sort_string_alone Tryz.laysSort D blk off cap zs w hH hb hl)
    (fun p cap w => calls_of_in fun D => AnyS.slices_Sort_string_none_alone Tryz.laysSort D p cap w)
end Go.Proofs.Try1
end

section
namespace Go.Proofs.Try1
open Go Go.Lite

theorem progOk : ProgOk Tryz.prog C := progB_sound mixed ok fun g pr h => by
  change primTab g = some pr at h
  unfold primTab at h
  split at h
  · rename_i hg; subst hg; cases h; exact dk_ok
  split at h
  · rename_i hg; subst hg; cases h; exact nonePrim_ok
  split at h
  · rename_i hg; subst hg; cases h; exact insEntry_ok
  split at h
  · rename_i hg; subst hg; cases h; exact nonePrim_ok
  split at h
  · rename_i hg; subst hg; cases h; exact sort_ok
  split at h
  · rename_i hg; subst hg; cases h; exact cmp_ok
  cases h
end Go.Proofs.Try1
end
