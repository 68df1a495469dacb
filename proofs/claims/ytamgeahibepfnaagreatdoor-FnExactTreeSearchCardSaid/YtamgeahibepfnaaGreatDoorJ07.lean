/- Part 07 of the proof of a law: the interpreter, its soundness, and what functions of the program compute over it. Conditions: none but those that each theorem names. -/
import Derived.Test.YtamgeahibepfnaaGreatDoorJ06
import Derived.KernelRfl

set_option linter.all false
set_option maxRecDepth 20000
set_option maxHeartbeats 40000000
section
namespace Go.Proofs.Try1
open Go Go.Lite
noncomputable def C : Ctx := ctxOf Tryz.prog tabs
@[simp] theorem ty2 : C.ty 2 = ⟨.int .i64, 1, 8, [.int .i64 0]⟩ := by kernel_rfl
@[simp] theorem ty3 : C.ty 3 = ⟨.int .i64, 1, 8, [.int .i64 0]⟩ := by kernel_rfl
@[simp] theorem ty4 : C.ty 4 = ⟨.bool, 1, 1, [.bool false]⟩ := by kernel_rfl
@[simp] theorem ty5 : C.ty 5 = ⟨.int .u8, 1, 1, [.int .u8 0]⟩ := by kernel_rfl
@[simp] theorem ty9 : C.ty 9 = ⟨.str, 1, 16, [.str []]⟩ := by kernel_rfl
@[simp] theorem ty21 : C.ty 21 = ⟨.int .i32, 1, 4, [.int .i32 0]⟩ := by kernel_rfl
@[simp] theorem ty22 : C.ty 22 = ⟨.slice 99, 1, 24, [.slc none 0]⟩ := by kernel_rfl
@[simp] theorem ty23 : C.ty 23 = ⟨.slice 139, 1, 24, [.slc none 0]⟩ := by kernel_rfl
@[simp] theorem ty24 : C.ty 24 = ⟨.slice 175, 1, 24, [.slc none 0]⟩ := by kernel_rfl
@[simp] theorem ty26 : C.ty 26 = ⟨.struct [(0, 22), (1, 23), (2, 24), (3, 24), (4, 24), (5, 4)], 6, 128, [.slc none 0, .slc none 0, .slc none 0, .slc none 0, .slc none 0, .bool false]⟩ := by kernel_rfl
@[simp] theorem ty27 : C.ty 27 = ⟨.slice 178, 1, 24, [.slc none 0]⟩ := by kernel_rfl
@[simp] theorem ty29 : C.ty 29 = ⟨.struct [(0, 22), (1, 27)], 2, 48, [.slc none 0, .slc none 0]⟩ := by kernel_rfl
@[simp] theorem ty30 : C.ty 30 = ⟨.slice 9, 1, 24, [.slc none 0]⟩ := by kernel_rfl
@[simp] theorem ty35 : C.ty 35 = ⟨.slice 102, 1, 24, [.slc none 0]⟩ := by kernel_rfl
@[simp] theorem ty36 : C.ty 36 = ⟨.slice 146, 1, 24, [.slc none 0]⟩ := by kernel_rfl
@[simp] theorem ty37 : C.ty 37 = ⟨.slice 186, 1, 24, [.slc none 0]⟩ := by kernel_rfl
@[simp] theorem ty39 : C.ty 39 = ⟨.struct [(0, 35), (1, 36), (2, 37), (3, 37), (4, 37), (5, 4)], 6, 128, [.slc none 0, .slc none 0, .slc none 0, .slc none 0, .slc none 0, .bool false]⟩ := by kernel_rfl
@[simp] theorem ty41 : C.ty 41 = ⟨.slice 188, 1, 24, [.slc none 0]⟩ := by kernel_rfl
@[simp] theorem ty43 : C.ty 43 = ⟨.struct [(0, 35), (1, 41)], 2, 48, [.slc none 0, .slc none 0]⟩ := by kernel_rfl
@[simp] theorem ty55 : C.ty 55 = ⟨.slice 227, 1, 24, [.slc none 0]⟩ := by kernel_rfl
@[simp] theorem ty56 : C.ty 56 = ⟨.slice 29, 1, 24, [.slc none 0]⟩ := by kernel_rfl
@[simp] theorem ty58 : C.ty 58 = ⟨.struct [(0, 55), (1, 56)], 2, 48, [.slc none 0, .slc none 0]⟩ := by kernel_rfl
@[simp] theorem ty67 : C.ty 67 = ⟨.slice 232, 1, 24, [.slc none 0]⟩ := by kernel_rfl
@[simp] theorem ty68 : C.ty 68 = ⟨.slice 43, 1, 24, [.slc none 0]⟩ := by kernel_rfl
@[simp] theorem ty70 : C.ty 70 = ⟨.struct [(0, 67), (1, 68)], 2, 48, [.slc none 0, .slc none 0]⟩ := by kernel_rfl
@[simp] theorem ty84 : C.ty 84 = ⟨.struct [(0, 70), (2, 68), (3, 2)], 4, 80, [.slc none 0, .slc none 0, .slc none 0, .int .i64 0]⟩ := by kernel_rfl
@[simp] theorem ty99 : C.ty 99 = ⟨.struct [(0, 9), (1, 9)], 2, 32, [.str [], .str []]⟩ := by kernel_rfl
@[simp] theorem ty102 : C.ty 102 = ⟨.struct [(0, 9), (1, 9)], 2, 32, [.str [], .str []]⟩ := by kernel_rfl
@[simp] theorem ty105 : C.ty 105 = ⟨.slice 167, 1, 24, [.slc none 0]⟩ := by kernel_rfl
@[simp] theorem ty108 : C.ty 108 = ⟨.slice 169, 1, 24, [.slc none 0]⟩ := by kernel_rfl
@[simp] theorem ty116 : C.ty 116 = ⟨.func, 1, 8, [.nilfn]⟩ := by kernel_rfl
@[simp] theorem ty121 : C.ty 121 = ⟨.ptr, 1, 8, [.ptr none]⟩ := by kernel_rfl
@[simp] theorem ty130 : C.ty 130 = ⟨.func, 1, 8, [.nilfn]⟩ := by kernel_rfl
@[simp] theorem ty139 : C.ty 139 = ⟨.struct [(0, 2), (1, 9), (2, 9), (3, 2)], 4, 48, [.int .i64 0, .str [], .str [], .int .i64 0]⟩ := by kernel_rfl
@[simp] theorem ty146 : C.ty 146 = ⟨.struct [(0, 2), (1, 9), (2, 9), (3, 2)], 4, 48, [.int .i64 0, .str [], .str [], .int .i64 0]⟩ := by kernel_rfl
@[simp] theorem ty150 : C.ty 150 = ⟨.func, 1, 8, [.nilfn]⟩ := by kernel_rfl
@[simp] theorem ty160 : C.ty 160 = ⟨.func, 1, 8, [.nilfn]⟩ := by kernel_rfl
@[simp] theorem ty162 : C.ty 162 = ⟨.ptr, 1, 8, [.ptr none]⟩ := by kernel_rfl
@[simp] theorem ty164 : C.ty 164 = ⟨.func, 1, 8, [.nilfn]⟩ := by kernel_rfl
@[simp] theorem ty167 : C.ty 167 = ⟨.struct [(0, 2), (1, 9), (2, 30)], 3, 48, [.int .i64 0, .str [], .slc none 0]⟩ := by kernel_rfl
@[simp] theorem ty169 : C.ty 169 = ⟨.struct [(0, 2), (1, 9), (2, 30)], 3, 48, [.int .i64 0, .str [], .slc none 0]⟩ := by kernel_rfl
@[simp] theorem ty175 : C.ty 175 = ⟨.struct [(0, 2), (1, 9), (2, 2)], 3, 32, [.int .i64 0, .str [], .int .i64 0]⟩ := by kernel_rfl
@[simp] theorem ty178 : C.ty 178 = ⟨.struct [(0, 9), (1, 30)], 2, 40, [.str [], .slc none 0]⟩ := by kernel_rfl
@[simp] theorem ty186 : C.ty 186 = ⟨.struct [(0, 2), (1, 9), (2, 2)], 3, 32, [.int .i64 0, .str [], .int .i64 0]⟩ := by kernel_rfl
@[simp] theorem ty188 : C.ty 188 = ⟨.struct [(0, 9), (1, 30)], 2, 40, [.str [], .slc none 0]⟩ := by kernel_rfl
@[simp] theorem ty227 : C.ty 227 = ⟨.struct [(0, 9), (1, 30), (2, 30), (3, 30)], 4, 88, [.str [], .slc none 0, .slc none 0, .slc none 0]⟩ := by kernel_rfl
@[simp] theorem ty232 : C.ty 232 = ⟨.struct [(0, 9), (1, 30), (2, 30), (3, 30)], 4, 88, [.str [], .slc none 0, .slc none 0, .slc none 0]⟩ := by kernel_rfl
@[simp] theorem ty234 : C.ty 234 = ⟨.slice 35, 1, 24, [.slc none 0]⟩ := by kernel_rfl
@[simp] theorem ty242 : C.ty 242 = ⟨.slice 5, 1, 24, [.slc none 0]⟩ := by kernel_rfl
@[simp] theorem ty245 : C.ty 245 = ⟨.struct [(0, 35), (1, 2)], 2, 32, [.slc none 0, .int .i64 0]⟩ := by kernel_rfl
@[simp] theorem ty249 : C.ty 249 = ⟨.struct [(0, 43), (2, 2)], 3, 56, [.slc none 0, .slc none 0, .int .i64 0]⟩ := by kernel_rfl
@[simp] theorem ty262 : C.ty 262 = ⟨.func, 1, 8, [.nilfn]⟩ := by kernel_rfl
@[simp] theorem ty277 : C.ty 277 = ⟨.slice 30, 1, 24, [.slc none 0]⟩ := by kernel_rfl
@[simp] theorem ty280 : C.ty 280 = ⟨.func, 1, 8, [.nilfn]⟩ := by kernel_rfl
@[simp] theorem ty282 : C.ty 282 = ⟨.slice 2, 1, 24, [.slc none 0]⟩ := by kernel_rfl
@[simp] theorem ty294 : C.ty 294 = ⟨.func, 1, 8, [.nilfn]⟩ := by kernel_rfl
@[simp] theorem ty297 : C.ty 297 = ⟨.func, 1, 8, [.nilfn]⟩ := by kernel_rfl
@[simp] theorem ty309 : C.ty 309 = ⟨.array 256 4, 256, 256, List.replicate 256 (.bool false)⟩ := by kernel_rfl
@[simp] theorem ty313 : C.ty 313 = ⟨.ptr, 1, 8, [.ptr none]⟩ := by kernel_rfl
@[simp] theorem ty348 : C.ty 348 = ⟨.int .u64, 1, 8, [.int .u64 0]⟩ := by kernel_rfl
@[simp] theorem ty362 : C.ty 362 = ⟨.func, 1, 8, [.nilfn]⟩ := by kernel_rfl
@[simp] theorem ty381 : C.ty 381 = ⟨.array 256 5, 256, 256, List.replicate 256 (.int .u8 0)⟩ := by kernel_rfl
@[simp] theorem ty383 : C.ty 383 = ⟨.struct [(0, 5), (1, 5)], 2, 2, [.int .u8 0, .int .u8 0]⟩ := by kernel_rfl
@[simp] theorem ty384 : C.ty 384 = ⟨.array 16 383, 32, 32, List.replicate 32 (.int .u8 0)⟩ := by kernel_rfl
noncomputable def code3 : Code := match Tryz.f3.body with | some c => c | none => .skip
theorem fi3 : C.fids 3 = true := by kernel_rfl
theorem bo3 : Tryz.f3.body = some code3 := rfl
theorem pr3 : C.prim 3 = none := rfl
theorem fu3 : C.funcs 3 = some Tryz.f3 := Tryz.func3
theorem op3 {a : List V} {H : List Ob} {R : V → List Ob → Prop} : Ret C 3 a H R ↔ WP C 3 code3 ⟨initRegs a, 0, H⟩ (finQ C Tryz.f3 H R) := Ret_fn pr3 fi3 fu3 bo3
@[simp] theorem locs3 : C.locs 3 = [3, 4, 9, 10] := by kernel_rfl
noncomputable def code6 : Code := match Tryz.f6.body with | some c => c | none => .skip
theorem fi6 : C.fids 6 = true := by kernel_rfl
theorem bo6 : Tryz.f6.body = some code6 := rfl
theorem pr6 : C.prim 6 = none := rfl
theorem fu6 : C.funcs 6 = some Tryz.f6 := Tryz.func6
theorem op6 {a : List V} {H : List Ob} {R : V → List Ob → Prop} : Ret C 6 a H R ↔ WP C 6 code6 ⟨initRegs a, 0, H⟩ (finQ C Tryz.f6 H R) := Ret_fn pr6 fi6 fu6 bo6
@[simp] theorem locs6 : C.locs 6 = [4, 10, 11, 14, 18] := by kernel_rfl
@[simp] theorem locs7 : C.locs 7 = [4, 6, 10, 11, 14, 18] := by kernel_rfl
@[simp] theorem locs8 : C.locs 8 = [3, 8, 9, 12, 16] := by kernel_rfl
noncomputable def code9 : Code := match Tryz.f9.body with | some c => c | none => .skip
theorem fi9 : C.fids 9 = true := by kernel_rfl
theorem bo9 : Tryz.f9.body = some code9 := rfl
theorem pr9 : C.prim 9 = none := rfl
theorem fu9 : C.funcs 9 = some Tryz.f9 := Tryz.func9
theorem op9 {a : List V} {H : List Ob} {R : V → List Ob → Prop} : Ret C 9 a H R ↔ WP C 9 code9 ⟨initRegs a, 0, H⟩ (finQ C Tryz.f9 H R) := Ret_fn pr9 fi9 fu9 bo9
@[simp] theorem locs9 : C.locs 9 = [2] := by kernel_rfl
noncomputable def code10 : Code := match Tryz.f10.body with | some c => c | none => .skip
theorem fi10 : C.fids 10 = true := by kernel_rfl
theorem bo10 : Tryz.f10.body = some code10 := rfl
theorem pr10 : C.prim 10 = none := rfl
theorem fu10 : C.funcs 10 = some Tryz.f10 := Tryz.func10
theorem op10 {a : List V} {H : List Ob} {R : V → List Ob → Prop} : Ret C 10 a H R ↔ WP C 10 code10 ⟨initRegs a, 0, H⟩ (finQ C Tryz.f10 H R) := Ret_fn pr10 fi10 fu10 bo10
@[simp] theorem locs10 : C.locs 10 = [2] := by kernel_rfl
noncomputable def code11 : Code := match Tryz.f11.body with | some c => c | none => .skip
theorem fi11 : C.fids 11 = true := by kernel_rfl
theorem bo11 : Tryz.f11.body = some code11 := rfl
theorem pr11 : C.prim 11 = none := rfl
theorem fu11 : C.funcs 11 = some Tryz.f11 := Tryz.func11
theorem op11 {a : List V} {H : List Ob} {R : V → List Ob → Prop} : Ret C 11 a H R ↔ WP C 11 code11 ⟨initRegs a, 0, H⟩ (finQ C Tryz.f11 H R) := Ret_fn pr11 fi11 fu11 bo11
@[simp] theorem locs11 : C.locs 11 = [] := by kernel_rfl
noncomputable def code12 : Code := match Tryz.f12.body with | some c => c | none => .skip
theorem fi12 : C.fids 12 = true := by kernel_rfl
theorem bo12 : Tryz.f12.body = some code12 := rfl
theorem pr12 : C.prim 12 = none := rfl
theorem fu12 : C.funcs 12 = some Tryz.f12 := Tryz.func12
theorem op12 {a : List V} {H : List Ob} {R : V → List Ob → Prop} : Ret C 12 a H R ↔ WP C 12 code12 ⟨initRegs a, 0, H⟩ (finQ C Tryz.f12 H R) := Ret_fn pr12 fi12 fu12 bo12
@[simp] theorem locs12 : C.locs 12 = [3, 4] := by kernel_rfl
noncomputable def code13 : Code := match Tryz.f13.body with | some c => c | none => .skip
theorem fi13 : C.fids 13 = true := by kernel_rfl
theorem bo13 : Tryz.f13.body = some code13 := rfl
theorem pr13 : C.prim 13 = none := rfl
theorem fu13 : C.funcs 13 = some Tryz.f13 := Tryz.func13
theorem op13 {a : List V} {H : List Ob} {R : V → List Ob → Prop} : Ret C 13 a H R ↔ WP C 13 code13 ⟨initRegs a, 0, H⟩ (finQ C Tryz.f13 H R) := Ret_fn pr13 fi13 fu13 bo13
@[simp] theorem locs13 : C.locs 13 = [1, 2, 3] := by kernel_rfl
noncomputable def code14 : Code := match Tryz.f14.body with | some c => c | none => .skip
theorem fi14 : C.fids 14 = true := by kernel_rfl
theorem bo14 : Tryz.f14.body = some code14 := rfl
theorem pr14 : C.prim 14 = none := rfl
theorem fu14 : C.funcs 14 = some Tryz.f14 := Tryz.func14
theorem op14 {a : List V} {H : List Ob} {R : V → List Ob → Prop} : Ret C 14 a H R ↔ WP C 14 code14 ⟨initRegs a, 0, H⟩ (finQ C Tryz.f14 H R) := Ret_fn pr14 fi14 fu14 bo14
@[simp] theorem locs14 : C.locs 14 = [1, 2, 3] := by kernel_rfl
noncomputable def code15 : Code := match Tryz.f15.body with | some c => c | none => .skip
theorem fi15 : C.fids 15 = true := by kernel_rfl
theorem bo15 : Tryz.f15.body = some code15 := rfl
theorem pr15 : C.prim 15 = none := rfl
theorem fu15 : C.funcs 15 = some Tryz.f15 := Tryz.func15
theorem op15 {a : List V} {H : List Ob} {R : V → List Ob → Prop} : Ret C 15 a H R ↔ WP C 15 code15 ⟨initRegs a, 0, H⟩ (finQ C Tryz.f15 H R) := Ret_fn pr15 fi15 fu15 bo15
@[simp] theorem locs15 : C.locs 15 = [] := by kernel_rfl
noncomputable def code16 : Code := match Tryz.f16.body with | some c => c | none => .skip
theorem fi16 : C.fids 16 = true := by kernel_rfl
theorem bo16 : Tryz.f16.body = some code16 := rfl
theorem pr16 : C.prim 16 = none := rfl
theorem fu16 : C.funcs 16 = some Tryz.f16 := Tryz.func16
theorem op16 {a : List V} {H : List Ob} {R : V → List Ob → Prop} : Ret C 16 a H R ↔ WP C 16 code16 ⟨initRegs a, 0, H⟩ (finQ C Tryz.f16 H R) := Ret_fn pr16 fi16 fu16 bo16
@[simp] theorem locs16 : C.locs 16 = [3] := by kernel_rfl
noncomputable def code17 : Code := match Tryz.f17.body with | some c => c | none => .skip
theorem fi17 : C.fids 17 = true := by kernel_rfl
theorem bo17 : Tryz.f17.body = some code17 := rfl
theorem pr17 : C.prim 17 = none := rfl
theorem fu17 : C.funcs 17 = some Tryz.f17 := Tryz.func17
theorem op17 {a : List V} {H : List Ob} {R : V → List Ob → Prop} : Ret C 17 a H R ↔ WP C 17 code17 ⟨initRegs a, 0, H⟩ (finQ C Tryz.f17 H R) := Ret_fn pr17 fi17 fu17 bo17
@[simp] theorem locs17 : C.locs 17 = [2, 3] := by kernel_rfl
noncomputable def code18 : Code := match Tryz.f18.body with | some c => c | none => .skip
theorem fi18 : C.fids 18 = true := by kernel_rfl
theorem bo18 : Tryz.f18.body = some code18 := rfl
theorem pr18 : C.prim 18 = none := rfl
theorem fu18 : C.funcs 18 = some Tryz.f18 := Tryz.func18
theorem op18 {a : List V} {H : List Ob} {R : V → List Ob → Prop} : Ret C 18 a H R ↔ WP C 18 code18 ⟨initRegs a, 0, H⟩ (finQ C Tryz.f18 H R) := Ret_fn pr18 fi18 fu18 bo18
@[simp] theorem locs18 : C.locs 18 = [2, 3] := by kernel_rfl
noncomputable def code19 : Code := match Tryz.f19.body with | some c => c | none => .skip
theorem fi19 : C.fids 19 = true := by kernel_rfl
theorem bo19 : Tryz.f19.body = some code19 := rfl
theorem pr19 : C.prim 19 = none := rfl
theorem fu19 : C.funcs 19 = some Tryz.f19 := Tryz.func19
theorem op19 {a : List V} {H : List Ob} {R : V → List Ob → Prop} : Ret C 19 a H R ↔ WP C 19 code19 ⟨initRegs a, 0, H⟩ (finQ C Tryz.f19 H R) := Ret_fn pr19 fi19 fu19 bo19
@[simp] theorem locs19 : C.locs 19 = [] := by kernel_rfl
noncomputable def code28 : Code := match Tryz.f28.body with | some c => c | none => .skip
theorem fi28 : C.fids 28 = true := by kernel_rfl
theorem bo28 : Tryz.f28.body = some code28 := rfl
theorem pr28 : C.prim 28 = none := rfl
theorem fu28 : C.funcs 28 = some Tryz.f28 := Tryz.func28
theorem op28 {a : List V} {H : List Ob} {R : V → List Ob → Prop} : Ret C 28 a H R ↔ WP C 28 code28 ⟨initRegs a, 0, H⟩ (finQ C Tryz.f28 H R) := Ret_fn pr28 fi28 fu28 bo28
@[simp] theorem locs28 : C.locs 28 = [2] := by kernel_rfl
noncomputable def code29 : Code := match Tryz.f29.body with | some c => c | none => .skip
theorem fi29 : C.fids 29 = true := by kernel_rfl
theorem bo29 : Tryz.f29.body = some code29 := rfl
theorem pr29 : C.prim 29 = none := rfl
theorem fu29 : C.funcs 29 = some Tryz.f29 := Tryz.func29
theorem op29 {a : List V} {H : List Ob} {R : V → List Ob → Prop} : Ret C 29 a H R ↔ WP C 29 code29 ⟨initRegs a, 0, H⟩ (finQ C Tryz.f29 H R) := Ret_fn pr29 fi29 fu29 bo29
@[simp] theorem locs29 : C.locs 29 = [] := by kernel_rfl
noncomputable def code30 : Code := match Tryz.f30.body with | some c => c | none => .skip
theorem fi30 : C.fids 30 = true := by kernel_rfl
theorem bo30 : Tryz.f30.body = some code30 := rfl
theorem pr30 : C.prim 30 = none := rfl
theorem fu30 : C.funcs 30 = some Tryz.f30 := Tryz.func30
theorem op30 {a : List V} {H : List Ob} {R : V → List Ob → Prop} : Ret C 30 a H R ↔ WP C 30 code30 ⟨initRegs a, 0, H⟩ (finQ C Tryz.f30 H R) := Ret_fn pr30 fi30 fu30 bo30
@[simp] theorem locs30 : C.locs 30 = [] := by kernel_rfl
noncomputable def code31 : Code := match Tryz.f31.body with | some c => c | none => .skip
theorem fi31 : C.fids 31 = true := by kernel_rfl
theorem bo31 : Tryz.f31.body = some code31 := rfl
theorem pr31 : C.prim 31 = none := rfl
theorem fu31 : C.funcs 31 = some Tryz.f31 := Tryz.func31
theorem op31 {a : List V} {H : List Ob} {R : V → List Ob → Prop} : Ret C 31 a H R ↔ WP C 31 code31 ⟨initRegs a, 0, H⟩ (finQ C Tryz.f31 H R) := Ret_fn pr31 fi31 fu31 bo31
@[simp] theorem locs31 : C.locs 31 = [4, 8] := by kernel_rfl
noncomputable def code32 : Code := match Tryz.f32.body with | some c => c | none => .skip
theorem fi32 : C.fids 32 = true := by kernel_rfl
theorem bo32 : Tryz.f32.body = some code32 := rfl
theorem pr32 : C.prim 32 = none := rfl
theorem fu32 : C.funcs 32 = some Tryz.f32 := Tryz.func32
theorem op32 {a : List V} {H : List Ob} {R : V → List Ob → Prop} : Ret C 32 a H R ↔ WP C 32 code32 ⟨initRegs a, 0, H⟩ (finQ C Tryz.f32 H R) := Ret_fn pr32 fi32 fu32 bo32
@[simp] theorem locs32 : C.locs 32 = [1, 2, 3] := by kernel_rfl
noncomputable def code33 : Code := match Tryz.f33.body with | some c => c | none => .skip
theorem fi33 : C.fids 33 = true := by kernel_rfl
theorem bo33 : Tryz.f33.body = some code33 := rfl
theorem pr33 : C.prim 33 = none := rfl
theorem fu33 : C.funcs 33 = some Tryz.f33 := Tryz.func33
theorem op33 {a : List V} {H : List Ob} {R : V → List Ob → Prop} : Ret C 33 a H R ↔ WP C 33 code33 ⟨initRegs a, 0, H⟩ (finQ C Tryz.f33 H R) := Ret_fn pr33 fi33 fu33 bo33
@[simp] theorem locs33 : C.locs 33 = [] := by kernel_rfl
noncomputable def code34 : Code := match Tryz.f34.body with | some c => c | none => .skip
theorem fi34 : C.fids 34 = true := by kernel_rfl
theorem bo34 : Tryz.f34.body = some code34 := rfl
theorem pr34 : C.prim 34 = none := rfl
theorem fu34 : C.funcs 34 = some Tryz.f34 := Tryz.func34
theorem op34 {a : List V} {H : List Ob} {R : V → List Ob → Prop} : Ret C 34 a H R ↔ WP C 34 code34 ⟨initRegs a, 0, H⟩ (finQ C Tryz.f34 H R) := Ret_fn pr34 fi34 fu34 bo34
@[simp] theorem locs34 : C.locs 34 = [] := by kernel_rfl
noncomputable def code35 : Code := match Tryz.f35.body with | some c => c | none => .skip
theorem fi35 : C.fids 35 = true := by kernel_rfl
theorem bo35 : Tryz.f35.body = some code35 := rfl
theorem pr35 : C.prim 35 = none := rfl
theorem fu35 : C.funcs 35 = some Tryz.f35 := Tryz.func35
theorem op35 {a : List V} {H : List Ob} {R : V → List Ob → Prop} : Ret C 35 a H R ↔ WP C 35 code35 ⟨initRegs a, 0, H⟩ (finQ C Tryz.f35 H R) := Ret_fn pr35 fi35 fu35 bo35
@[simp] theorem locs35 : C.locs 35 = [8] := by kernel_rfl
noncomputable def code36 : Code := match Tryz.f36.body with | some c => c | none => .skip
theorem fi36 : C.fids 36 = true := by kernel_rfl
theorem bo36 : Tryz.f36.body = some code36 := rfl
theorem pr36 : C.prim 36 = none := rfl
theorem fu36 : C.funcs 36 = some Tryz.f36 := Tryz.func36
theorem op36 {a : List V} {H : List Ob} {R : V → List Ob → Prop} : Ret C 36 a H R ↔ WP C 36 code36 ⟨initRegs a, 0, H⟩ (finQ C Tryz.f36 H R) := Ret_fn pr36 fi36 fu36 bo36
@[simp] theorem locs36 : C.locs 36 = [2, 3] := by kernel_rfl
noncomputable def code37 : Code := match Tryz.f37.body with | some c => c | none => .skip
theorem fi37 : C.fids 37 = true := by kernel_rfl
theorem bo37 : Tryz.f37.body = some code37 := rfl
theorem pr37 : C.prim 37 = none := rfl
theorem fu37 : C.funcs 37 = some Tryz.f37 := Tryz.func37
theorem op37 {a : List V} {H : List Ob} {R : V → List Ob → Prop} : Ret C 37 a H R ↔ WP C 37 code37 ⟨initRegs a, 0, H⟩ (finQ C Tryz.f37 H R) := Ret_fn pr37 fi37 fu37 bo37
@[simp] theorem locs37 : C.locs 37 = [2, 3] := by kernel_rfl
noncomputable def code38 : Code := match Tryz.f38.body with | some c => c | none => .skip
theorem fi38 : C.fids 38 = true := by kernel_rfl
theorem bo38 : Tryz.f38.body = some code38 := rfl
theorem pr38 : C.prim 38 = none := rfl
theorem fu38 : C.funcs 38 = some Tryz.f38 := Tryz.func38
theorem op38 {a : List V} {H : List Ob} {R : V → List Ob → Prop} : Ret C 38 a H R ↔ WP C 38 code38 ⟨initRegs a, 0, H⟩ (finQ C Tryz.f38 H R) := Ret_fn pr38 fi38 fu38 bo38
@[simp] theorem locs38 : C.locs 38 = [] := by kernel_rfl
noncomputable def code39 : Code := match Tryz.f39.body with | some c => c | none => .skip
theorem fi39 : C.fids 39 = true := by kernel_rfl
theorem bo39 : Tryz.f39.body = some code39 := rfl
theorem pr39 : C.prim 39 = none := rfl
theorem fu39 : C.funcs 39 = some Tryz.f39 := Tryz.func39
theorem op39 {a : List V} {H : List Ob} {R : V → List Ob → Prop} : Ret C 39 a H R ↔ WP C 39 code39 ⟨initRegs a, 0, H⟩ (finQ C Tryz.f39 H R) := Ret_fn pr39 fi39 fu39 bo39
@[simp] theorem locs39 : C.locs 39 = [] := by kernel_rfl
noncomputable def code40 : Code := match Tryz.f40.body with | some c => c | none => .skip
theorem fi40 : C.fids 40 = true := by kernel_rfl
theorem bo40 : Tryz.f40.body = some code40 := rfl
theorem pr40 : C.prim 40 = none := rfl
theorem fu40 : C.funcs 40 = some Tryz.f40 := Tryz.func40
theorem op40 {a : List V} {H : List Ob} {R : V → List Ob → Prop} : Ret C 40 a H R ↔ WP C 40 code40 ⟨initRegs a, 0, H⟩ (finQ C Tryz.f40 H R) := Ret_fn pr40 fi40 fu40 bo40
@[simp] theorem locs40 : C.locs 40 = [2] := by kernel_rfl
noncomputable def code41 : Code := match Tryz.f41.body with | some c => c | none => .skip
theorem fi41 : C.fids 41 = true := by kernel_rfl
theorem bo41 : Tryz.f41.body = some code41 := rfl
theorem pr41 : C.prim 41 = none := rfl
theorem fu41 : C.funcs 41 = some Tryz.f41 := Tryz.func41
theorem op41 {a : List V} {H : List Ob} {R : V → List Ob → Prop} : Ret C 41 a H R ↔ WP C 41 code41 ⟨initRegs a, 0, H⟩ (finQ C Tryz.f41 H R) := Ret_fn pr41 fi41 fu41 bo41
@[simp] theorem locs41 : C.locs 41 = [] := by kernel_rfl
noncomputable def code42 : Code := match Tryz.f42.body with | some c => c | none => .skip
theorem fi42 : C.fids 42 = true := by kernel_rfl
theorem bo42 : Tryz.f42.body = some code42 := rfl
theorem pr42 : C.prim 42 = none := rfl
theorem fu42 : C.funcs 42 = some Tryz.f42 := Tryz.func42
theorem op42 {a : List V} {H : List Ob} {R : V → List Ob → Prop} : Ret C 42 a H R ↔ WP C 42 code42 ⟨initRegs a, 0, H⟩ (finQ C Tryz.f42 H R) := Ret_fn pr42 fi42 fu42 bo42
@[simp] theorem locs42 : C.locs 42 = [] := by kernel_rfl
noncomputable def code43 : Code := match Tryz.f43.body with | some c => c | none => .skip
theorem fi43 : C.fids 43 = true := by kernel_rfl
theorem bo43 : Tryz.f43.body = some code43 := rfl
theorem pr43 : C.prim 43 = none := rfl
theorem fu43 : C.funcs 43 = some Tryz.f43 := Tryz.func43
theorem op43 {a : List V} {H : List Ob} {R : V → List Ob → Prop} : Ret C 43 a H R ↔ WP C 43 code43 ⟨initRegs a, 0, H⟩ (finQ C Tryz.f43 H R) := Ret_fn pr43 fi43 fu43 bo43
@[simp] theorem locs43 : C.locs 43 = [2] := by kernel_rfl
noncomputable def code44 : Code := match Tryz.f44.body with | some c => c | none => .skip
theorem fi44 : C.fids 44 = true := by kernel_rfl
theorem bo44 : Tryz.f44.body = some code44 := rfl
theorem pr44 : C.prim 44 = none := rfl
theorem fu44 : C.funcs 44 = some Tryz.f44 := Tryz.func44
theorem op44 {a : List V} {H : List Ob} {R : V → List Ob → Prop} : Ret C 44 a H R ↔ WP C 44 code44 ⟨initRegs a, 0, H⟩ (finQ C Tryz.f44 H R) := Ret_fn pr44 fi44 fu44 bo44
@[simp] theorem locs44 : C.locs 44 = [2] := by kernel_rfl
noncomputable def code45 : Code := match Tryz.f45.body with | some c => c | none => .skip
theorem fi45 : C.fids 45 = true := by kernel_rfl
theorem bo45 : Tryz.f45.body = some code45 := rfl
theorem pr45 : C.prim 45 = none := rfl
theorem fu45 : C.funcs 45 = some Tryz.f45 := Tryz.func45
theorem op45 {a : List V} {H : List Ob} {R : V → List Ob → Prop} : Ret C 45 a H R ↔ WP C 45 code45 ⟨initRegs a, 0, H⟩ (finQ C Tryz.f45 H R) := Ret_fn pr45 fi45 fu45 bo45
@[simp] theorem locs45 : C.locs 45 = [2] := by kernel_rfl
@[simp] theorem locs46 : C.locs 46 = [4, 6, 8] := by kernel_rfl
noncomputable def code47 : Code := match Tryz.f47.body with | some c => c | none => .skip
theorem fi47 : C.fids 47 = true := by kernel_rfl
theorem bo47 : Tryz.f47.body = some code47 := rfl
theorem pr47 : C.prim 47 = none := rfl
theorem fu47 : C.funcs 47 = some Tryz.f47 := Tryz.func47
theorem op47 {a : List V} {H : List Ob} {R : V → List Ob → Prop} : Ret C 47 a H R ↔ WP C 47 code47 ⟨initRegs a, 0, H⟩ (finQ C Tryz.f47 H R) := Ret_fn pr47 fi47 fu47 bo47
@[simp] theorem locs47 : C.locs 47 = [1, 2, 3] := by kernel_rfl
@[simp] theorem locs48 : C.locs 48 = [8] := by kernel_rfl
@[simp] theorem locs49 : C.locs 49 = [] := by kernel_rfl
@[simp] theorem locs50 : C.locs 50 = [3, 6] := by kernel_rfl
@[simp] theorem locs51 : C.locs 51 = [] := by kernel_rfl
@[simp] theorem locs52 : C.locs 52 = [6] := by kernel_rfl
@[simp] theorem locs53 : C.locs 53 = [] := by kernel_rfl
@[simp] theorem locs54 : C.locs 54 = [] := by kernel_rfl
noncomputable def code55 : Code := match Tryz.f55.body with | some c => c | none => .skip
theorem fi55 : C.fids 55 = true := by kernel_rfl
theorem bo55 : Tryz.f55.body = some code55 := rfl
theorem pr55 : C.prim 55 = none := rfl
theorem fu55 : C.funcs 55 = some Tryz.f55 := Tryz.func55
theorem op55 {a : List V} {H : List Ob} {R : V → List Ob → Prop} : Ret C 55 a H R ↔ WP C 55 code55 ⟨initRegs a, 0, H⟩ (finQ C Tryz.f55 H R) := Ret_fn pr55 fi55 fu55 bo55
@[simp] theorem locs55 : C.locs 55 = [] := by kernel_rfl
noncomputable def code56 : Code := match Tryz.f56.body with | some c => c | none => .skip
theorem fi56 : C.fids 56 = true := by kernel_rfl
theorem bo56 : Tryz.f56.body = some code56 := rfl
theorem pr56 : C.prim 56 = none := rfl
theorem fu56 : C.funcs 56 = some Tryz.f56 := Tryz.func56
theorem op56 {a : List V} {H : List Ob} {R : V → List Ob → Prop} : Ret C 56 a H R ↔ WP C 56 code56 ⟨initRegs a, 0, H⟩ (finQ C Tryz.f56 H R) := Ret_fn pr56 fi56 fu56 bo56
@[simp] theorem locs56 : C.locs 56 = [] := by kernel_rfl
noncomputable def code57 : Code := match Tryz.f57.body with | some c => c | none => .skip
theorem fi57 : C.fids 57 = true := by kernel_rfl
theorem bo57 : Tryz.f57.body = some code57 := rfl
theorem pr57 : C.prim 57 = none := rfl
theorem fu57 : C.funcs 57 = some Tryz.f57 := Tryz.func57
theorem op57 {a : List V} {H : List Ob} {R : V → List Ob → Prop} : Ret C 57 a H R ↔ WP C 57 code57 ⟨initRegs a, 0, H⟩ (finQ C Tryz.f57 H R) := Ret_fn pr57 fi57 fu57 bo57
@[simp] theorem locs57 : C.locs 57 = [1] := by kernel_rfl
noncomputable def code58 : Code := match Tryz.f58.body with | some c => c | none => .skip
theorem fi58 : C.fids 58 = true := by kernel_rfl
theorem bo58 : Tryz.f58.body = some code58 := rfl
theorem pr58 : C.prim 58 = none := rfl
theorem fu58 : C.funcs 58 = some Tryz.f58 := Tryz.func58
theorem op58 {a : List V} {H : List Ob} {R : V → List Ob → Prop} : Ret C 58 a H R ↔ WP C 58 code58 ⟨initRegs a, 0, H⟩ (finQ C Tryz.f58 H R) := Ret_fn pr58 fi58 fu58 bo58
@[simp] theorem locs58 : C.locs 58 = [1] := by kernel_rfl
noncomputable def code59 : Code := match Tryz.f59.body with | some c => c | none => .skip
theorem fi59 : C.fids 59 = true := by kernel_rfl
theorem bo59 : Tryz.f59.body = some code59 := rfl
theorem pr59 : C.prim 59 = none := rfl
theorem fu59 : C.funcs 59 = some Tryz.f59 := Tryz.func59
theorem op59 {a : List V} {H : List Ob} {R : V → List Ob → Prop} : Ret C 59 a H R ↔ WP C 59 code59 ⟨initRegs a, 0, H⟩ (finQ C Tryz.f59 H R) := Ret_fn pr59 fi59 fu59 bo59
@[simp] theorem locs59 : C.locs 59 = [] := by kernel_rfl
noncomputable def code60 : Code := match Tryz.f60.body with | some c => c | none => .skip
theorem fi60 : C.fids 60 = true := by kernel_rfl
theorem bo60 : Tryz.f60.body = some code60 := rfl
theorem pr60 : C.prim 60 = none := rfl
theorem fu60 : C.funcs 60 = some Tryz.f60 := Tryz.func60
theorem op60 {a : List V} {H : List Ob} {R : V → List Ob → Prop} : Ret C 60 a H R ↔ WP C 60 code60 ⟨initRegs a, 0, H⟩ (finQ C Tryz.f60 H R) := Ret_fn pr60 fi60 fu60 bo60
@[simp] theorem locs60 : C.locs 60 = [3, 4] := by kernel_rfl
noncomputable def code61 : Code := match Tryz.f61.body with | some c => c | none => .skip
theorem fi61 : C.fids 61 = true := by kernel_rfl
theorem bo61 : Tryz.f61.body = some code61 := rfl
theorem pr61 : C.prim 61 = none := rfl
theorem fu61 : C.funcs 61 = some Tryz.f61 := Tryz.func61
theorem op61 {a : List V} {H : List Ob} {R : V → List Ob → Prop} : Ret C 61 a H R ↔ WP C 61 code61 ⟨initRegs a, 0, H⟩ (finQ C Tryz.f61 H R) := Ret_fn pr61 fi61 fu61 bo61
@[simp] theorem locs61 : C.locs 61 = [] := by kernel_rfl
noncomputable def code62 : Code := match Tryz.f62.body with | some c => c | none => .skip
theorem fi62 : C.fids 62 = true := by kernel_rfl
theorem bo62 : Tryz.f62.body = some code62 := rfl
theorem pr62 : C.prim 62 = none := rfl
theorem fu62 : C.funcs 62 = some Tryz.f62 := Tryz.func62
theorem op62 {a : List V} {H : List Ob} {R : V → List Ob → Prop} : Ret C 62 a H R ↔ WP C 62 code62 ⟨initRegs a, 0, H⟩ (finQ C Tryz.f62 H R) := Ret_fn pr62 fi62 fu62 bo62
@[simp] theorem locs62 : C.locs 62 = [] := by kernel_rfl
noncomputable def code63 : Code := match Tryz.f63.body with | some c => c | none => .skip
theorem fi63 : C.fids 63 = true := by kernel_rfl
theorem bo63 : Tryz.f63.body = some code63 := rfl
theorem pr63 : C.prim 63 = none := rfl
theorem fu63 : C.funcs 63 = some Tryz.f63 := Tryz.func63
theorem op63 {a : List V} {H : List Ob} {R : V → List Ob → Prop} : Ret C 63 a H R ↔ WP C 63 code63 ⟨initRegs a, 0, H⟩ (finQ C Tryz.f63 H R) := Ret_fn pr63 fi63 fu63 bo63
@[simp] theorem locs63 : C.locs 63 = [] := by kernel_rfl
noncomputable def code64 : Code := match Tryz.f64.body with | some c => c | none => .skip
theorem fi64 : C.fids 64 = true := by kernel_rfl
theorem bo64 : Tryz.f64.body = some code64 := rfl
theorem pr64 : C.prim 64 = none := rfl
theorem fu64 : C.funcs 64 = some Tryz.f64 := Tryz.func64
theorem op64 {a : List V} {H : List Ob} {R : V → List Ob → Prop} : Ret C 64 a H R ↔ WP C 64 code64 ⟨initRegs a, 0, H⟩ (finQ C Tryz.f64 H R) := Ret_fn pr64 fi64 fu64 bo64
@[simp] theorem locs64 : C.locs 64 = [1] := by kernel_rfl
noncomputable def code65 : Code := match Tryz.f65.body with | some c => c | none => .skip
theorem fi65 : C.fids 65 = true := by kernel_rfl
theorem bo65 : Tryz.f65.body = some code65 := rfl
theorem pr65 : C.prim 65 = none := rfl
theorem fu65 : C.funcs 65 = some Tryz.f65 := Tryz.func65
theorem op65 {a : List V} {H : List Ob} {R : V → List Ob → Prop} : Ret C 65 a H R ↔ WP C 65 code65 ⟨initRegs a, 0, H⟩ (finQ C Tryz.f65 H R) := Ret_fn pr65 fi65 fu65 bo65
@[simp] theorem locs65 : C.locs 65 = [1, 4] := by kernel_rfl
noncomputable def code66 : Code := match Tryz.f66.body with | some c => c | none => .skip
theorem fi66 : C.fids 66 = true := by kernel_rfl
theorem bo66 : Tryz.f66.body = some code66 := rfl
theorem pr66 : C.prim 66 = none := rfl
theorem fu66 : C.funcs 66 = some Tryz.f66 := Tryz.func66
theorem op66 {a : List V} {H : List Ob} {R : V → List Ob → Prop} : Ret C 66 a H R ↔ WP C 66 code66 ⟨initRegs a, 0, H⟩ (finQ C Tryz.f66 H R) := Ret_fn pr66 fi66 fu66 bo66
@[simp] theorem locs66 : C.locs 66 = [] := by kernel_rfl
noncomputable def code67 : Code := match Tryz.f67.body with | some c => c | none => .skip
theorem fi67 : C.fids 67 = true := by kernel_rfl
theorem bo67 : Tryz.f67.body = some code67 := rfl
theorem pr67 : C.prim 67 = none := rfl
theorem fu67 : C.funcs 67 = some Tryz.f67 := Tryz.func67
theorem op67 {a : List V} {H : List Ob} {R : V → List Ob → Prop} : Ret C 67 a H R ↔ WP C 67 code67 ⟨initRegs a, 0, H⟩ (finQ C Tryz.f67 H R) := Ret_fn pr67 fi67 fu67 bo67
@[simp] theorem locs67 : C.locs 67 = [3] := by kernel_rfl
noncomputable def code68 : Code := match Tryz.f68.body with | some c => c | none => .skip
theorem fi68 : C.fids 68 = true := by kernel_rfl
theorem bo68 : Tryz.f68.body = some code68 := rfl
theorem pr68 : C.prim 68 = none := rfl
theorem fu68 : C.funcs 68 = some Tryz.f68 := Tryz.func68
theorem op68 {a : List V} {H : List Ob} {R : V → List Ob → Prop} : Ret C 68 a H R ↔ WP C 68 code68 ⟨initRegs a, 0, H⟩ (finQ C Tryz.f68 H R) := Ret_fn pr68 fi68 fu68 bo68
@[simp] theorem locs68 : C.locs 68 = [] := by kernel_rfl
noncomputable def code69 : Code := match Tryz.f69.body with | some c => c | none => .skip
theorem fi69 : C.fids 69 = true := by kernel_rfl
theorem bo69 : Tryz.f69.body = some code69 := rfl
theorem pr69 : C.prim 69 = none := rfl
theorem fu69 : C.funcs 69 = some Tryz.f69 := Tryz.func69
theorem op69 {a : List V} {H : List Ob} {R : V → List Ob → Prop} : Ret C 69 a H R ↔ WP C 69 code69 ⟨initRegs a, 0, H⟩ (finQ C Tryz.f69 H R) := Ret_fn pr69 fi69 fu69 bo69
@[simp] theorem locs69 : C.locs 69 = [] := by kernel_rfl
noncomputable def code74 : Code := match Tryz.f74.body with | some c => c | none => .skip
theorem fi74 : C.fids 74 = true := by kernel_rfl
theorem bo74 : Tryz.f74.body = some code74 := rfl
theorem pr74 : C.prim 74 = none := rfl
theorem fu74 : C.funcs 74 = some Tryz.f74 := Tryz.func74
theorem op74 {a : List V} {H : List Ob} {R : V → List Ob → Prop} : Ret C 74 a H R ↔ WP C 74 code74 ⟨initRegs a, 0, H⟩ (finQ C Tryz.f74 H R) := Ret_fn pr74 fi74 fu74 bo74
@[simp] theorem locs74 : C.locs 74 = [1, 4] := by kernel_rfl
noncomputable def code77 : Code := match Tryz.f77.body with | some c => c | none => .skip
theorem fi77 : C.fids 77 = true := by kernel_rfl
theorem bo77 : Tryz.f77.body = some code77 := rfl
theorem pr77 : C.prim 77 = none := rfl
theorem fu77 : C.funcs 77 = some Tryz.f77 := Tryz.func77
theorem op77 {a : List V} {H : List Ob} {R : V → List Ob → Prop} : Ret C 77 a H R ↔ WP C 77 code77 ⟨initRegs a, 0, H⟩ (finQ C Tryz.f77 H R) := Ret_fn pr77 fi77 fu77 bo77
@[simp] theorem locs77 : C.locs 77 = [] := by kernel_rfl
noncomputable def code80 : Code := match Tryz.f80.body with | some c => c | none => .skip
theorem fi80 : C.fids 80 = true := by kernel_rfl
theorem bo80 : Tryz.f80.body = some code80 := rfl
theorem pr80 : C.prim 80 = none := rfl
theorem fu80 : C.funcs 80 = some Tryz.f80 := Tryz.func80
theorem op80 {a : List V} {H : List Ob} {R : V → List Ob → Prop} : Ret C 80 a H R ↔ WP C 80 code80 ⟨initRegs a, 0, H⟩ (finQ C Tryz.f80 H R) := Ret_fn pr80 fi80 fu80 bo80
@[simp] theorem locs80 : C.locs 80 = [4] := by kernel_rfl
noncomputable def code83 : Code := match Tryz.f83.body with | some c => c | none => .skip
theorem fi83 : C.fids 83 = true := by kernel_rfl
theorem bo83 : Tryz.f83.body = some code83 := rfl
theorem pr83 : C.prim 83 = none := rfl
theorem fu83 : C.funcs 83 = some Tryz.f83 := Tryz.func83
theorem op83 {a : List V} {H : List Ob} {R : V → List Ob → Prop} : Ret C 83 a H R ↔ WP C 83 code83 ⟨initRegs a, 0, H⟩ (finQ C Tryz.f83 H R) := Ret_fn pr83 fi83 fu83 bo83
@[simp] theorem locs83 : C.locs 83 = [] := by kernel_rfl
noncomputable def code86 : Code := match Tryz.f86.body with | some c => c | none => .skip
theorem fi86 : C.fids 86 = true := by kernel_rfl
theorem bo86 : Tryz.f86.body = some code86 := rfl
theorem pr86 : C.prim 86 = none := rfl
theorem fu86 : C.funcs 86 = some Tryz.f86 := Tryz.func86
theorem op86 {a : List V} {H : List Ob} {R : V → List Ob → Prop} : Ret C 86 a H R ↔ WP C 86 code86 ⟨initRegs a, 0, H⟩ (finQ C Tryz.f86 H R) := Ret_fn pr86 fi86 fu86 bo86
@[simp] theorem locs86 : C.locs 86 = [] := by kernel_rfl
noncomputable def code87 : Code := match Tryz.f87.body with | some c => c | none => .skip
theorem fi87 : C.fids 87 = true := by kernel_rfl
theorem bo87 : Tryz.f87.body = some code87 := rfl
theorem pr87 : C.prim 87 = none := rfl
theorem fu87 : C.funcs 87 = some Tryz.f87 := Tryz.func87
theorem op87 {a : List V} {H : List Ob} {R : V → List Ob → Prop} : Ret C 87 a H R ↔ WP C 87 code87 ⟨initRegs a, 0, H⟩ (finQ C Tryz.f87 H R) := Ret_fn pr87 fi87 fu87 bo87
@[simp] theorem locs87 : C.locs 87 = [] := by kernel_rfl
noncomputable def code88 : Code := match Tryz.f88.body with | some c => c | none => .skip
theorem fi88 : C.fids 88 = true := by kernel_rfl
theorem bo88 : Tryz.f88.body = some code88 := rfl
theorem pr88 : C.prim 88 = none := rfl
theorem fu88 : C.funcs 88 = some Tryz.f88 := Tryz.func88
theorem op88 {a : List V} {H : List Ob} {R : V → List Ob → Prop} : Ret C 88 a H R ↔ WP C 88 code88 ⟨initRegs a, 0, H⟩ (finQ C Tryz.f88 H R) := Ret_fn pr88 fi88 fu88 bo88
@[simp] theorem locs88 : C.locs 88 = [2] := by kernel_rfl
noncomputable def code89 : Code := match Tryz.f89.body with | some c => c | none => .skip
theorem fi89 : C.fids 89 = true := by kernel_rfl
theorem bo89 : Tryz.f89.body = some code89 := rfl
theorem pr89 : C.prim 89 = none := rfl
theorem fu89 : C.funcs 89 = some Tryz.f89 := Tryz.func89
theorem op89 {a : List V} {H : List Ob} {R : V → List Ob → Prop} : Ret C 89 a H R ↔ WP C 89 code89 ⟨initRegs a, 0, H⟩ (finQ C Tryz.f89 H R) := Ret_fn pr89 fi89 fu89 bo89
@[simp] theorem locs89 : C.locs 89 = [2] := by kernel_rfl
noncomputable def code90 : Code := match Tryz.f90.body with | some c => c | none => .skip
theorem fi90 : C.fids 90 = true := by kernel_rfl
theorem bo90 : Tryz.f90.body = some code90 := rfl
theorem pr90 : C.prim 90 = none := rfl
theorem fu90 : C.funcs 90 = some Tryz.f90 := Tryz.func90
theorem op90 {a : List V} {H : List Ob} {R : V → List Ob → Prop} : Ret C 90 a H R ↔ WP C 90 code90 ⟨initRegs a, 0, H⟩ (finQ C Tryz.f90 H R) := Ret_fn pr90 fi90 fu90 bo90
@[simp] theorem locs90 : C.locs 90 = [] := by kernel_rfl
noncomputable def code91 : Code := match Tryz.f91.body with | some c => c | none => .skip
theorem fi91 : C.fids 91 = true := by kernel_rfl
theorem bo91 : Tryz.f91.body = some code91 := rfl
theorem pr91 : C.prim 91 = none := rfl
theorem fu91 : C.funcs 91 = some Tryz.f91 := Tryz.func91
theorem op91 {a : List V} {H : List Ob} {R : V → List Ob → Prop} : Ret C 91 a H R ↔ WP C 91 code91 ⟨initRegs a, 0, H⟩ (finQ C Tryz.f91 H R) := Ret_fn pr91 fi91 fu91 bo91
@[simp] theorem locs91 : C.locs 91 = [] := by kernel_rfl
noncomputable def code92 : Code := match Tryz.f92.body with | some c => c | none => .skip
theorem fi92 : C.fids 92 = true := by kernel_rfl
theorem bo92 : Tryz.f92.body = some code92 := rfl
theorem pr92 : C.prim 92 = none := rfl
theorem fu92 : C.funcs 92 = some Tryz.f92 := Tryz.func92
theorem op92 {a : List V} {H : List Ob} {R : V → List Ob → Prop} : Ret C 92 a H R ↔ WP C 92 code92 ⟨initRegs a, 0, H⟩ (finQ C Tryz.f92 H R) := Ret_fn pr92 fi92 fu92 bo92
@[simp] theorem locs92 : C.locs 92 = [] := by kernel_rfl
noncomputable def code93 : Code := match Tryz.f93.body with | some c => c | none => .skip
theorem fi93 : C.fids 93 = true := by kernel_rfl
theorem bo93 : Tryz.f93.body = some code93 := rfl
theorem pr93 : C.prim 93 = none := rfl
theorem fu93 : C.funcs 93 = some Tryz.f93 := Tryz.func93
theorem op93 {a : List V} {H : List Ob} {R : V → List Ob → Prop} : Ret C 93 a H R ↔ WP C 93 code93 ⟨initRegs a, 0, H⟩ (finQ C Tryz.f93 H R) := Ret_fn pr93 fi93 fu93 bo93
@[simp] theorem locs93 : C.locs 93 = [4, 8, 10] := by kernel_rfl
noncomputable def code94 : Code := match Tryz.f94.body with | some c => c | none => .skip
theorem fi94 : C.fids 94 = true := by kernel_rfl
theorem bo94 : Tryz.f94.body = some code94 := rfl
theorem pr94 : C.prim 94 = none := rfl
theorem fu94 : C.funcs 94 = some Tryz.f94 := Tryz.func94
theorem op94 {a : List V} {H : List Ob} {R : V → List Ob → Prop} : Ret C 94 a H R ↔ WP C 94 code94 ⟨initRegs a, 0, H⟩ (finQ C Tryz.f94 H R) := Ret_fn pr94 fi94 fu94 bo94
@[simp] theorem locs94 : C.locs 94 = [] := by kernel_rfl
noncomputable def code95 : Code := match Tryz.f95.body with | some c => c | none => .skip
theorem fi95 : C.fids 95 = true := by kernel_rfl
theorem bo95 : Tryz.f95.body = some code95 := rfl
theorem pr95 : C.prim 95 = none := rfl
theorem fu95 : C.funcs 95 = some Tryz.f95 := Tryz.func95
theorem op95 {a : List V} {H : List Ob} {R : V → List Ob → Prop} : Ret C 95 a H R ↔ WP C 95 code95 ⟨initRegs a, 0, H⟩ (finQ C Tryz.f95 H R) := Ret_fn pr95 fi95 fu95 bo95
@[simp] theorem locs95 : C.locs 95 = [] := by kernel_rfl
noncomputable def code96 : Code := match Tryz.f96.body with | some c => c | none => .skip
theorem fi96 : C.fids 96 = true := by kernel_rfl
theorem bo96 : Tryz.f96.body = some code96 := rfl
theorem pr96 : C.prim 96 = none := rfl
theorem fu96 : C.funcs 96 = some Tryz.f96 := Tryz.func96
theorem op96 {a : List V} {H : List Ob} {R : V → List Ob → Prop} : Ret C 96 a H R ↔ WP C 96 code96 ⟨initRegs a, 0, H⟩ (finQ C Tryz.f96 H R) := Ret_fn pr96 fi96 fu96 bo96
@[simp] theorem locs96 : C.locs 96 = [1, 2, 3] := by kernel_rfl
noncomputable def code97 : Code := match Tryz.f97.body with | some c => c | none => .skip
theorem fi97 : C.fids 97 = true := by kernel_rfl
theorem bo97 : Tryz.f97.body = some code97 := rfl
theorem pr97 : C.prim 97 = none := rfl
theorem fu97 : C.funcs 97 = some Tryz.f97 := Tryz.func97
theorem op97 {a : List V} {H : List Ob} {R : V → List Ob → Prop} : Ret C 97 a H R ↔ WP C 97 code97 ⟨initRegs a, 0, H⟩ (finQ C Tryz.f97 H R) := Ret_fn pr97 fi97 fu97 bo97
@[simp] theorem locs97 : C.locs 97 = [] := by kernel_rfl
noncomputable def code98 : Code := match Tryz.f98.body with | some c => c | none => .skip
theorem fi98 : C.fids 98 = true := by kernel_rfl
theorem bo98 : Tryz.f98.body = some code98 := rfl
theorem pr98 : C.prim 98 = none := rfl
theorem fu98 : C.funcs 98 = some Tryz.f98 := Tryz.func98
theorem op98 {a : List V} {H : List Ob} {R : V → List Ob → Prop} : Ret C 98 a H R ↔ WP C 98 code98 ⟨initRegs a, 0, H⟩ (finQ C Tryz.f98 H R) := Ret_fn pr98 fi98 fu98 bo98
@[simp] theorem locs98 : C.locs 98 = [] := by kernel_rfl
noncomputable def code99 : Code := match Tryz.f99.body with | some c => c | none => .skip
theorem fi99 : C.fids 99 = true := by kernel_rfl
theorem bo99 : Tryz.f99.body = some code99 := rfl
theorem pr99 : C.prim 99 = none := rfl
theorem fu99 : C.funcs 99 = some Tryz.f99 := Tryz.func99
theorem op99 {a : List V} {H : List Ob} {R : V → List Ob → Prop} : Ret C 99 a H R ↔ WP C 99 code99 ⟨initRegs a, 0, H⟩ (finQ C Tryz.f99 H R) := Ret_fn pr99 fi99 fu99 bo99
@[simp] theorem locs99 : C.locs 99 = [] := by kernel_rfl
noncomputable def code100 : Code := match Tryz.f100.body with | some c => c | none => .skip
theorem fi100 : C.fids 100 = true := by kernel_rfl
theorem bo100 : Tryz.f100.body = some code100 := rfl
theorem pr100 : C.prim 100 = none := rfl
theorem fu100 : C.funcs 100 = some Tryz.f100 := Tryz.func100
theorem op100 {a : List V} {H : List Ob} {R : V → List Ob → Prop} : Ret C 100 a H R ↔ WP C 100 code100 ⟨initRegs a, 0, H⟩ (finQ C Tryz.f100 H R) := Ret_fn pr100 fi100 fu100 bo100
@[simp] theorem locs100 : C.locs 100 = [] := by kernel_rfl
noncomputable def code101 : Code := match Tryz.f101.body with | some c => c | none => .skip
theorem fi101 : C.fids 101 = true := by kernel_rfl
theorem bo101 : Tryz.f101.body = some code101 := rfl
theorem pr101 : C.prim 101 = none := rfl
theorem fu101 : C.funcs 101 = some Tryz.f101 := Tryz.func101
theorem op101 {a : List V} {H : List Ob} {R : V → List Ob → Prop} : Ret C 101 a H R ↔ WP C 101 code101 ⟨initRegs a, 0, H⟩ (finQ C Tryz.f101 H R) := Ret_fn pr101 fi101 fu101 bo101
@[simp] theorem locs101 : C.locs 101 = [] := by kernel_rfl
noncomputable def code102 : Code := match Tryz.f102.body with | some c => c | none => .skip
theorem fi102 : C.fids 102 = true := by kernel_rfl
theorem bo102 : Tryz.f102.body = some code102 := rfl
theorem pr102 : C.prim 102 = none := rfl
theorem fu102 : C.funcs 102 = some Tryz.f102 := Tryz.func102
theorem op102 {a : List V} {H : List Ob} {R : V → List Ob → Prop} : Ret C 102 a H R ↔ WP C 102 code102 ⟨initRegs a, 0, H⟩ (finQ C Tryz.f102 H R) := Ret_fn pr102 fi102 fu102 bo102
@[simp] theorem locs102 : C.locs 102 = [] := by kernel_rfl
noncomputable def code103 : Code := match Tryz.f103.body with | some c => c | none => .skip
theorem fi103 : C.fids 103 = true := by kernel_rfl
theorem bo103 : Tryz.f103.body = some code103 := rfl
theorem pr103 : C.prim 103 = none := rfl
theorem fu103 : C.funcs 103 = some Tryz.f103 := Tryz.func103
theorem op103 {a : List V} {H : List Ob} {R : V → List Ob → Prop} : Ret C 103 a H R ↔ WP C 103 code103 ⟨initRegs a, 0, H⟩ (finQ C Tryz.f103 H R) := Ret_fn pr103 fi103 fu103 bo103
@[simp] theorem locs103 : C.locs 103 = [] := by kernel_rfl
noncomputable def code104 : Code := match Tryz.f104.body with | some c => c | none => .skip
theorem fi104 : C.fids 104 = true := by kernel_rfl
theorem bo104 : Tryz.f104.body = some code104 := rfl
theorem pr104 : C.prim 104 = none := rfl
theorem fu104 : C.funcs 104 = some Tryz.f104 := Tryz.func104
theorem op104 {a : List V} {H : List Ob} {R : V → List Ob → Prop} : Ret C 104 a H R ↔ WP C 104 code104 ⟨initRegs a, 0, H⟩ (finQ C Tryz.f104 H R) := Ret_fn pr104 fi104 fu104 bo104
@[simp] theorem locs104 : C.locs 104 = [] := by kernel_rfl
noncomputable def code105 : Code := match Tryz.f105.body with | some c => c | none => .skip
theorem fi105 : C.fids 105 = true := by kernel_rfl
theorem bo105 : Tryz.f105.body = some code105 := rfl
theorem pr105 : C.prim 105 = none := rfl
theorem fu105 : C.funcs 105 = some Tryz.f105 := Tryz.func105
theorem op105 {a : List V} {H : List Ob} {R : V → List Ob → Prop} : Ret C 105 a H R ↔ WP C 105 code105 ⟨initRegs a, 0, H⟩ (finQ C Tryz.f105 H R) := Ret_fn pr105 fi105 fu105 bo105
@[simp] theorem locs105 : C.locs 105 = [2, 3] := by kernel_rfl
noncomputable def code106 : Code := match Tryz.f106.body with | some c => c | none => .skip
theorem fi106 : C.fids 106 = true := by kernel_rfl
theorem bo106 : Tryz.f106.body = some code106 := rfl
theorem pr106 : C.prim 106 = none := rfl
theorem fu106 : C.funcs 106 = some Tryz.f106 := Tryz.func106
theorem op106 {a : List V} {H : List Ob} {R : V → List Ob → Prop} : Ret C 106 a H R ↔ WP C 106 code106 ⟨initRegs a, 0, H⟩ (finQ C Tryz.f106 H R) := Ret_fn pr106 fi106 fu106 bo106
@[simp] theorem locs106 : C.locs 106 = [2, 3] := by kernel_rfl
noncomputable def code107 : Code := match Tryz.f107.body with | some c => c | none => .skip
theorem fi107 : C.fids 107 = true := by kernel_rfl
theorem bo107 : Tryz.f107.body = some code107 := rfl
theorem pr107 : C.prim 107 = none := rfl
theorem fu107 : C.funcs 107 = some Tryz.f107 := Tryz.func107
theorem op107 {a : List V} {H : List Ob} {R : V → List Ob → Prop} : Ret C 107 a H R ↔ WP C 107 code107 ⟨initRegs a, 0, H⟩ (finQ C Tryz.f107 H R) := Ret_fn pr107 fi107 fu107 bo107
@[simp] theorem locs107 : C.locs 107 = [] := by kernel_rfl
noncomputable def code108 : Code := match Tryz.f108.body with | some c => c | none => .skip
theorem fi108 : C.fids 108 = true := by kernel_rfl
theorem bo108 : Tryz.f108.body = some code108 := rfl
theorem pr108 : C.prim 108 = none := rfl
theorem fu108 : C.funcs 108 = some Tryz.f108 := Tryz.func108
theorem op108 {a : List V} {H : List Ob} {R : V → List Ob → Prop} : Ret C 108 a H R ↔ WP C 108 code108 ⟨initRegs a, 0, H⟩ (finQ C Tryz.f108 H R) := Ret_fn pr108 fi108 fu108 bo108
@[simp] theorem locs108 : C.locs 108 = [] := by kernel_rfl
noncomputable def code109 : Code := match Tryz.f109.body with | some c => c | none => .skip
theorem fi109 : C.fids 109 = true := by kernel_rfl
theorem bo109 : Tryz.f109.body = some code109 := rfl
theorem pr109 : C.prim 109 = none := rfl
theorem fu109 : C.funcs 109 = some Tryz.f109 := Tryz.func109
theorem op109 {a : List V} {H : List Ob} {R : V → List Ob → Prop} : Ret C 109 a H R ↔ WP C 109 code109 ⟨initRegs a, 0, H⟩ (finQ C Tryz.f109 H R) := Ret_fn pr109 fi109 fu109 bo109
@[simp] theorem locs109 : C.locs 109 = [] := by kernel_rfl
noncomputable def code110 : Code := match Tryz.f110.body with | some c => c | none => .skip
theorem fi110 : C.fids 110 = true := by kernel_rfl
theorem bo110 : Tryz.f110.body = some code110 := rfl
theorem pr110 : C.prim 110 = none := rfl
theorem fu110 : C.funcs 110 = some Tryz.f110 := Tryz.func110
theorem op110 {a : List V} {H : List Ob} {R : V → List Ob → Prop} : Ret C 110 a H R ↔ WP C 110 code110 ⟨initRegs a, 0, H⟩ (finQ C Tryz.f110 H R) := Ret_fn pr110 fi110 fu110 bo110
@[simp] theorem locs110 : C.locs 110 = [2] := by kernel_rfl
noncomputable def code111 : Code := match Tryz.f111.body with | some c => c | none => .skip
theorem fi111 : C.fids 111 = true := by kernel_rfl
theorem bo111 : Tryz.f111.body = some code111 := rfl
theorem pr111 : C.prim 111 = none := rfl
theorem fu111 : C.funcs 111 = some Tryz.f111 := Tryz.func111
theorem op111 {a : List V} {H : List Ob} {R : V → List Ob → Prop} : Ret C 111 a H R ↔ WP C 111 code111 ⟨initRegs a, 0, H⟩ (finQ C Tryz.f111 H R) := Ret_fn pr111 fi111 fu111 bo111
@[simp] theorem locs111 : C.locs 111 = [] := by kernel_rfl
@[simp] theorem locs112 : C.locs 112 = [4, 6, 8, 10, 12, 13] := by kernel_rfl
@[simp] theorem locs113 : C.locs 113 = [] := by kernel_rfl
noncomputable def code114 : Code := match Tryz.f114.body with | some c => c | none => .skip
theorem fi114 : C.fids 114 = true := by kernel_rfl
theorem bo114 : Tryz.f114.body = some code114 := rfl
theorem pr114 : C.prim 114 = none := rfl
theorem fu114 : C.funcs 114 = some Tryz.f114 := Tryz.func114
theorem op114 {a : List V} {H : List Ob} {R : V → List Ob → Prop} : Ret C 114 a H R ↔ WP C 114 code114 ⟨initRegs a, 0, H⟩ (finQ C Tryz.f114 H R) := Ret_fn pr114 fi114 fu114 bo114
@[simp] theorem locs114 : C.locs 114 = [1] := by kernel_rfl
@[simp] theorem locs115 : C.locs 115 = [2, 4] := by kernel_rfl
@[simp] theorem locs116 : C.locs 116 = [] := by kernel_rfl
@[simp] theorem locs117 : C.locs 117 = [6] := by kernel_rfl
@[simp] theorem locs118 : C.locs 118 = [2] := by kernel_rfl
@[simp] theorem locs119 : C.locs 119 = [] := by kernel_rfl
@[simp] theorem locs120 : C.locs 120 = [3, 6, 8, 10, 12] := by kernel_rfl
@[simp] theorem locs121 : C.locs 121 = [1, 2, 3] := by kernel_rfl
@[simp] theorem locs122 : C.locs 122 = [] := by kernel_rfl
@[simp] theorem locs123 : C.locs 123 = [] := by kernel_rfl
@[simp] theorem locs124 : C.locs 124 = [] := by kernel_rfl
@[simp] theorem locs125 : C.locs 125 = [] := by kernel_rfl
@[simp] theorem locs126 : C.locs 126 = [11] := by kernel_rfl
@[simp] theorem locs127 : C.locs 127 = [2, 3] := by kernel_rfl
noncomputable def code128 : Code := match Tryz.f128.body with | some c => c | none => .skip
theorem fi128 : C.fids 128 = true := by kernel_rfl
theorem bo128 : Tryz.f128.body = some code128 := rfl
theorem pr128 : C.prim 128 = none := rfl
theorem fu128 : C.funcs 128 = some Tryz.f128 := Tryz.func128
theorem op128 {a : List V} {H : List Ob} {R : V → List Ob → Prop} : Ret C 128 a H R ↔ WP C 128 code128 ⟨initRegs a, 0, H⟩ (finQ C Tryz.f128 H R) := Ret_fn pr128 fi128 fu128 bo128
@[simp] theorem locs128 : C.locs 128 = [] := by kernel_rfl
noncomputable def code129 : Code := match Tryz.f129.body with | some c => c | none => .skip
theorem fi129 : C.fids 129 = true := by kernel_rfl
theorem bo129 : Tryz.f129.body = some code129 := rfl
theorem pr129 : C.prim 129 = none := rfl
theorem fu129 : C.funcs 129 = some Tryz.f129 := Tryz.func129
theorem op129 {a : List V} {H : List Ob} {R : V → List Ob → Prop} : Ret C 129 a H R ↔ WP C 129 code129 ⟨initRegs a, 0, H⟩ (finQ C Tryz.f129 H R) := Ret_fn pr129 fi129 fu129 bo129
@[simp] theorem locs129 : C.locs 129 = [2] := by kernel_rfl
noncomputable def code130 : Code := match Tryz.f130.body with | some c => c | none => .skip
theorem fi130 : C.fids 130 = true := by kernel_rfl
theorem bo130 : Tryz.f130.body = some code130 := rfl
theorem pr130 : C.prim 130 = none := rfl
theorem fu130 : C.funcs 130 = some Tryz.f130 := Tryz.func130
theorem op130 {a : List V} {H : List Ob} {R : V → List Ob → Prop} : Ret C 130 a H R ↔ WP C 130 code130 ⟨initRegs a, 0, H⟩ (finQ C Tryz.f130 H R) := Ret_fn pr130 fi130 fu130 bo130
@[simp] theorem locs130 : C.locs 130 = [2] := by kernel_rfl
noncomputable def code131 : Code := match Tryz.f131.body with | some c => c | none => .skip
theorem fi131 : C.fids 131 = true := by kernel_rfl
theorem bo131 : Tryz.f131.body = some code131 := rfl
theorem pr131 : C.prim 131 = none := rfl
theorem fu131 : C.funcs 131 = some Tryz.f131 := Tryz.func131
theorem op131 {a : List V} {H : List Ob} {R : V → List Ob → Prop} : Ret C 131 a H R ↔ WP C 131 code131 ⟨initRegs a, 0, H⟩ (finQ C Tryz.f131 H R) := Ret_fn pr131 fi131 fu131 bo131
@[simp] theorem locs131 : C.locs 131 = [] := by kernel_rfl
noncomputable def code132 : Code := match Tryz.f132.body with | some c => c | none => .skip
theorem fi132 : C.fids 132 = true := by kernel_rfl
theorem bo132 : Tryz.f132.body = some code132 := rfl
theorem pr132 : C.prim 132 = none := rfl
theorem fu132 : C.funcs 132 = some Tryz.f132 := Tryz.func132
theorem op132 {a : List V} {H : List Ob} {R : V → List Ob → Prop} : Ret C 132 a H R ↔ WP C 132 code132 ⟨initRegs a, 0, H⟩ (finQ C Tryz.f132 H R) := Ret_fn pr132 fi132 fu132 bo132
@[simp] theorem locs132 : C.locs 132 = [] := by kernel_rfl
noncomputable def code133 : Code := match Tryz.f133.body with | some c => c | none => .skip
theorem fi133 : C.fids 133 = true := by kernel_rfl
theorem bo133 : Tryz.f133.body = some code133 := rfl
theorem pr133 : C.prim 133 = none := rfl
theorem fu133 : C.funcs 133 = some Tryz.f133 := Tryz.func133
theorem op133 {a : List V} {H : List Ob} {R : V → List Ob → Prop} : Ret C 133 a H R ↔ WP C 133 code133 ⟨initRegs a, 0, H⟩ (finQ C Tryz.f133 H R) := Ret_fn pr133 fi133 fu133 bo133
@[simp] theorem locs133 : C.locs 133 = [] := by kernel_rfl
noncomputable def code134 : Code := match Tryz.f134.body with | some c => c | none => .skip
theorem fi134 : C.fids 134 = true := by kernel_rfl
theorem bo134 : Tryz.f134.body = some code134 := rfl
theorem pr134 : C.prim 134 = none := rfl
theorem fu134 : C.funcs 134 = some Tryz.f134 := Tryz.func134
theorem op134 {a : List V} {H : List Ob} {R : V → List Ob → Prop} : Ret C 134 a H R ↔ WP C 134 code134 ⟨initRegs a, 0, H⟩ (finQ C Tryz.f134 H R) := Ret_fn pr134 fi134 fu134 bo134
@[simp] theorem locs134 : C.locs 134 = [] := by kernel_rfl
noncomputable def code135 : Code := match Tryz.f135.body with | some c => c | none => .skip
theorem fi135 : C.fids 135 = true := by kernel_rfl
theorem bo135 : Tryz.f135.body = some code135 := rfl
theorem pr135 : C.prim 135 = none := rfl
theorem fu135 : C.funcs 135 = some Tryz.f135 := Tryz.func135
theorem op135 {a : List V} {H : List Ob} {R : V → List Ob → Prop} : Ret C 135 a H R ↔ WP C 135 code135 ⟨initRegs a, 0, H⟩ (finQ C Tryz.f135 H R) := Ret_fn pr135 fi135 fu135 bo135
@[simp] theorem locs135 : C.locs 135 = [] := by kernel_rfl
noncomputable def code136 : Code := match Tryz.f136.body with | some c => c | none => .skip
theorem fi136 : C.fids 136 = true := by kernel_rfl
theorem bo136 : Tryz.f136.body = some code136 := rfl
theorem pr136 : C.prim 136 = none := rfl
theorem fu136 : C.funcs 136 = some Tryz.f136 := Tryz.func136
theorem op136 {a : List V} {H : List Ob} {R : V → List Ob → Prop} : Ret C 136 a H R ↔ WP C 136 code136 ⟨initRegs a, 0, H⟩ (finQ C Tryz.f136 H R) := Ret_fn pr136 fi136 fu136 bo136
@[simp] theorem locs136 : C.locs 136 = [6, 10] := by kernel_rfl
noncomputable def code137 : Code := match Tryz.f137.body with | some c => c | none => .skip
theorem fi137 : C.fids 137 = true := by kernel_rfl
theorem bo137 : Tryz.f137.body = some code137 := rfl
theorem pr137 : C.prim 137 = none := rfl
theorem fu137 : C.funcs 137 = some Tryz.f137 := Tryz.func137
theorem op137 {a : List V} {H : List Ob} {R : V → List Ob → Prop} : Ret C 137 a H R ↔ WP C 137 code137 ⟨initRegs a, 0, H⟩ (finQ C Tryz.f137 H R) := Ret_fn pr137 fi137 fu137 bo137
@[simp] theorem locs137 : C.locs 137 = [] := by kernel_rfl
noncomputable def code138 : Code := match Tryz.f138.body with | some c => c | none => .skip
theorem fi138 : C.fids 138 = true := by kernel_rfl
theorem bo138 : Tryz.f138.body = some code138 := rfl
theorem pr138 : C.prim 138 = none := rfl
theorem fu138 : C.funcs 138 = some Tryz.f138 := Tryz.func138
theorem op138 {a : List V} {H : List Ob} {R : V → List Ob → Prop} : Ret C 138 a H R ↔ WP C 138 code138 ⟨initRegs a, 0, H⟩ (finQ C Tryz.f138 H R) := Ret_fn pr138 fi138 fu138 bo138
@[simp] theorem locs138 : C.locs 138 = [1, 2, 3] := by kernel_rfl
noncomputable def code139 : Code := match Tryz.f139.body with | some c => c | none => .skip
theorem fi139 : C.fids 139 = true := by kernel_rfl
theorem bo139 : Tryz.f139.body = some code139 := rfl
theorem pr139 : C.prim 139 = none := rfl
theorem fu139 : C.funcs 139 = some Tryz.f139 := Tryz.func139
theorem op139 {a : List V} {H : List Ob} {R : V → List Ob → Prop} : Ret C 139 a H R ↔ WP C 139 code139 ⟨initRegs a, 0, H⟩ (finQ C Tryz.f139 H R) := Ret_fn pr139 fi139 fu139 bo139
@[simp] theorem locs139 : C.locs 139 = [1, 2, 3] := by kernel_rfl
noncomputable def code140 : Code := match Tryz.f140.body with | some c => c | none => .skip
theorem fi140 : C.fids 140 = true := by kernel_rfl
theorem bo140 : Tryz.f140.body = some code140 := rfl
theorem pr140 : C.prim 140 = none := rfl
theorem fu140 : C.funcs 140 = some Tryz.f140 := Tryz.func140
theorem op140 {a : List V} {H : List Ob} {R : V → List Ob → Prop} : Ret C 140 a H R ↔ WP C 140 code140 ⟨initRegs a, 0, H⟩ (finQ C Tryz.f140 H R) := Ret_fn pr140 fi140 fu140 bo140
@[simp] theorem locs140 : C.locs 140 = [] := by kernel_rfl
noncomputable def code141 : Code := match Tryz.f141.body with | some c => c | none => .skip
theorem fi141 : C.fids 141 = true := by kernel_rfl
theorem bo141 : Tryz.f141.body = some code141 := rfl
theorem pr141 : C.prim 141 = none := rfl
theorem fu141 : C.funcs 141 = some Tryz.f141 := Tryz.func141
theorem op141 {a : List V} {H : List Ob} {R : V → List Ob → Prop} : Ret C 141 a H R ↔ WP C 141 code141 ⟨initRegs a, 0, H⟩ (finQ C Tryz.f141 H R) := Ret_fn pr141 fi141 fu141 bo141
@[simp] theorem locs141 : C.locs 141 = [] := by kernel_rfl
noncomputable def code142 : Code := match Tryz.f142.body with | some c => c | none => .skip
theorem fi142 : C.fids 142 = true := by kernel_rfl
theorem bo142 : Tryz.f142.body = some code142 := rfl
theorem pr142 : C.prim 142 = none := rfl
theorem fu142 : C.funcs 142 = some Tryz.f142 := Tryz.func142
theorem op142 {a : List V} {H : List Ob} {R : V → List Ob → Prop} : Ret C 142 a H R ↔ WP C 142 code142 ⟨initRegs a, 0, H⟩ (finQ C Tryz.f142 H R) := Ret_fn pr142 fi142 fu142 bo142
@[simp] theorem locs142 : C.locs 142 = [] := by kernel_rfl
noncomputable def code143 : Code := match Tryz.f143.body with | some c => c | none => .skip
theorem fi143 : C.fids 143 = true := by kernel_rfl
theorem bo143 : Tryz.f143.body = some code143 := rfl
theorem pr143 : C.prim 143 = none := rfl
theorem fu143 : C.funcs 143 = some Tryz.f143 := Tryz.func143
theorem op143 {a : List V} {H : List Ob} {R : V → List Ob → Prop} : Ret C 143 a H R ↔ WP C 143 code143 ⟨initRegs a, 0, H⟩ (finQ C Tryz.f143 H R) := Ret_fn pr143 fi143 fu143 bo143
@[simp] theorem locs143 : C.locs 143 = [] := by kernel_rfl
noncomputable def code144 : Code := match Tryz.f144.body with | some c => c | none => .skip
theorem fi144 : C.fids 144 = true := by kernel_rfl
theorem bo144 : Tryz.f144.body = some code144 := rfl
theorem pr144 : C.prim 144 = none := rfl
theorem fu144 : C.funcs 144 = some Tryz.f144 := Tryz.func144
theorem op144 {a : List V} {H : List Ob} {R : V → List Ob → Prop} : Ret C 144 a H R ↔ WP C 144 code144 ⟨initRegs a, 0, H⟩ (finQ C Tryz.f144 H R) := Ret_fn pr144 fi144 fu144 bo144
@[simp] theorem locs144 : C.locs 144 = [5] := by kernel_rfl
noncomputable def code145 : Code := match Tryz.f145.body with | some c => c | none => .skip
theorem fi145 : C.fids 145 = true := by kernel_rfl
theorem bo145 : Tryz.f145.body = some code145 := rfl
theorem pr145 : C.prim 145 = none := rfl
theorem fu145 : C.funcs 145 = some Tryz.f145 := Tryz.func145
theorem op145 {a : List V} {H : List Ob} {R : V → List Ob → Prop} : Ret C 145 a H R ↔ WP C 145 code145 ⟨initRegs a, 0, H⟩ (finQ C Tryz.f145 H R) := Ret_fn pr145 fi145 fu145 bo145
@[simp] theorem locs145 : C.locs 145 = [5] := by kernel_rfl
noncomputable def code146 : Code := match Tryz.f146.body with | some c => c | none => .skip
theorem fi146 : C.fids 146 = true := by kernel_rfl
theorem bo146 : Tryz.f146.body = some code146 := rfl
theorem pr146 : C.prim 146 = none := rfl
theorem fu146 : C.funcs 146 = some Tryz.f146 := Tryz.func146
theorem op146 {a : List V} {H : List Ob} {R : V → List Ob → Prop} : Ret C 146 a H R ↔ WP C 146 code146 ⟨initRegs a, 0, H⟩ (finQ C Tryz.f146 H R) := Ret_fn pr146 fi146 fu146 bo146
@[simp] theorem locs146 : C.locs 146 = [1] := by kernel_rfl
noncomputable def code147 : Code := match Tryz.f147.body with | some c => c | none => .skip
theorem fi147 : C.fids 147 = true := by kernel_rfl
theorem bo147 : Tryz.f147.body = some code147 := rfl
theorem pr147 : C.prim 147 = none := rfl
theorem fu147 : C.funcs 147 = some Tryz.f147 := Tryz.func147
theorem op147 {a : List V} {H : List Ob} {R : V → List Ob → Prop} : Ret C 147 a H R ↔ WP C 147 code147 ⟨initRegs a, 0, H⟩ (finQ C Tryz.f147 H R) := Ret_fn pr147 fi147 fu147 bo147
@[simp] theorem locs147 : C.locs 147 = [] := by kernel_rfl
noncomputable def code148 : Code := match Tryz.f148.body with | some c => c | none => .skip
theorem fi148 : C.fids 148 = true := by kernel_rfl
theorem bo148 : Tryz.f148.body = some code148 := rfl
theorem pr148 : C.prim 148 = none := rfl
theorem fu148 : C.funcs 148 = some Tryz.f148 := Tryz.func148
theorem op148 {a : List V} {H : List Ob} {R : V → List Ob → Prop} : Ret C 148 a H R ↔ WP C 148 code148 ⟨initRegs a, 0, H⟩ (finQ C Tryz.f148 H R) := Ret_fn pr148 fi148 fu148 bo148
@[simp] theorem locs148 : C.locs 148 = [8] := by kernel_rfl
noncomputable def code149 : Code := match Tryz.f149.body with | some c => c | none => .skip
theorem fi149 : C.fids 149 = true := by kernel_rfl
theorem bo149 : Tryz.f149.body = some code149 := rfl
theorem pr149 : C.prim 149 = none := rfl
theorem fu149 : C.funcs 149 = some Tryz.f149 := Tryz.func149
theorem op149 {a : List V} {H : List Ob} {R : V → List Ob → Prop} : Ret C 149 a H R ↔ WP C 149 code149 ⟨initRegs a, 0, H⟩ (finQ C Tryz.f149 H R) := Ret_fn pr149 fi149 fu149 bo149
@[simp] theorem locs149 : C.locs 149 = [2, 3] := by kernel_rfl
noncomputable def code150 : Code := match Tryz.f150.body with | some c => c | none => .skip
theorem fi150 : C.fids 150 = true := by kernel_rfl
theorem bo150 : Tryz.f150.body = some code150 := rfl
theorem pr150 : C.prim 150 = none := rfl
theorem fu150 : C.funcs 150 = some Tryz.f150 := Tryz.func150
theorem op150 {a : List V} {H : List Ob} {R : V → List Ob → Prop} : Ret C 150 a H R ↔ WP C 150 code150 ⟨initRegs a, 0, H⟩ (finQ C Tryz.f150 H R) := Ret_fn pr150 fi150 fu150 bo150
@[simp] theorem locs150 : C.locs 150 = [2, 3] := by kernel_rfl
noncomputable def code159 : Code := match Tryz.f159.body with | some c => c | none => .skip
theorem fi159 : C.fids 159 = true := by kernel_rfl
theorem bo159 : Tryz.f159.body = some code159 := rfl
theorem pr159 : C.prim 159 = none := rfl
theorem fu159 : C.funcs 159 = some Tryz.f159 := Tryz.func159
theorem op159 {a : List V} {H : List Ob} {R : V → List Ob → Prop} : Ret C 159 a H R ↔ WP C 159 code159 ⟨initRegs a, 0, H⟩ (finQ C Tryz.f159 H R) := Ret_fn pr159 fi159 fu159 bo159
@[simp] theorem locs159 : C.locs 159 = [] := by kernel_rfl
noncomputable def code160 : Code := match Tryz.f160.body with | some c => c | none => .skip
theorem fi160 : C.fids 160 = true := by kernel_rfl
theorem bo160 : Tryz.f160.body = some code160 := rfl
theorem pr160 : C.prim 160 = none := rfl
theorem fu160 : C.funcs 160 = some Tryz.f160 := Tryz.func160
theorem op160 {a : List V} {H : List Ob} {R : V → List Ob → Prop} : Ret C 160 a H R ↔ WP C 160 code160 ⟨initRegs a, 0, H⟩ (finQ C Tryz.f160 H R) := Ret_fn pr160 fi160 fu160 bo160
@[simp] theorem locs160 : C.locs 160 = [3, 5, 9] := by kernel_rfl
noncomputable def code161 : Code := match Tryz.f161.body with | some c => c | none => .skip
theorem fi161 : C.fids 161 = true := by kernel_rfl
theorem bo161 : Tryz.f161.body = some code161 := rfl
theorem pr161 : C.prim 161 = none := rfl
theorem fu161 : C.funcs 161 = some Tryz.f161 := Tryz.func161
theorem op161 {a : List V} {H : List Ob} {R : V → List Ob → Prop} : Ret C 161 a H R ↔ WP C 161 code161 ⟨initRegs a, 0, H⟩ (finQ C Tryz.f161 H R) := Ret_fn pr161 fi161 fu161 bo161
@[simp] theorem locs161 : C.locs 161 = [] := by kernel_rfl
noncomputable def code162 : Code := match Tryz.f162.body with | some c => c | none => .skip
theorem fi162 : C.fids 162 = true := by kernel_rfl
theorem bo162 : Tryz.f162.body = some code162 := rfl
theorem pr162 : C.prim 162 = none := rfl
theorem fu162 : C.funcs 162 = some Tryz.f162 := Tryz.func162
theorem op162 {a : List V} {H : List Ob} {R : V → List Ob → Prop} : Ret C 162 a H R ↔ WP C 162 code162 ⟨initRegs a, 0, H⟩ (finQ C Tryz.f162 H R) := Ret_fn pr162 fi162 fu162 bo162
@[simp] theorem locs162 : C.locs 162 = [2] := by kernel_rfl
noncomputable def code168 : Code := match Tryz.f168.body with | some c => c | none => .skip
theorem fi168 : C.fids 168 = true := by kernel_rfl
theorem bo168 : Tryz.f168.body = some code168 := rfl
theorem pr168 : C.prim 168 = none := rfl
theorem fu168 : C.funcs 168 = some Tryz.f168 := Tryz.func168
theorem op168 {a : List V} {H : List Ob} {R : V → List Ob → Prop} : Ret C 168 a H R ↔ WP C 168 code168 ⟨initRegs a, 0, H⟩ (finQ C Tryz.f168 H R) := Ret_fn pr168 fi168 fu168 bo168
@[simp] theorem locs168 : C.locs 168 = [4] := by kernel_rfl
noncomputable def code169 : Code := match Tryz.f169.body with | some c => c | none => .skip
theorem fi169 : C.fids 169 = true := by kernel_rfl
theorem bo169 : Tryz.f169.body = some code169 := rfl
theorem pr169 : C.prim 169 = none := rfl
theorem fu169 : C.funcs 169 = some Tryz.f169 := Tryz.func169
theorem op169 {a : List V} {H : List Ob} {R : V → List Ob → Prop} : Ret C 169 a H R ↔ WP C 169 code169 ⟨initRegs a, 0, H⟩ (finQ C Tryz.f169 H R) := Ret_fn pr169 fi169 fu169 bo169
@[simp] theorem locs169 : C.locs 169 = [] := by kernel_rfl
noncomputable def code171 : Code := match Tryz.f171.body with | some c => c | none => .skip
theorem fi171 : C.fids 171 = true := by kernel_rfl
theorem bo171 : Tryz.f171.body = some code171 := rfl
theorem pr171 : C.prim 171 = none := rfl
theorem fu171 : C.funcs 171 = some Tryz.f171 := Tryz.func171
theorem op171 {a : List V} {H : List Ob} {R : V → List Ob → Prop} : Ret C 171 a H R ↔ WP C 171 code171 ⟨initRegs a, 0, H⟩ (finQ C Tryz.f171 H R) := Ret_fn pr171 fi171 fu171 bo171
@[simp] theorem locs171 : C.locs 171 = [] := by kernel_rfl
noncomputable def code172 : Code := match Tryz.f172.body with | some c => c | none => .skip
theorem fi172 : C.fids 172 = true := by kernel_rfl
theorem bo172 : Tryz.f172.body = some code172 := rfl
theorem pr172 : C.prim 172 = none := rfl
theorem fu172 : C.funcs 172 = some Tryz.f172 := Tryz.func172
theorem op172 {a : List V} {H : List Ob} {R : V → List Ob → Prop} : Ret C 172 a H R ↔ WP C 172 code172 ⟨initRegs a, 0, H⟩ (finQ C Tryz.f172 H R) := Ret_fn pr172 fi172 fu172 bo172
@[simp] theorem locs172 : C.locs 172 = [2] := by kernel_rfl
noncomputable def code173 : Code := match Tryz.f173.body with | some c => c | none => .skip
theorem fi173 : C.fids 173 = true := by kernel_rfl
theorem bo173 : Tryz.f173.body = some code173 := rfl
theorem pr173 : C.prim 173 = none := rfl
theorem fu173 : C.funcs 173 = some Tryz.f173 := Tryz.func173
theorem op173 {a : List V} {H : List Ob} {R : V → List Ob → Prop} : Ret C 173 a H R ↔ WP C 173 code173 ⟨initRegs a, 0, H⟩ (finQ C Tryz.f173 H R) := Ret_fn pr173 fi173 fu173 bo173
@[simp] theorem locs173 : C.locs 173 = [] := by kernel_rfl
noncomputable def code178 : Code := match Tryz.f178.body with | some c => c | none => .skip
theorem fi178 : C.fids 178 = true := by kernel_rfl
theorem bo178 : Tryz.f178.body = some code178 := rfl
theorem pr178 : C.prim 178 = none := rfl
theorem fu178 : C.funcs 178 = some Tryz.f178 := Tryz.func178
theorem op178 {a : List V} {H : List Ob} {R : V → List Ob → Prop} : Ret C 178 a H R ↔ WP C 178 code178 ⟨initRegs a, 0, H⟩ (finQ C Tryz.f178 H R) := Ret_fn pr178 fi178 fu178 bo178
@[simp] theorem locs178 : C.locs 178 = [] := by kernel_rfl
noncomputable def code180 : Code := match Tryz.f180.body with | some c => c | none => .skip
theorem fi180 : C.fids 180 = true := by kernel_rfl
theorem bo180 : Tryz.f180.body = some code180 := rfl
theorem pr180 : C.prim 180 = none := rfl
theorem fu180 : C.funcs 180 = some Tryz.f180 := Tryz.func180
theorem op180 {a : List V} {H : List Ob} {R : V → List Ob → Prop} : Ret C 180 a H R ↔ WP C 180 code180 ⟨initRegs a, 0, H⟩ (finQ C Tryz.f180 H R) := Ret_fn pr180 fi180 fu180 bo180
@[simp] theorem locs180 : C.locs 180 = [] := by kernel_rfl
noncomputable def code183 : Code := match Tryz.f183.body with | some c => c | none => .skip
theorem fi183 : C.fids 183 = true := by kernel_rfl
theorem bo183 : Tryz.f183.body = some code183 := rfl
theorem pr183 : C.prim 183 = none := rfl
theorem fu183 : C.funcs 183 = some Tryz.f183 := Tryz.func183
theorem op183 {a : List V} {H : List Ob} {R : V → List Ob → Prop} : Ret C 183 a H R ↔ WP C 183 code183 ⟨initRegs a, 0, H⟩ (finQ C Tryz.f183 H R) := Ret_fn pr183 fi183 fu183 bo183
@[simp] theorem locs183 : C.locs 183 = [2] := by kernel_rfl
noncomputable def code184 : Code := match Tryz.f184.body with | some c => c | none => .skip
theorem fi184 : C.fids 184 = true := by kernel_rfl
theorem bo184 : Tryz.f184.body = some code184 := rfl
theorem pr184 : C.prim 184 = none := rfl
theorem fu184 : C.funcs 184 = some Tryz.f184 := Tryz.func184
theorem op184 {a : List V} {H : List Ob} {R : V → List Ob → Prop} : Ret C 184 a H R ↔ WP C 184 code184 ⟨initRegs a, 0, H⟩ (finQ C Tryz.f184 H R) := Ret_fn pr184 fi184 fu184 bo184
@[simp] theorem locs184 : C.locs 184 = [] := by kernel_rfl
noncomputable def code185 : Code := match Tryz.f185.body with | some c => c | none => .skip
theorem fi185 : C.fids 185 = true := by kernel_rfl
theorem bo185 : Tryz.f185.body = some code185 := rfl
theorem pr185 : C.prim 185 = none := rfl
theorem fu185 : C.funcs 185 = some Tryz.f185 := Tryz.func185
theorem op185 {a : List V} {H : List Ob} {R : V → List Ob → Prop} : Ret C 185 a H R ↔ WP C 185 code185 ⟨initRegs a, 0, H⟩ (finQ C Tryz.f185 H R) := Ret_fn pr185 fi185 fu185 bo185
@[simp] theorem locs185 : C.locs 185 = [] := by kernel_rfl
noncomputable def code186 : Code := match Tryz.f186.body with | some c => c | none => .skip
theorem fi186 : C.fids 186 = true := by kernel_rfl
theorem bo186 : Tryz.f186.body = some code186 := rfl
theorem pr186 : C.prim 186 = none := rfl
theorem fu186 : C.funcs 186 = some Tryz.f186 := Tryz.func186
theorem op186 {a : List V} {H : List Ob} {R : V → List Ob → Prop} : Ret C 186 a H R ↔ WP C 186 code186 ⟨initRegs a, 0, H⟩ (finQ C Tryz.f186 H R) := Ret_fn pr186 fi186 fu186 bo186
@[simp] theorem locs186 : C.locs 186 = [] := by kernel_rfl
noncomputable def code187 : Code := match Tryz.f187.body with | some c => c | none => .skip
theorem fi187 : C.fids 187 = true := by kernel_rfl
theorem bo187 : Tryz.f187.body = some code187 := rfl
theorem pr187 : C.prim 187 = none := rfl
theorem fu187 : C.funcs 187 = some Tryz.f187 := Tryz.func187
theorem op187 {a : List V} {H : List Ob} {R : V → List Ob → Prop} : Ret C 187 a H R ↔ WP C 187 code187 ⟨initRegs a, 0, H⟩ (finQ C Tryz.f187 H R) := Ret_fn pr187 fi187 fu187 bo187
@[simp] theorem locs187 : C.locs 187 = [3] := by kernel_rfl
noncomputable def code188 : Code := match Tryz.f188.body with | some c => c | none => .skip
theorem fi188 : C.fids 188 = true := by kernel_rfl
theorem bo188 : Tryz.f188.body = some code188 := rfl
theorem pr188 : C.prim 188 = none := rfl
theorem fu188 : C.funcs 188 = some Tryz.f188 := Tryz.func188
theorem op188 {a : List V} {H : List Ob} {R : V → List Ob → Prop} : Ret C 188 a H R ↔ WP C 188 code188 ⟨initRegs a, 0, H⟩ (finQ C Tryz.f188 H R) := Ret_fn pr188 fi188 fu188 bo188
@[simp] theorem locs188 : C.locs 188 = [1, 2, 3] := by kernel_rfl
noncomputable def code189 : Code := match Tryz.f189.body with | some c => c | none => .skip
theorem fi189 : C.fids 189 = true := by kernel_rfl
theorem bo189 : Tryz.f189.body = some code189 := rfl
theorem pr189 : C.prim 189 = none := rfl
theorem fu189 : C.funcs 189 = some Tryz.f189 := Tryz.func189
theorem op189 {a : List V} {H : List Ob} {R : V → List Ob → Prop} : Ret C 189 a H R ↔ WP C 189 code189 ⟨initRegs a, 0, H⟩ (finQ C Tryz.f189 H R) := Ret_fn pr189 fi189 fu189 bo189
@[simp] theorem locs189 : C.locs 189 = [1, 2, 3] := by kernel_rfl
noncomputable def code190 : Code := match Tryz.f190.body with | some c => c | none => .skip
theorem fi190 : C.fids 190 = true := by kernel_rfl
theorem bo190 : Tryz.f190.body = some code190 := rfl
theorem pr190 : C.prim 190 = none := rfl
theorem fu190 : C.funcs 190 = some Tryz.f190 := Tryz.func190
theorem op190 {a : List V} {H : List Ob} {R : V → List Ob → Prop} : Ret C 190 a H R ↔ WP C 190 code190 ⟨initRegs a, 0, H⟩ (finQ C Tryz.f190 H R) := Ret_fn pr190 fi190 fu190 bo190
@[simp] theorem locs190 : C.locs 190 = [] := by kernel_rfl
noncomputable def code191 : Code := match Tryz.f191.body with | some c => c | none => .skip
theorem fi191 : C.fids 191 = true := by kernel_rfl
theorem bo191 : Tryz.f191.body = some code191 := rfl
theorem pr191 : C.prim 191 = none := rfl
theorem fu191 : C.funcs 191 = some Tryz.f191 := Tryz.func191
theorem op191 {a : List V} {H : List Ob} {R : V → List Ob → Prop} : Ret C 191 a H R ↔ WP C 191 code191 ⟨initRegs a, 0, H⟩ (finQ C Tryz.f191 H R) := Ret_fn pr191 fi191 fu191 bo191
@[simp] theorem locs191 : C.locs 191 = [4] := by kernel_rfl
noncomputable def code192 : Code := match Tryz.f192.body with | some c => c | none => .skip
theorem fi192 : C.fids 192 = true := by kernel_rfl
theorem bo192 : Tryz.f192.body = some code192 := rfl
theorem pr192 : C.prim 192 = none := rfl
theorem fu192 : C.funcs 192 = some Tryz.f192 := Tryz.func192
theorem op192 {a : List V} {H : List Ob} {R : V → List Ob → Prop} : Ret C 192 a H R ↔ WP C 192 code192 ⟨initRegs a, 0, H⟩ (finQ C Tryz.f192 H R) := Ret_fn pr192 fi192 fu192 bo192
@[simp] theorem locs192 : C.locs 192 = [] := by kernel_rfl
noncomputable def code193 : Code := match Tryz.f193.body with | some c => c | none => .skip
theorem fi193 : C.fids 193 = true := by kernel_rfl
theorem bo193 : Tryz.f193.body = some code193 := rfl
theorem pr193 : C.prim 193 = none := rfl
theorem fu193 : C.funcs 193 = some Tryz.f193 := Tryz.func193
theorem op193 {a : List V} {H : List Ob} {R : V → List Ob → Prop} : Ret C 193 a H R ↔ WP C 193 code193 ⟨initRegs a, 0, H⟩ (finQ C Tryz.f193 H R) := Ret_fn pr193 fi193 fu193 bo193
@[simp] theorem locs193 : C.locs 193 = [5] := by kernel_rfl
noncomputable def code194 : Code := match Tryz.f194.body with | some c => c | none => .skip
theorem fi194 : C.fids 194 = true := by kernel_rfl
theorem bo194 : Tryz.f194.body = some code194 := rfl
theorem pr194 : C.prim 194 = none := rfl
theorem fu194 : C.funcs 194 = some Tryz.f194 := Tryz.func194
theorem op194 {a : List V} {H : List Ob} {R : V → List Ob → Prop} : Ret C 194 a H R ↔ WP C 194 code194 ⟨initRegs a, 0, H⟩ (finQ C Tryz.f194 H R) := Ret_fn pr194 fi194 fu194 bo194
@[simp] theorem locs194 : C.locs 194 = [] := by kernel_rfl
noncomputable def code195 : Code := match Tryz.f195.body with | some c => c | none => .skip
theorem fi195 : C.fids 195 = true := by kernel_rfl
theorem bo195 : Tryz.f195.body = some code195 := rfl
theorem pr195 : C.prim 195 = none := rfl
theorem fu195 : C.funcs 195 = some Tryz.f195 := Tryz.func195
theorem op195 {a : List V} {H : List Ob} {R : V → List Ob → Prop} : Ret C 195 a H R ↔ WP C 195 code195 ⟨initRegs a, 0, H⟩ (finQ C Tryz.f195 H R) := Ret_fn pr195 fi195 fu195 bo195
@[simp] theorem locs195 : C.locs 195 = [1, 2, 3, 5] := by kernel_rfl
noncomputable def code196 : Code := match Tryz.f196.body with | some c => c | none => .skip
theorem fi196 : C.fids 196 = true := by kernel_rfl
theorem bo196 : Tryz.f196.body = some code196 := rfl
theorem pr196 : C.prim 196 = none := rfl
theorem fu196 : C.funcs 196 = some Tryz.f196 := Tryz.func196
theorem op196 {a : List V} {H : List Ob} {R : V → List Ob → Prop} : Ret C 196 a H R ↔ WP C 196 code196 ⟨initRegs a, 0, H⟩ (finQ C Tryz.f196 H R) := Ret_fn pr196 fi196 fu196 bo196
@[simp] theorem locs196 : C.locs 196 = [2, 3] := by kernel_rfl
noncomputable def code197 : Code := match Tryz.f197.body with | some c => c | none => .skip
theorem fi197 : C.fids 197 = true := by kernel_rfl
theorem bo197 : Tryz.f197.body = some code197 := rfl
theorem pr197 : C.prim 197 = none := rfl
theorem fu197 : C.funcs 197 = some Tryz.f197 := Tryz.func197
theorem op197 {a : List V} {H : List Ob} {R : V → List Ob → Prop} : Ret C 197 a H R ↔ WP C 197 code197 ⟨initRegs a, 0, H⟩ (finQ C Tryz.f197 H R) := Ret_fn pr197 fi197 fu197 bo197
@[simp] theorem locs197 : C.locs 197 = [] := by kernel_rfl
noncomputable def code198 : Code := match Tryz.f198.body with | some c => c | none => .skip
theorem fi198 : C.fids 198 = true := by kernel_rfl
theorem bo198 : Tryz.f198.body = some code198 := rfl
theorem pr198 : C.prim 198 = none := rfl
theorem fu198 : C.funcs 198 = some Tryz.f198 := Tryz.func198
theorem op198 {a : List V} {H : List Ob} {R : V → List Ob → Prop} : Ret C 198 a H R ↔ WP C 198 code198 ⟨initRegs a, 0, H⟩ (finQ C Tryz.f198 H R) := Ret_fn pr198 fi198 fu198 bo198
@[simp] theorem locs198 : C.locs 198 = [] := by kernel_rfl
noncomputable def code199 : Code := match Tryz.f199.body with | some c => c | none => .skip
theorem fi199 : C.fids 199 = true := by kernel_rfl
theorem bo199 : Tryz.f199.body = some code199 := rfl
theorem pr199 : C.prim 199 = none := rfl
theorem fu199 : C.funcs 199 = some Tryz.f199 := Tryz.func199
theorem op199 {a : List V} {H : List Ob} {R : V → List Ob → Prop} : Ret C 199 a H R ↔ WP C 199 code199 ⟨initRegs a, 0, H⟩ (finQ C Tryz.f199 H R) := Ret_fn pr199 fi199 fu199 bo199
@[simp] theorem locs199 : C.locs 199 = [] := by kernel_rfl
noncomputable def code200 : Code := match Tryz.f200.body with | some c => c | none => .skip
theorem fi200 : C.fids 200 = true := by kernel_rfl
theorem bo200 : Tryz.f200.body = some code200 := rfl
theorem pr200 : C.prim 200 = none := rfl
theorem fu200 : C.funcs 200 = some Tryz.f200 := Tryz.func200
theorem op200 {a : List V} {H : List Ob} {R : V → List Ob → Prop} : Ret C 200 a H R ↔ WP C 200 code200 ⟨initRegs a, 0, H⟩ (finQ C Tryz.f200 H R) := Ret_fn pr200 fi200 fu200 bo200
@[simp] theorem locs200 : C.locs 200 = [] := by kernel_rfl
@[simp] theorem locs201 : C.locs 201 = [2] := by kernel_rfl
@[simp] theorem locs202 : C.locs 202 = [2, 4] := by kernel_rfl
noncomputable def code203 : Code := match Tryz.f203.body with | some c => c | none => .skip
theorem fi203 : C.fids 203 = true := by kernel_rfl
theorem bo203 : Tryz.f203.body = some code203 := rfl
theorem pr203 : C.prim 203 = none := rfl
theorem fu203 : C.funcs 203 = some Tryz.f203 := Tryz.func203
theorem op203 {a : List V} {H : List Ob} {R : V → List Ob → Prop} : Ret C 203 a H R ↔ WP C 203 code203 ⟨initRegs a, 0, H⟩ (finQ C Tryz.f203 H R) := Ret_fn pr203 fi203 fu203 bo203
@[simp] theorem locs203 : C.locs 203 = [3] := by kernel_rfl
@[simp] theorem locs204 : C.locs 204 = [3, 6] := by kernel_rfl
@[simp] theorem locs205 : C.locs 205 = [2, 3, 4, 5] := by kernel_rfl
@[simp] theorem locs206 : C.locs 206 = [2, 4, 5] := by kernel_rfl
noncomputable def code207 : Code := match Tryz.f207.body with | some c => c | none => .skip
theorem fi207 : C.fids 207 = true := by kernel_rfl
theorem bo207 : Tryz.f207.body = some code207 := rfl
theorem pr207 : C.prim 207 = none := rfl
theorem fu207 : C.funcs 207 = some Tryz.f207 := Tryz.func207
theorem op207 {a : List V} {H : List Ob} {R : V → List Ob → Prop} : Ret C 207 a H R ↔ WP C 207 code207 ⟨initRegs a, 0, H⟩ (finQ C Tryz.f207 H R) := Ret_fn pr207 fi207 fu207 bo207
@[simp] theorem locs207 : C.locs 207 = [] := by kernel_rfl
@[simp] theorem locs208 : C.locs 208 = [1, 2] := by kernel_rfl
@[simp] theorem locs209 : C.locs 209 = [] := by kernel_rfl
noncomputable def code210 : Code := match Tryz.f210.body with | some c => c | none => .skip
theorem fi210 : C.fids 210 = true := by kernel_rfl
theorem bo210 : Tryz.f210.body = some code210 := rfl
theorem pr210 : C.prim 210 = none := rfl
theorem fu210 : C.funcs 210 = some Tryz.f210 := Tryz.func210
theorem op210 {a : List V} {H : List Ob} {R : V → List Ob → Prop} : Ret C 210 a H R ↔ WP C 210 code210 ⟨initRegs a, 0, H⟩ (finQ C Tryz.f210 H R) := Ret_fn pr210 fi210 fu210 bo210
@[simp] theorem locs210 : C.locs 210 = [] := by kernel_rfl
noncomputable def code211 : Code := match Tryz.f211.body with | some c => c | none => .skip
theorem fi211 : C.fids 211 = true := by kernel_rfl
theorem bo211 : Tryz.f211.body = some code211 := rfl
theorem pr211 : C.prim 211 = none := rfl
theorem fu211 : C.funcs 211 = some Tryz.f211 := Tryz.func211
theorem op211 {a : List V} {H : List Ob} {R : V → List Ob → Prop} : Ret C 211 a H R ↔ WP C 211 code211 ⟨initRegs a, 0, H⟩ (finQ C Tryz.f211 H R) := Ret_fn pr211 fi211 fu211 bo211
@[simp] theorem locs211 : C.locs 211 = [] := by kernel_rfl
@[simp] theorem locs212 : C.locs 212 = [] := by kernel_rfl
noncomputable def code213 : Code := match Tryz.f213.body with | some c => c | none => .skip
theorem fi213 : C.fids 213 = true := by kernel_rfl
theorem bo213 : Tryz.f213.body = some code213 := rfl
theorem pr213 : C.prim 213 = none := rfl
theorem fu213 : C.funcs 213 = some Tryz.f213 := Tryz.func213
theorem op213 {a : List V} {H : List Ob} {R : V → List Ob → Prop} : Ret C 213 a H R ↔ WP C 213 code213 ⟨initRegs a, 0, H⟩ (finQ C Tryz.f213 H R) := Ret_fn pr213 fi213 fu213 bo213
@[simp] theorem locs213 : C.locs 213 = [5, 8] := by kernel_rfl
@[simp] theorem locs214 : C.locs 214 = [] := by kernel_rfl
@[simp] theorem locs216 : C.locs 216 = [1] := by kernel_rfl
@[simp] theorem locs217 : C.locs 217 = [2, 3, 4, 6] := by kernel_rfl
@[simp] theorem locs218 : C.locs 218 = [1, 2, 3] := by kernel_rfl
@[simp] theorem locs219 : C.locs 219 = [] := by kernel_rfl
@[simp] theorem locs220 : C.locs 220 = [1] := by kernel_rfl
@[simp] theorem locs221 : C.locs 221 = [1] := by kernel_rfl
@[simp] theorem locs222 : C.locs 222 = [] := by kernel_rfl
@[simp] theorem locs223 : C.locs 223 = [3] := by kernel_rfl
noncomputable def code224 : Code := match Tryz.f224.body with | some c => c | none => .skip
theorem fi224 : C.fids 224 = true := by kernel_rfl
theorem bo224 : Tryz.f224.body = some code224 := rfl
theorem pr224 : C.prim 224 = none := rfl
theorem fu224 : C.funcs 224 = some Tryz.f224 := Tryz.func224
theorem op224 {a : List V} {H : List Ob} {R : V → List Ob → Prop} : Ret C 224 a H R ↔ WP C 224 code224 ⟨initRegs a, 0, H⟩ (finQ C Tryz.f224 H R) := Ret_fn pr224 fi224 fu224 bo224
@[simp] theorem locs224 : C.locs 224 = [] := by kernel_rfl
noncomputable def code225 : Code := match Tryz.f225.body with | some c => c | none => .skip
theorem fi225 : C.fids 225 = true := by kernel_rfl
theorem bo225 : Tryz.f225.body = some code225 := rfl
theorem pr225 : C.prim 225 = none := rfl
theorem fu225 : C.funcs 225 = some Tryz.f225 := Tryz.func225
theorem op225 {a : List V} {H : List Ob} {R : V → List Ob → Prop} : Ret C 225 a H R ↔ WP C 225 code225 ⟨initRegs a, 0, H⟩ (finQ C Tryz.f225 H R) := Ret_fn pr225 fi225 fu225 bo225
@[simp] theorem locs225 : C.locs 225 = [1] := by kernel_rfl
noncomputable def code226 : Code := match Tryz.f226.body with | some c => c | none => .skip
theorem fi226 : C.fids 226 = true := by kernel_rfl
theorem bo226 : Tryz.f226.body = some code226 := rfl
theorem pr226 : C.prim 226 = none := rfl
theorem fu226 : C.funcs 226 = some Tryz.f226 := Tryz.func226
theorem op226 {a : List V} {H : List Ob} {R : V → List Ob → Prop} : Ret C 226 a H R ↔ WP C 226 code226 ⟨initRegs a, 0, H⟩ (finQ C Tryz.f226 H R) := Ret_fn pr226 fi226 fu226 bo226
@[simp] theorem locs226 : C.locs 226 = [] := by kernel_rfl
noncomputable def code227 : Code := match Tryz.f227.body with | some c => c | none => .skip
theorem fi227 : C.fids 227 = true := by kernel_rfl
theorem bo227 : Tryz.f227.body = some code227 := rfl
theorem pr227 : C.prim 227 = none := rfl
theorem fu227 : C.funcs 227 = some Tryz.f227 := Tryz.func227
theorem op227 {a : List V} {H : List Ob} {R : V → List Ob → Prop} : Ret C 227 a H R ↔ WP C 227 code227 ⟨initRegs a, 0, H⟩ (finQ C Tryz.f227 H R) := Ret_fn pr227 fi227 fu227 bo227
@[simp] theorem locs227 : C.locs 227 = [] := by kernel_rfl
noncomputable def code228 : Code := match Tryz.f228.body with | some c => c | none => .skip
theorem fi228 : C.fids 228 = true := by kernel_rfl
theorem bo228 : Tryz.f228.body = some code228 := rfl
theorem pr228 : C.prim 228 = none := rfl
theorem fu228 : C.funcs 228 = some Tryz.f228 := Tryz.func228
theorem op228 {a : List V} {H : List Ob} {R : V → List Ob → Prop} : Ret C 228 a H R ↔ WP C 228 code228 ⟨initRegs a, 0, H⟩ (finQ C Tryz.f228 H R) := Ret_fn pr228 fi228 fu228 bo228
@[simp] theorem locs228 : C.locs 228 = [] := by kernel_rfl
noncomputable def code229 : Code := match Tryz.f229.body with | some c => c | none => .skip
theorem fi229 : C.fids 229 = true := by kernel_rfl
theorem bo229 : Tryz.f229.body = some code229 := rfl
theorem pr229 : C.prim 229 = none := rfl
theorem fu229 : C.funcs 229 = some Tryz.f229 := Tryz.func229
theorem op229 {a : List V} {H : List Ob} {R : V → List Ob → Prop} : Ret C 229 a H R ↔ WP C 229 code229 ⟨initRegs a, 0, H⟩ (finQ C Tryz.f229 H R) := Ret_fn pr229 fi229 fu229 bo229
@[simp] theorem locs229 : C.locs 229 = [2, 3] := by kernel_rfl
noncomputable def code230 : Code := match Tryz.f230.body with | some c => c | none => .skip
theorem fi230 : C.fids 230 = true := by kernel_rfl
theorem bo230 : Tryz.f230.body = some code230 := rfl
theorem pr230 : C.prim 230 = none := rfl
theorem fu230 : C.funcs 230 = some Tryz.f230 := Tryz.func230
theorem op230 {a : List V} {H : List Ob} {R : V → List Ob → Prop} : Ret C 230 a H R ↔ WP C 230 code230 ⟨initRegs a, 0, H⟩ (finQ C Tryz.f230 H R) := Ret_fn pr230 fi230 fu230 bo230
@[simp] theorem locs230 : C.locs 230 = [] := by kernel_rfl
noncomputable def code231 : Code := match Tryz.f231.body with | some c => c | none => .skip
theorem fi231 : C.fids 231 = true := by kernel_rfl
theorem bo231 : Tryz.f231.body = some code231 := rfl
theorem pr231 : C.prim 231 = none := rfl
theorem fu231 : C.funcs 231 = some Tryz.f231 := Tryz.func231
theorem op231 {a : List V} {H : List Ob} {R : V → List Ob → Prop} : Ret C 231 a H R ↔ WP C 231 code231 ⟨initRegs a, 0, H⟩ (finQ C Tryz.f231 H R) := Ret_fn pr231 fi231 fu231 bo231
@[simp] theorem locs231 : C.locs 231 = [] := by kernel_rfl
noncomputable def code232 : Code := match Tryz.f232.body with | some c => c | none => .skip
theorem fi232 : C.fids 232 = true := by kernel_rfl
theorem bo232 : Tryz.f232.body = some code232 := rfl
theorem pr232 : C.prim 232 = none := rfl
theorem fu232 : C.funcs 232 = some Tryz.f232 := Tryz.func232
theorem op232 {a : List V} {H : List Ob} {R : V → List Ob → Prop} : Ret C 232 a H R ↔ WP C 232 code232 ⟨initRegs a, 0, H⟩ (finQ C Tryz.f232 H R) := Ret_fn pr232 fi232 fu232 bo232
@[simp] theorem locs232 : C.locs 232 = [1] := by kernel_rfl
noncomputable def code233 : Code := match Tryz.f233.body with | some c => c | none => .skip
theorem fi233 : C.fids 233 = true := by kernel_rfl
theorem bo233 : Tryz.f233.body = some code233 := rfl
theorem pr233 : C.prim 233 = none := rfl
theorem fu233 : C.funcs 233 = some Tryz.f233 := Tryz.func233
theorem op233 {a : List V} {H : List Ob} {R : V → List Ob → Prop} : Ret C 233 a H R ↔ WP C 233 code233 ⟨initRegs a, 0, H⟩ (finQ C Tryz.f233 H R) := Ret_fn pr233 fi233 fu233 bo233
@[simp] theorem locs233 : C.locs 233 = [] := by kernel_rfl
noncomputable def code234 : Code := match Tryz.f234.body with | some c => c | none => .skip
theorem fi234 : C.fids 234 = true := by kernel_rfl
theorem bo234 : Tryz.f234.body = some code234 := rfl
theorem pr234 : C.prim 234 = none := rfl
theorem fu234 : C.funcs 234 = some Tryz.f234 := Tryz.func234
theorem op234 {a : List V} {H : List Ob} {R : V → List Ob → Prop} : Ret C 234 a H R ↔ WP C 234 code234 ⟨initRegs a, 0, H⟩ (finQ C Tryz.f234 H R) := Ret_fn pr234 fi234 fu234 bo234
@[simp] theorem locs234 : C.locs 234 = [] := by kernel_rfl
noncomputable def code235 : Code := match Tryz.f235.body with | some c => c | none => .skip
theorem fi235 : C.fids 235 = true := by kernel_rfl
theorem bo235 : Tryz.f235.body = some code235 := rfl
theorem pr235 : C.prim 235 = none := rfl
theorem fu235 : C.funcs 235 = some Tryz.f235 := Tryz.func235
theorem op235 {a : List V} {H : List Ob} {R : V → List Ob → Prop} : Ret C 235 a H R ↔ WP C 235 code235 ⟨initRegs a, 0, H⟩ (finQ C Tryz.f235 H R) := Ret_fn pr235 fi235 fu235 bo235
@[simp] theorem locs235 : C.locs 235 = [] := by kernel_rfl
noncomputable def code236 : Code := match Tryz.f236.body with | some c => c | none => .skip
theorem fi236 : C.fids 236 = true := by kernel_rfl
theorem bo236 : Tryz.f236.body = some code236 := rfl
theorem pr236 : C.prim 236 = none := rfl
theorem fu236 : C.funcs 236 = some Tryz.f236 := Tryz.func236
theorem op236 {a : List V} {H : List Ob} {R : V → List Ob → Prop} : Ret C 236 a H R ↔ WP C 236 code236 ⟨initRegs a, 0, H⟩ (finQ C Tryz.f236 H R) := Ret_fn pr236 fi236 fu236 bo236
@[simp] theorem locs236 : C.locs 236 = [] := by kernel_rfl
noncomputable def code237 : Code := match Tryz.f237.body with | some c => c | none => .skip
theorem fi237 : C.fids 237 = true := by kernel_rfl
theorem bo237 : Tryz.f237.body = some code237 := rfl
theorem pr237 : C.prim 237 = none := rfl
theorem fu237 : C.funcs 237 = some Tryz.f237 := Tryz.func237
theorem op237 {a : List V} {H : List Ob} {R : V → List Ob → Prop} : Ret C 237 a H R ↔ WP C 237 code237 ⟨initRegs a, 0, H⟩ (finQ C Tryz.f237 H R) := Ret_fn pr237 fi237 fu237 bo237
@[simp] theorem locs237 : C.locs 237 = [] := by kernel_rfl
noncomputable def code238 : Code := match Tryz.f238.body with | some c => c | none => .skip
theorem fi238 : C.fids 238 = true := by kernel_rfl
theorem bo238 : Tryz.f238.body = some code238 := rfl
theorem pr238 : C.prim 238 = none := rfl
theorem fu238 : C.funcs 238 = some Tryz.f238 := Tryz.func238
theorem op238 {a : List V} {H : List Ob} {R : V → List Ob → Prop} : Ret C 238 a H R ↔ WP C 238 code238 ⟨initRegs a, 0, H⟩ (finQ C Tryz.f238 H R) := Ret_fn pr238 fi238 fu238 bo238
@[simp] theorem locs238 : C.locs 238 = [] := by kernel_rfl
noncomputable def code239 : Code := match Tryz.f239.body with | some c => c | none => .skip
theorem fi239 : C.fids 239 = true := by kernel_rfl
theorem bo239 : Tryz.f239.body = some code239 := rfl
theorem pr239 : C.prim 239 = none := rfl
theorem fu239 : C.funcs 239 = some Tryz.f239 := Tryz.func239
theorem op239 {a : List V} {H : List Ob} {R : V → List Ob → Prop} : Ret C 239 a H R ↔ WP C 239 code239 ⟨initRegs a, 0, H⟩ (finQ C Tryz.f239 H R) := Ret_fn pr239 fi239 fu239 bo239
@[simp] theorem locs239 : C.locs 239 = [] := by kernel_rfl
noncomputable def code240 : Code := match Tryz.f240.body with | some c => c | none => .skip
theorem fi240 : C.fids 240 = true := by kernel_rfl
theorem bo240 : Tryz.f240.body = some code240 := rfl
theorem pr240 : C.prim 240 = none := rfl
theorem fu240 : C.funcs 240 = some Tryz.f240 := Tryz.func240
theorem op240 {a : List V} {H : List Ob} {R : V → List Ob → Prop} : Ret C 240 a H R ↔ WP C 240 code240 ⟨initRegs a, 0, H⟩ (finQ C Tryz.f240 H R) := Ret_fn pr240 fi240 fu240 bo240
@[simp] theorem locs240 : C.locs 240 = [] := by kernel_rfl
noncomputable def code241 : Code := match Tryz.f241.body with | some c => c | none => .skip
theorem fi241 : C.fids 241 = true := by kernel_rfl
theorem bo241 : Tryz.f241.body = some code241 := rfl
theorem pr241 : C.prim 241 = none := rfl
theorem fu241 : C.funcs 241 = some Tryz.f241 := Tryz.func241
theorem op241 {a : List V} {H : List Ob} {R : V → List Ob → Prop} : Ret C 241 a H R ↔ WP C 241 code241 ⟨initRegs a, 0, H⟩ (finQ C Tryz.f241 H R) := Ret_fn pr241 fi241 fu241 bo241
@[simp] theorem locs241 : C.locs 241 = [] := by kernel_rfl
noncomputable def code247 : Code := match Tryz.f247.body with | some c => c | none => .skip
theorem fi247 : C.fids 247 = true := by kernel_rfl
theorem bo247 : Tryz.f247.body = some code247 := rfl
theorem pr247 : C.prim 247 = none := rfl
theorem fu247 : C.funcs 247 = some Tryz.f247 := Tryz.func247
theorem op247 {a : List V} {H : List Ob} {R : V → List Ob → Prop} : Ret C 247 a H R ↔ WP C 247 code247 ⟨initRegs a, 0, H⟩ (finQ C Tryz.f247 H R) := Ret_fn pr247 fi247 fu247 bo247
@[simp] theorem locs247 : C.locs 247 = [1] := by kernel_rfl
noncomputable def code248 : Code := match Tryz.f248.body with | some c => c | none => .skip
theorem fi248 : C.fids 248 = true := by kernel_rfl
theorem bo248 : Tryz.f248.body = some code248 := rfl
theorem pr248 : C.prim 248 = none := rfl
theorem fu248 : C.funcs 248 = some Tryz.f248 := Tryz.func248
theorem op248 {a : List V} {H : List Ob} {R : V → List Ob → Prop} : Ret C 248 a H R ↔ WP C 248 code248 ⟨initRegs a, 0, H⟩ (finQ C Tryz.f248 H R) := Ret_fn pr248 fi248 fu248 bo248
@[simp] theorem locs248 : C.locs 248 = [3, 4] := by kernel_rfl
noncomputable def code249 : Code := match Tryz.f249.body with | some c => c | none => .skip
theorem fi249 : C.fids 249 = true := by kernel_rfl
theorem bo249 : Tryz.f249.body = some code249 := rfl
theorem pr249 : C.prim 249 = none := rfl
theorem fu249 : C.funcs 249 = some Tryz.f249 := Tryz.func249
theorem op249 {a : List V} {H : List Ob} {R : V → List Ob → Prop} : Ret C 249 a H R ↔ WP C 249 code249 ⟨initRegs a, 0, H⟩ (finQ C Tryz.f249 H R) := Ret_fn pr249 fi249 fu249 bo249
@[simp] theorem locs249 : C.locs 249 = [2] := by kernel_rfl
noncomputable def code250 : Code := match Tryz.f250.body with | some c => c | none => .skip
theorem fi250 : C.fids 250 = true := by kernel_rfl
theorem bo250 : Tryz.f250.body = some code250 := rfl
theorem pr250 : C.prim 250 = none := rfl
theorem fu250 : C.funcs 250 = some Tryz.f250 := Tryz.func250
theorem op250 {a : List V} {H : List Ob} {R : V → List Ob → Prop} : Ret C 250 a H R ↔ WP C 250 code250 ⟨initRegs a, 0, H⟩ (finQ C Tryz.f250 H R) := Ret_fn pr250 fi250 fu250 bo250
@[simp] theorem locs250 : C.locs 250 = [] := by kernel_rfl
noncomputable def code256 : Code := match Tryz.f256.body with | some c => c | none => .skip
theorem fi256 : C.fids 256 = true := by kernel_rfl
theorem bo256 : Tryz.f256.body = some code256 := rfl
theorem pr256 : C.prim 256 = none := rfl
theorem fu256 : C.funcs 256 = some Tryz.f256 := Tryz.func256
theorem op256 {a : List V} {H : List Ob} {R : V → List Ob → Prop} : Ret C 256 a H R ↔ WP C 256 code256 ⟨initRegs a, 0, H⟩ (finQ C Tryz.f256 H R) := Ret_fn pr256 fi256 fu256 bo256
@[simp] theorem locs256 : C.locs 256 = [1] := by kernel_rfl
noncomputable def code257 : Code := match Tryz.f257.body with | some c => c | none => .skip
theorem fi257 : C.fids 257 = true := by kernel_rfl
theorem bo257 : Tryz.f257.body = some code257 := rfl
theorem pr257 : C.prim 257 = none := rfl
theorem fu257 : C.funcs 257 = some Tryz.f257 := Tryz.func257
theorem op257 {a : List V} {H : List Ob} {R : V → List Ob → Prop} : Ret C 257 a H R ↔ WP C 257 code257 ⟨initRegs a, 0, H⟩ (finQ C Tryz.f257 H R) := Ret_fn pr257 fi257 fu257 bo257
@[simp] theorem locs257 : C.locs 257 = [] := by kernel_rfl
noncomputable def code259 : Code := match Tryz.f259.body with | some c => c | none => .skip
theorem fi259 : C.fids 259 = true := by kernel_rfl
theorem bo259 : Tryz.f259.body = some code259 := rfl
theorem pr259 : C.prim 259 = none := rfl
theorem fu259 : C.funcs 259 = some Tryz.f259 := Tryz.func259
theorem op259 {a : List V} {H : List Ob} {R : V → List Ob → Prop} : Ret C 259 a H R ↔ WP C 259 code259 ⟨initRegs a, 0, H⟩ (finQ C Tryz.f259 H R) := Ret_fn pr259 fi259 fu259 bo259
@[simp] theorem locs259 : C.locs 259 = [] := by kernel_rfl
@[simp] theorem locs264 : C.locs 264 = [] := by kernel_rfl
@[simp] theorem locs265 : C.locs 265 = [] := by kernel_rfl
noncomputable def code266 : Code := match Tryz.f266.body with | some c => c | none => .skip
theorem fi266 : C.fids 266 = true := by kernel_rfl
theorem bo266 : Tryz.f266.body = some code266 := rfl
theorem pr266 : C.prim 266 = none := rfl
theorem fu266 : C.funcs 266 = some Tryz.f266 := Tryz.func266
theorem op266 {a : List V} {H : List Ob} {R : V → List Ob → Prop} : Ret C 266 a H R ↔ WP C 266 code266 ⟨initRegs a, 0, H⟩ (finQ C Tryz.f266 H R) := Ret_fn pr266 fi266 fu266 bo266
@[simp] theorem locs266 : C.locs 266 = [2] := by kernel_rfl
noncomputable def code267 : Code := match Tryz.f267.body with | some c => c | none => .skip
theorem fi267 : C.fids 267 = true := by kernel_rfl
theorem bo267 : Tryz.f267.body = some code267 := rfl
theorem pr267 : C.prim 267 = none := rfl
theorem fu267 : C.funcs 267 = some Tryz.f267 := Tryz.func267
theorem op267 {a : List V} {H : List Ob} {R : V → List Ob → Prop} : Ret C 267 a H R ↔ WP C 267 code267 ⟨initRegs a, 0, H⟩ (finQ C Tryz.f267 H R) := Ret_fn pr267 fi267 fu267 bo267
@[simp] theorem locs267 : C.locs 267 = [] := by kernel_rfl
noncomputable def code268 : Code := match Tryz.f268.body with | some c => c | none => .skip
theorem fi268 : C.fids 268 = true := by kernel_rfl
theorem bo268 : Tryz.f268.body = some code268 := rfl
theorem pr268 : C.prim 268 = none := rfl
theorem fu268 : C.funcs 268 = some Tryz.f268 := Tryz.func268
theorem op268 {a : List V} {H : List Ob} {R : V → List Ob → Prop} : Ret C 268 a H R ↔ WP C 268 code268 ⟨initRegs a, 0, H⟩ (finQ C Tryz.f268 H R) := Ret_fn pr268 fi268 fu268 bo268
@[simp] theorem locs268 : C.locs 268 = [] := by kernel_rfl
@[simp] theorem locs269 : C.locs 269 = [] := by kernel_rfl
@[simp] theorem locs270 : C.locs 270 = [] := by kernel_rfl
noncomputable def code272 : Code := match Tryz.f272.body with | some c => c | none => .skip
theorem fi272 : C.fids 272 = true := by kernel_rfl
theorem bo272 : Tryz.f272.body = some code272 := rfl
theorem pr272 : C.prim 272 = none := rfl
theorem fu272 : C.funcs 272 = some Tryz.f272 := Tryz.func272
theorem op272 {a : List V} {H : List Ob} {R : V → List Ob → Prop} : Ret C 272 a H R ↔ WP C 272 code272 ⟨initRegs a, 0, H⟩ (finQ C Tryz.f272 H R) := Ret_fn pr272 fi272 fu272 bo272
@[simp] theorem locs272 : C.locs 272 = [1] := by kernel_rfl
noncomputable def code273 : Code := match Tryz.f273.body with | some c => c | none => .skip
theorem fi273 : C.fids 273 = true := by kernel_rfl
theorem bo273 : Tryz.f273.body = some code273 := rfl
theorem pr273 : C.prim 273 = none := rfl
theorem fu273 : C.funcs 273 = some Tryz.f273 := Tryz.func273
theorem op273 {a : List V} {H : List Ob} {R : V → List Ob → Prop} : Ret C 273 a H R ↔ WP C 273 code273 ⟨initRegs a, 0, H⟩ (finQ C Tryz.f273 H R) := Ret_fn pr273 fi273 fu273 bo273
@[simp] theorem locs273 : C.locs 273 = [] := by kernel_rfl
noncomputable def code274 : Code := match Tryz.f274.body with | some c => c | none => .skip
theorem fi274 : C.fids 274 = true := by kernel_rfl
theorem bo274 : Tryz.f274.body = some code274 := rfl
theorem pr274 : C.prim 274 = none := rfl
theorem fu274 : C.funcs 274 = some Tryz.f274 := Tryz.func274
theorem op274 {a : List V} {H : List Ob} {R : V → List Ob → Prop} : Ret C 274 a H R ↔ WP C 274 code274 ⟨initRegs a, 0, H⟩ (finQ C Tryz.f274 H R) := Ret_fn pr274 fi274 fu274 bo274
@[simp] theorem locs274 : C.locs 274 = [2] := by kernel_rfl
noncomputable def code275 : Code := match Tryz.f275.body with | some c => c | none => .skip
theorem fi275 : C.fids 275 = true := by kernel_rfl
theorem bo275 : Tryz.f275.body = some code275 := rfl
theorem pr275 : C.prim 275 = none := rfl
theorem fu275 : C.funcs 275 = some Tryz.f275 := Tryz.func275
theorem op275 {a : List V} {H : List Ob} {R : V → List Ob → Prop} : Ret C 275 a H R ↔ WP C 275 code275 ⟨initRegs a, 0, H⟩ (finQ C Tryz.f275 H R) := Ret_fn pr275 fi275 fu275 bo275
@[simp] theorem locs275 : C.locs 275 = [] := by kernel_rfl
noncomputable def code276 : Code := match Tryz.f276.body with | some c => c | none => .skip
theorem fi276 : C.fids 276 = true := by kernel_rfl
theorem bo276 : Tryz.f276.body = some code276 := rfl
theorem pr276 : C.prim 276 = none := rfl
theorem fu276 : C.funcs 276 = some Tryz.f276 := Tryz.func276
theorem op276 {a : List V} {H : List Ob} {R : V → List Ob → Prop} : Ret C 276 a H R ↔ WP C 276 code276 ⟨initRegs a, 0, H⟩ (finQ C Tryz.f276 H R) := Ret_fn pr276 fi276 fu276 bo276
@[simp] theorem locs276 : C.locs 276 = [] := by kernel_rfl
noncomputable def code277 : Code := match Tryz.f277.body with | some c => c | none => .skip
theorem fi277 : C.fids 277 = true := by kernel_rfl
theorem bo277 : Tryz.f277.body = some code277 := rfl
theorem pr277 : C.prim 277 = none := rfl
theorem fu277 : C.funcs 277 = some Tryz.f277 := Tryz.func277
theorem op277 {a : List V} {H : List Ob} {R : V → List Ob → Prop} : Ret C 277 a H R ↔ WP C 277 code277 ⟨initRegs a, 0, H⟩ (finQ C Tryz.f277 H R) := Ret_fn pr277 fi277 fu277 bo277
@[simp] theorem locs277 : C.locs 277 = [] := by kernel_rfl
noncomputable def code278 : Code := match Tryz.f278.body with | some c => c | none => .skip
theorem fi278 : C.fids 278 = true := by kernel_rfl
theorem bo278 : Tryz.f278.body = some code278 := rfl
theorem pr278 : C.prim 278 = none := rfl
theorem fu278 : C.funcs 278 = some Tryz.f278 := Tryz.func278
theorem op278 {a : List V} {H : List Ob} {R : V → List Ob → Prop} : Ret C 278 a H R ↔ WP C 278 code278 ⟨initRegs a, 0, H⟩ (finQ C Tryz.f278 H R) := Ret_fn pr278 fi278 fu278 bo278
@[simp] theorem locs278 : C.locs 278 = [] := by kernel_rfl
noncomputable def code279 : Code := match Tryz.f279.body with | some c => c | none => .skip
theorem fi279 : C.fids 279 = true := by kernel_rfl
theorem bo279 : Tryz.f279.body = some code279 := rfl
theorem pr279 : C.prim 279 = none := rfl
theorem fu279 : C.funcs 279 = some Tryz.f279 := Tryz.func279
theorem op279 {a : List V} {H : List Ob} {R : V → List Ob → Prop} : Ret C 279 a H R ↔ WP C 279 code279 ⟨initRegs a, 0, H⟩ (finQ C Tryz.f279 H R) := Ret_fn pr279 fi279 fu279 bo279
@[simp] theorem locs279 : C.locs 279 = [] := by kernel_rfl
noncomputable def code280 : Code := match Tryz.f280.body with | some c => c | none => .skip
theorem fi280 : C.fids 280 = true := by kernel_rfl
theorem bo280 : Tryz.f280.body = some code280 := rfl
theorem pr280 : C.prim 280 = none := rfl
theorem fu280 : C.funcs 280 = some Tryz.f280 := Tryz.func280
theorem op280 {a : List V} {H : List Ob} {R : V → List Ob → Prop} : Ret C 280 a H R ↔ WP C 280 code280 ⟨initRegs a, 0, H⟩ (finQ C Tryz.f280 H R) := Ret_fn pr280 fi280 fu280 bo280
@[simp] theorem locs280 : C.locs 280 = [2] := by kernel_rfl
@[simp] theorem locs281 : C.locs 281 = [2] := by kernel_rfl
@[simp] theorem locs282 : C.locs 282 = [3, 6, 7, 9] := by kernel_rfl
@[simp] theorem locs283 : C.locs 283 = [5, 6] := by kernel_rfl
@[simp] theorem locs284 : C.locs 284 = [5] := by kernel_rfl
@[simp] theorem locs285 : C.locs 285 = [2] := by kernel_rfl
noncomputable def code286 : Code := match Tryz.f286.body with | some c => c | none => .skip
theorem fi286 : C.fids 286 = true := by kernel_rfl
theorem bo286 : Tryz.f286.body = some code286 := rfl
theorem pr286 : C.prim 286 = none := rfl
theorem fu286 : C.funcs 286 = some Tryz.f286 := Tryz.func286
theorem op286 {a : List V} {H : List Ob} {R : V → List Ob → Prop} : Ret C 286 a H R ↔ WP C 286 code286 ⟨initRegs a, 0, H⟩ (finQ C Tryz.f286 H R) := Ret_fn pr286 fi286 fu286 bo286
@[simp] theorem locs286 : C.locs 286 = [] := by kernel_rfl
noncomputable def code287 : Code := match Tryz.f287.body with | some c => c | none => .skip
theorem fi287 : C.fids 287 = true := by kernel_rfl
theorem bo287 : Tryz.f287.body = some code287 := rfl
theorem pr287 : C.prim 287 = none := rfl
theorem fu287 : C.funcs 287 = some Tryz.f287 := Tryz.func287
theorem op287 {a : List V} {H : List Ob} {R : V → List Ob → Prop} : Ret C 287 a H R ↔ WP C 287 code287 ⟨initRegs a, 0, H⟩ (finQ C Tryz.f287 H R) := Ret_fn pr287 fi287 fu287 bo287
@[simp] theorem locs287 : C.locs 287 = [] := by kernel_rfl
noncomputable def code288 : Code := match Tryz.f288.body with | some c => c | none => .skip
theorem fi288 : C.fids 288 = true := by kernel_rfl
theorem bo288 : Tryz.f288.body = some code288 := rfl
theorem pr288 : C.prim 288 = none := rfl
theorem fu288 : C.funcs 288 = some Tryz.f288 := Tryz.func288
theorem op288 {a : List V} {H : List Ob} {R : V → List Ob → Prop} : Ret C 288 a H R ↔ WP C 288 code288 ⟨initRegs a, 0, H⟩ (finQ C Tryz.f288 H R) := Ret_fn pr288 fi288 fu288 bo288
@[simp] theorem locs288 : C.locs 288 = [] := by kernel_rfl
noncomputable def code289 : Code := match Tryz.f289.body with | some c => c | none => .skip
theorem fi289 : C.fids 289 = true := by kernel_rfl
theorem bo289 : Tryz.f289.body = some code289 := rfl
theorem pr289 : C.prim 289 = none := rfl
theorem fu289 : C.funcs 289 = some Tryz.f289 := Tryz.func289
theorem op289 {a : List V} {H : List Ob} {R : V → List Ob → Prop} : Ret C 289 a H R ↔ WP C 289 code289 ⟨initRegs a, 0, H⟩ (finQ C Tryz.f289 H R) := Ret_fn pr289 fi289 fu289 bo289
@[simp] theorem locs289 : C.locs 289 = [] := by kernel_rfl
noncomputable def code290 : Code := match Tryz.f290.body with | some c => c | none => .skip
theorem fi290 : C.fids 290 = true := by kernel_rfl
theorem bo290 : Tryz.f290.body = some code290 := rfl
theorem pr290 : C.prim 290 = none := rfl
theorem fu290 : C.funcs 290 = some Tryz.f290 := Tryz.func290
theorem op290 {a : List V} {H : List Ob} {R : V → List Ob → Prop} : Ret C 290 a H R ↔ WP C 290 code290 ⟨initRegs a, 0, H⟩ (finQ C Tryz.f290 H R) := Ret_fn pr290 fi290 fu290 bo290
@[simp] theorem locs290 : C.locs 290 = [] := by kernel_rfl
@[simp] theorem locs292 : C.locs 292 = [] := by kernel_rfl
noncomputable def code293 : Code := match Tryz.f293.body with | some c => c | none => .skip
theorem fi293 : C.fids 293 = true := by kernel_rfl
theorem bo293 : Tryz.f293.body = some code293 := rfl
theorem pr293 : C.prim 293 = none := rfl
theorem fu293 : C.funcs 293 = some Tryz.f293 := Tryz.func293
theorem op293 {a : List V} {H : List Ob} {R : V → List Ob → Prop} : Ret C 293 a H R ↔ WP C 293 code293 ⟨initRegs a, 0, H⟩ (finQ C Tryz.f293 H R) := Ret_fn pr293 fi293 fu293 bo293
@[simp] theorem locs293 : C.locs 293 = [4] := by kernel_rfl
noncomputable def code294 : Code := match Tryz.f294.body with | some c => c | none => .skip
theorem fi294 : C.fids 294 = true := by kernel_rfl
theorem bo294 : Tryz.f294.body = some code294 := rfl
theorem pr294 : C.prim 294 = none := rfl
theorem fu294 : C.funcs 294 = some Tryz.f294 := Tryz.func294
theorem op294 {a : List V} {H : List Ob} {R : V → List Ob → Prop} : Ret C 294 a H R ↔ WP C 294 code294 ⟨initRegs a, 0, H⟩ (finQ C Tryz.f294 H R) := Ret_fn pr294 fi294 fu294 bo294
@[simp] theorem locs294 : C.locs 294 = [2] := by kernel_rfl
@[simp] theorem locs297 : C.locs 297 = [] := by kernel_rfl
@[simp] theorem locs298 : C.locs 298 = [3, 6] := by kernel_rfl
@[simp] theorem locs299 : C.locs 299 = [3, 6] := by kernel_rfl
@[simp] theorem locs300 : C.locs 300 = [] := by kernel_rfl
@[simp] theorem locs301 : C.locs 301 = [] := by kernel_rfl
@[simp] theorem locs302 : C.locs 302 = [] := by kernel_rfl
@[simp] theorem locs303 : C.locs 303 = [] := by kernel_rfl
@[simp] theorem locs304 : C.locs 304 = [] := by kernel_rfl
noncomputable def code305 : Code := match Tryz.f305.body with | some c => c | none => .skip
theorem fi305 : C.fids 305 = true := by kernel_rfl
theorem bo305 : Tryz.f305.body = some code305 := rfl
theorem pr305 : C.prim 305 = none := rfl
theorem fu305 : C.funcs 305 = some Tryz.f305 := Tryz.func305
theorem op305 {a : List V} {H : List Ob} {R : V → List Ob → Prop} : Ret C 305 a H R ↔ WP C 305 code305 ⟨initRegs a, 0, H⟩ (finQ C Tryz.f305 H R) := Ret_fn pr305 fi305 fu305 bo305
@[simp] theorem locs305 : C.locs 305 = [1] := by kernel_rfl
noncomputable def code306 : Code := match Tryz.f306.body with | some c => c | none => .skip
theorem fi306 : C.fids 306 = true := by kernel_rfl
theorem bo306 : Tryz.f306.body = some code306 := rfl
theorem pr306 : C.prim 306 = none := rfl
theorem fu306 : C.funcs 306 = some Tryz.f306 := Tryz.func306
theorem op306 {a : List V} {H : List Ob} {R : V → List Ob → Prop} : Ret C 306 a H R ↔ WP C 306 code306 ⟨initRegs a, 0, H⟩ (finQ C Tryz.f306 H R) := Ret_fn pr306 fi306 fu306 bo306
@[simp] theorem locs306 : C.locs 306 = [] := by kernel_rfl
noncomputable def code307 : Code := match Tryz.f307.body with | some c => c | none => .skip
theorem fi307 : C.fids 307 = true := by kernel_rfl
theorem bo307 : Tryz.f307.body = some code307 := rfl
theorem pr307 : C.prim 307 = none := rfl
theorem fu307 : C.funcs 307 = some Tryz.f307 := Tryz.func307
theorem op307 {a : List V} {H : List Ob} {R : V → List Ob → Prop} : Ret C 307 a H R ↔ WP C 307 code307 ⟨initRegs a, 0, H⟩ (finQ C Tryz.f307 H R) := Ret_fn pr307 fi307 fu307 bo307
@[simp] theorem locs307 : C.locs 307 = [] := by kernel_rfl
noncomputable def code308 : Code := match Tryz.f308.body with | some c => c | none => .skip
theorem fi308 : C.fids 308 = true := by kernel_rfl
theorem bo308 : Tryz.f308.body = some code308 := rfl
theorem pr308 : C.prim 308 = none := rfl
theorem fu308 : C.funcs 308 = some Tryz.f308 := Tryz.func308
theorem op308 {a : List V} {H : List Ob} {R : V → List Ob → Prop} : Ret C 308 a H R ↔ WP C 308 code308 ⟨initRegs a, 0, H⟩ (finQ C Tryz.f308 H R) := Ret_fn pr308 fi308 fu308 bo308
@[simp] theorem locs308 : C.locs 308 = [] := by kernel_rfl
noncomputable def code309 : Code := match Tryz.f309.body with | some c => c | none => .skip
theorem fi309 : C.fids 309 = true := by kernel_rfl
theorem bo309 : Tryz.f309.body = some code309 := rfl
theorem pr309 : C.prim 309 = none := rfl
theorem fu309 : C.funcs 309 = some Tryz.f309 := Tryz.func309
theorem op309 {a : List V} {H : List Ob} {R : V → List Ob → Prop} : Ret C 309 a H R ↔ WP C 309 code309 ⟨initRegs a, 0, H⟩ (finQ C Tryz.f309 H R) := Ret_fn pr309 fi309 fu309 bo309
@[simp] theorem locs309 : C.locs 309 = [1] := by kernel_rfl
noncomputable def code310 : Code := match Tryz.f310.body with | some c => c | none => .skip
theorem fi310 : C.fids 310 = true := by kernel_rfl
theorem bo310 : Tryz.f310.body = some code310 := rfl
theorem pr310 : C.prim 310 = none := rfl
theorem fu310 : C.funcs 310 = some Tryz.f310 := Tryz.func310
theorem op310 {a : List V} {H : List Ob} {R : V → List Ob → Prop} : Ret C 310 a H R ↔ WP C 310 code310 ⟨initRegs a, 0, H⟩ (finQ C Tryz.f310 H R) := Ret_fn pr310 fi310 fu310 bo310
@[simp] theorem locs310 : C.locs 310 = [] := by kernel_rfl
noncomputable def code312 : Code := match Tryz.f312.body with | some c => c | none => .skip
theorem fi312 : C.fids 312 = true := by kernel_rfl
theorem bo312 : Tryz.f312.body = some code312 := rfl
theorem pr312 : C.prim 312 = none := rfl
theorem fu312 : C.funcs 312 = some Tryz.f312 := Tryz.func312
theorem op312 {a : List V} {H : List Ob} {R : V → List Ob → Prop} : Ret C 312 a H R ↔ WP C 312 code312 ⟨initRegs a, 0, H⟩ (finQ C Tryz.f312 H R) := Ret_fn pr312 fi312 fu312 bo312
@[simp] theorem locs312 : C.locs 312 = [] := by kernel_rfl
noncomputable def code313 : Code := match Tryz.f313.body with | some c => c | none => .skip
theorem fi313 : C.fids 313 = true := by kernel_rfl
theorem bo313 : Tryz.f313.body = some code313 := rfl
theorem pr313 : C.prim 313 = none := rfl
theorem fu313 : C.funcs 313 = some Tryz.f313 := Tryz.func313
theorem op313 {a : List V} {H : List Ob} {R : V → List Ob → Prop} : Ret C 313 a H R ↔ WP C 313 code313 ⟨initRegs a, 0, H⟩ (finQ C Tryz.f313 H R) := Ret_fn pr313 fi313 fu313 bo313
@[simp] theorem locs313 : C.locs 313 = [] := by kernel_rfl
noncomputable def code314 : Code := match Tryz.f314.body with | some c => c | none => .skip
theorem fi314 : C.fids 314 = true := by kernel_rfl
theorem bo314 : Tryz.f314.body = some code314 := rfl
theorem pr314 : C.prim 314 = none := rfl
theorem fu314 : C.funcs 314 = some Tryz.f314 := Tryz.func314
theorem op314 {a : List V} {H : List Ob} {R : V → List Ob → Prop} : Ret C 314 a H R ↔ WP C 314 code314 ⟨initRegs a, 0, H⟩ (finQ C Tryz.f314 H R) := Ret_fn pr314 fi314 fu314 bo314
@[simp] theorem locs314 : C.locs 314 = [] := by kernel_rfl
noncomputable def code315 : Code := match Tryz.f315.body with | some c => c | none => .skip
theorem fi315 : C.fids 315 = true := by kernel_rfl
theorem bo315 : Tryz.f315.body = some code315 := rfl
theorem pr315 : C.prim 315 = none := rfl
theorem fu315 : C.funcs 315 = some Tryz.f315 := Tryz.func315
theorem op315 {a : List V} {H : List Ob} {R : V → List Ob → Prop} : Ret C 315 a H R ↔ WP C 315 code315 ⟨initRegs a, 0, H⟩ (finQ C Tryz.f315 H R) := Ret_fn pr315 fi315 fu315 bo315
@[simp] theorem locs315 : C.locs 315 = [] := by kernel_rfl
noncomputable def code316 : Code := match Tryz.f316.body with | some c => c | none => .skip
theorem fi316 : C.fids 316 = true := by kernel_rfl
theorem bo316 : Tryz.f316.body = some code316 := rfl
theorem pr316 : C.prim 316 = none := rfl
theorem fu316 : C.funcs 316 = some Tryz.f316 := Tryz.func316
theorem op316 {a : List V} {H : List Ob} {R : V → List Ob → Prop} : Ret C 316 a H R ↔ WP C 316 code316 ⟨initRegs a, 0, H⟩ (finQ C Tryz.f316 H R) := Ret_fn pr316 fi316 fu316 bo316
@[simp] theorem locs316 : C.locs 316 = [] := by kernel_rfl
noncomputable def code317 : Code := match Tryz.f317.body with | some c => c | none => .skip
theorem fi317 : C.fids 317 = true := by kernel_rfl
theorem bo317 : Tryz.f317.body = some code317 := rfl
theorem pr317 : C.prim 317 = none := rfl
theorem fu317 : C.funcs 317 = some Tryz.f317 := Tryz.func317
theorem op317 {a : List V} {H : List Ob} {R : V → List Ob → Prop} : Ret C 317 a H R ↔ WP C 317 code317 ⟨initRegs a, 0, H⟩ (finQ C Tryz.f317 H R) := Ret_fn pr317 fi317 fu317 bo317
@[simp] theorem locs317 : C.locs 317 = [] := by kernel_rfl
@[simp] theorem locs322 : C.locs 322 = [] := by kernel_rfl
noncomputable def code323 : Code := match Tryz.f323.body with | some c => c | none => .skip
theorem fi323 : C.fids 323 = true := by kernel_rfl
theorem bo323 : Tryz.f323.body = some code323 := rfl
theorem pr323 : C.prim 323 = none := rfl
theorem fu323 : C.funcs 323 = some Tryz.f323 := Tryz.func323
theorem op323 {a : List V} {H : List Ob} {R : V → List Ob → Prop} : Ret C 323 a H R ↔ WP C 323 code323 ⟨initRegs a, 0, H⟩ (finQ C Tryz.f323 H R) := Ret_fn pr323 fi323 fu323 bo323
@[simp] theorem locs323 : C.locs 323 = [] := by kernel_rfl
noncomputable def code324 : Code := match Tryz.f324.body with | some c => c | none => .skip
theorem fi324 : C.fids 324 = true := by kernel_rfl
theorem bo324 : Tryz.f324.body = some code324 := rfl
theorem pr324 : C.prim 324 = none := rfl
theorem fu324 : C.funcs 324 = some Tryz.f324 := Tryz.func324
theorem op324 {a : List V} {H : List Ob} {R : V → List Ob → Prop} : Ret C 324 a H R ↔ WP C 324 code324 ⟨initRegs a, 0, H⟩ (finQ C Tryz.f324 H R) := Ret_fn pr324 fi324 fu324 bo324
@[simp] theorem locs324 : C.locs 324 = [] := by kernel_rfl
noncomputable def code325 : Code := match Tryz.f325.body with | some c => c | none => .skip
theorem fi325 : C.fids 325 = true := by kernel_rfl
theorem bo325 : Tryz.f325.body = some code325 := rfl
theorem pr325 : C.prim 325 = none := rfl
theorem fu325 : C.funcs 325 = some Tryz.f325 := Tryz.func325
theorem op325 {a : List V} {H : List Ob} {R : V → List Ob → Prop} : Ret C 325 a H R ↔ WP C 325 code325 ⟨initRegs a, 0, H⟩ (finQ C Tryz.f325 H R) := Ret_fn pr325 fi325 fu325 bo325
@[simp] theorem locs325 : C.locs 325 = [] := by kernel_rfl
noncomputable def code329 : Code := match Tryz.f329.body with | some c => c | none => .skip
theorem fi329 : C.fids 329 = true := by kernel_rfl
theorem bo329 : Tryz.f329.body = some code329 := rfl
theorem pr329 : C.prim 329 = none := rfl
theorem fu329 : C.funcs 329 = some Tryz.f329 := Tryz.func329
theorem op329 {a : List V} {H : List Ob} {R : V → List Ob → Prop} : Ret C 329 a H R ↔ WP C 329 code329 ⟨initRegs a, 0, H⟩ (finQ C Tryz.f329 H R) := Ret_fn pr329 fi329 fu329 bo329
@[simp] theorem locs329 : C.locs 329 = [] := by kernel_rfl
@[simp] theorem locs330 : C.locs 330 = [] := by kernel_rfl
@[simp] theorem locs331 : C.locs 331 = [] := by kernel_rfl
@[simp] theorem locs332 : C.locs 332 = [] := by kernel_rfl
noncomputable def code333 : Code := match Tryz.f333.body with | some c => c | none => .skip
theorem fi333 : C.fids 333 = true := by kernel_rfl
theorem bo333 : Tryz.f333.body = some code333 := rfl
theorem pr333 : C.prim 333 = none := rfl
theorem fu333 : C.funcs 333 = some Tryz.f333 := Tryz.func333
theorem op333 {a : List V} {H : List Ob} {R : V → List Ob → Prop} : Ret C 333 a H R ↔ WP C 333 code333 ⟨initRegs a, 0, H⟩ (finQ C Tryz.f333 H R) := Ret_fn pr333 fi333 fu333 bo333
@[simp] theorem locs333 : C.locs 333 = [] := by kernel_rfl
@[simp] theorem locs334 : C.locs 334 = [] := by kernel_rfl
noncomputable def code335 : Code := match Tryz.f335.body with | some c => c | none => .skip
theorem fi335 : C.fids 335 = true := by kernel_rfl
theorem bo335 : Tryz.f335.body = some code335 := rfl
theorem pr335 : C.prim 335 = none := rfl
theorem fu335 : C.funcs 335 = some Tryz.f335 := Tryz.func335
theorem op335 {a : List V} {H : List Ob} {R : V → List Ob → Prop} : Ret C 335 a H R ↔ WP C 335 code335 ⟨initRegs a, 0, H⟩ (finQ C Tryz.f335 H R) := Ret_fn pr335 fi335 fu335 bo335
@[simp] theorem locs335 : C.locs 335 = [4, 7] := by kernel_rfl
noncomputable def code336 : Code := match Tryz.f336.body with | some c => c | none => .skip
theorem fi336 : C.fids 336 = true := by kernel_rfl
theorem bo336 : Tryz.f336.body = some code336 := rfl
theorem pr336 : C.prim 336 = none := rfl
theorem fu336 : C.funcs 336 = some Tryz.f336 := Tryz.func336
theorem op336 {a : List V} {H : List Ob} {R : V → List Ob → Prop} : Ret C 336 a H R ↔ WP C 336 code336 ⟨initRegs a, 0, H⟩ (finQ C Tryz.f336 H R) := Ret_fn pr336 fi336 fu336 bo336
@[simp] theorem locs336 : C.locs 336 = [] := by kernel_rfl
noncomputable def code337 : Code := match Tryz.f337.body with | some c => c | none => .skip
theorem fi337 : C.fids 337 = true := by kernel_rfl
theorem bo337 : Tryz.f337.body = some code337 := rfl
theorem pr337 : C.prim 337 = none := rfl
theorem fu337 : C.funcs 337 = some Tryz.f337 := Tryz.func337
theorem op337 {a : List V} {H : List Ob} {R : V → List Ob → Prop} : Ret C 337 a H R ↔ WP C 337 code337 ⟨initRegs a, 0, H⟩ (finQ C Tryz.f337 H R) := Ret_fn pr337 fi337 fu337 bo337
@[simp] theorem locs337 : C.locs 337 = [] := by kernel_rfl
noncomputable def code338 : Code := match Tryz.f338.body with | some c => c | none => .skip
theorem fi338 : C.fids 338 = true := by kernel_rfl
theorem bo338 : Tryz.f338.body = some code338 := rfl
theorem pr338 : C.prim 338 = none := rfl
theorem fu338 : C.funcs 338 = some Tryz.f338 := Tryz.func338
theorem op338 {a : List V} {H : List Ob} {R : V → List Ob → Prop} : Ret C 338 a H R ↔ WP C 338 code338 ⟨initRegs a, 0, H⟩ (finQ C Tryz.f338 H R) := Ret_fn pr338 fi338 fu338 bo338
@[simp] theorem locs338 : C.locs 338 = [] := by kernel_rfl
@[simp] theorem locs342 : C.locs 342 = [] := by kernel_rfl
noncomputable def code343 : Code := match Tryz.f343.body with | some c => c | none => .skip
theorem fi343 : C.fids 343 = true := by kernel_rfl
theorem bo343 : Tryz.f343.body = some code343 := rfl
theorem pr343 : C.prim 343 = none := rfl
theorem fu343 : C.funcs 343 = some Tryz.f343 := Tryz.func343
theorem op343 {a : List V} {H : List Ob} {R : V → List Ob → Prop} : Ret C 343 a H R ↔ WP C 343 code343 ⟨initRegs a, 0, H⟩ (finQ C Tryz.f343 H R) := Ret_fn pr343 fi343 fu343 bo343
@[simp] theorem locs343 : C.locs 343 = [] := by kernel_rfl
noncomputable def code344 : Code := match Tryz.f344.body with | some c => c | none => .skip
theorem fi344 : C.fids 344 = true := by kernel_rfl
theorem bo344 : Tryz.f344.body = some code344 := rfl
theorem pr344 : C.prim 344 = none := rfl
theorem fu344 : C.funcs 344 = some Tryz.f344 := Tryz.func344
theorem op344 {a : List V} {H : List Ob} {R : V → List Ob → Prop} : Ret C 344 a H R ↔ WP C 344 code344 ⟨initRegs a, 0, H⟩ (finQ C Tryz.f344 H R) := Ret_fn pr344 fi344 fu344 bo344
@[simp] theorem locs344 : C.locs 344 = [] := by kernel_rfl
@[simp] theorem locs346 : C.locs 346 = [1, 2] := by kernel_rfl
@[simp] theorem locs347 : C.locs 347 = [] := by kernel_rfl
noncomputable def code349 : Code := match Tryz.f349.body with | some c => c | none => .skip
theorem fi349 : C.fids 349 = true := by kernel_rfl
theorem bo349 : Tryz.f349.body = some code349 := rfl
theorem pr349 : C.prim 349 = none := rfl
theorem fu349 : C.funcs 349 = some Tryz.f349 := Tryz.func349
theorem op349 {a : List V} {H : List Ob} {R : V → List Ob → Prop} : Ret C 349 a H R ↔ WP C 349 code349 ⟨initRegs a, 0, H⟩ (finQ C Tryz.f349 H R) := Ret_fn pr349 fi349 fu349 bo349
@[simp] theorem locs349 : C.locs 349 = [] := by kernel_rfl
noncomputable def code350 : Code := match Tryz.f350.body with | some c => c | none => .skip
theorem fi350 : C.fids 350 = true := by kernel_rfl
theorem bo350 : Tryz.f350.body = some code350 := rfl
theorem pr350 : C.prim 350 = none := rfl
theorem fu350 : C.funcs 350 = some Tryz.f350 := Tryz.func350
theorem op350 {a : List V} {H : List Ob} {R : V → List Ob → Prop} : Ret C 350 a H R ↔ WP C 350 code350 ⟨initRegs a, 0, H⟩ (finQ C Tryz.f350 H R) := Ret_fn pr350 fi350 fu350 bo350
@[simp] theorem locs350 : C.locs 350 = [] := by kernel_rfl
@[simp] theorem locs351 : C.locs 351 = [] := by kernel_rfl
@[simp] theorem locs352 : C.locs 352 = [9] := by kernel_rfl
@[simp] theorem locs354 : C.locs 354 = [] := by kernel_rfl
noncomputable def code355 : Code := match Tryz.f355.body with | some c => c | none => .skip
theorem fi355 : C.fids 355 = true := by kernel_rfl
theorem bo355 : Tryz.f355.body = some code355 := rfl
theorem pr355 : C.prim 355 = none := rfl
theorem fu355 : C.funcs 355 = some Tryz.f355 := Tryz.func355
theorem op355 {a : List V} {H : List Ob} {R : V → List Ob → Prop} : Ret C 355 a H R ↔ WP C 355 code355 ⟨initRegs a, 0, H⟩ (finQ C Tryz.f355 H R) := Ret_fn pr355 fi355 fu355 bo355
@[simp] theorem locs355 : C.locs 355 = [] := by kernel_rfl
noncomputable def code356 : Code := match Tryz.f356.body with | some c => c | none => .skip
theorem fi356 : C.fids 356 = true := by kernel_rfl
theorem bo356 : Tryz.f356.body = some code356 := rfl
theorem pr356 : C.prim 356 = none := rfl
theorem fu356 : C.funcs 356 = some Tryz.f356 := Tryz.func356
theorem op356 {a : List V} {H : List Ob} {R : V → List Ob → Prop} : Ret C 356 a H R ↔ WP C 356 code356 ⟨initRegs a, 0, H⟩ (finQ C Tryz.f356 H R) := Ret_fn pr356 fi356 fu356 bo356
@[simp] theorem locs356 : C.locs 356 = [2] := by kernel_rfl
noncomputable def code357 : Code := match Tryz.f357.body with | some c => c | none => .skip
theorem fi357 : C.fids 357 = true := by kernel_rfl
theorem bo357 : Tryz.f357.body = some code357 := rfl
theorem pr357 : C.prim 357 = none := rfl
theorem fu357 : C.funcs 357 = some Tryz.f357 := Tryz.func357
theorem op357 {a : List V} {H : List Ob} {R : V → List Ob → Prop} : Ret C 357 a H R ↔ WP C 357 code357 ⟨initRegs a, 0, H⟩ (finQ C Tryz.f357 H R) := Ret_fn pr357 fi357 fu357 bo357
@[simp] theorem locs357 : C.locs 357 = [] := by kernel_rfl
noncomputable def code358 : Code := match Tryz.f358.body with | some c => c | none => .skip
theorem fi358 : C.fids 358 = true := by kernel_rfl
theorem bo358 : Tryz.f358.body = some code358 := rfl
theorem pr358 : C.prim 358 = none := rfl
theorem fu358 : C.funcs 358 = some Tryz.f358 := Tryz.func358
theorem op358 {a : List V} {H : List Ob} {R : V → List Ob → Prop} : Ret C 358 a H R ↔ WP C 358 code358 ⟨initRegs a, 0, H⟩ (finQ C Tryz.f358 H R) := Ret_fn pr358 fi358 fu358 bo358
@[simp] theorem locs358 : C.locs 358 = [2] := by kernel_rfl
noncomputable def code359 : Code := match Tryz.f359.body with | some c => c | none => .skip
theorem fi359 : C.fids 359 = true := by kernel_rfl
theorem bo359 : Tryz.f359.body = some code359 := rfl
theorem pr359 : C.prim 359 = none := rfl
theorem fu359 : C.funcs 359 = some Tryz.f359 := Tryz.func359
theorem op359 {a : List V} {H : List Ob} {R : V → List Ob → Prop} : Ret C 359 a H R ↔ WP C 359 code359 ⟨initRegs a, 0, H⟩ (finQ C Tryz.f359 H R) := Ret_fn pr359 fi359 fu359 bo359
@[simp] theorem locs359 : C.locs 359 = [] := by kernel_rfl
@[simp] theorem locs384 : C.locs 384 = [] := by kernel_rfl
@[simp] theorem locs385 : C.locs 385 = [] := by kernel_rfl
@[simp] theorem ord3_11 : C.ord 3 11 = some ⟨[0, 2, 4, 1, 3, 5, 6, 7], [], [], [(0, 3), (2, 4)], [], []⟩ := by kernel_rfl
@[simp] theorem ord3_18 : C.ord 3 18 = some ⟨[0, 1, 2, 3, 4], [], [], [(0, 9), (1, 3)], [], []⟩ := by kernel_rfl
@[simp] theorem ord3_20 : C.ord 3 20 = some ⟨[0, 1, 2, 3, 4], [], [], [(0, 10), (1, 4)], [], []⟩ := by kernel_rfl
@[simp] theorem ord6_18 : C.ord 6 18 = some ⟨[0, 1, 2, 3, 4], [], [], [(0, 11), (1, 4)], [], []⟩ := by kernel_rfl
@[simp] theorem ord7_14 : C.ord 7 14 = some ⟨[0, 2, 4, 6, 9, 1, 3, 5, 7, 8, 10], [], [], [(0, 4), (4, 6), (10, 10)], [], []⟩ := by kernel_rfl
@[simp] theorem ord7_18 : C.ord 7 18 = some ⟨[0, 1, 2, 4, 6, 3, 5, 7], [], [], [(0, 11), (2, 6), (7, 14)], [], []⟩ := by kernel_rfl
@[simp] theorem ord7_21 : C.ord 7 21 = some ⟨[0, 1, 2, 3, 4], [], [], [(0, 11), (1, 4)], [], []⟩ := by kernel_rfl
@[simp] theorem ord7_41 : C.ord 7 41 = some ⟨[0, 2, 4, 6, 9, 1, 3, 5, 7, 8, 10], [], [], [(0, 4), (4, 6), (10, 18)], [], []⟩ := by kernel_rfl
@[simp] theorem ord8_18 : C.ord 8 18 = some ⟨[0, 1, 2, 3, 4], [], [], [(0, 9), (1, 3)], [], []⟩ := by kernel_rfl
@[simp] theorem ord19_6 : C.ord 19 6 = none := by kernel_rfl
@[simp] theorem ord38_6 : C.ord 38 6 = none := by kernel_rfl
@[simp] theorem ord39_6 : C.ord 39 6 = none := by kernel_rfl
@[simp] theorem ord53_6 : C.ord 53 6 = none := by kernel_rfl
@[simp] theorem ord59_4 : C.ord 59 4 = none := by kernel_rfl
@[simp] theorem ord64_3 : C.ord 64 3 = some ⟨[0, 1, 2, 3, 4, 5, 7, 8, 10, 11, 6, 9, 12, 13, 14, 15, 16, 17, 18], [], [], [(1, 1), (5, 1), (8, 1), (11, 1)], [], []⟩ := by kernel_rfl
@[simp] theorem ord65_6 : C.ord 65 6 = none := by kernel_rfl
@[simp] theorem ord67_1 : C.ord 67 1 = none := by kernel_rfl
@[simp] theorem ord68_6 : C.ord 68 6 = none := by kernel_rfl
@[simp] theorem ord69_6 : C.ord 69 6 = none := by kernel_rfl
@[simp] theorem ord74_7 : C.ord 74 7 = some ⟨[0, 1, 2, 3, 4, 5, 6, 7, 8, 9, 10, 11, 12, 13, 14, 15, 16, 17, 18, 19, 20, 22, 23, 21, 24, 25, 26, 27], [], [], [(0, 4), (5, 1), (6, 4), (15, 1), (23, 4)], [], []⟩ := by kernel_rfl
@[simp] theorem ord74_13 : C.ord 74 13 = some ⟨[0, 1, 2, 3, 4, 5, 6, 7, 8, 9, 10], [], [], [(4, 1)], [], []⟩ := by kernel_rfl
@[simp] theorem ord80_6 : C.ord 80 6 = some ⟨[0, 1, 2, 3, 4, 5, 6, 7, 8, 9, 10, 11, 12, 13, 14, 15, 17, 18, 16, 19, 20, 21, 22], [], [], [(2, 4), (18, 4)], [], []⟩ := by kernel_rfl
@[simp] theorem ord93_1 : C.ord 93 1 = some ⟨[0, 1, 2, 3, 4, 5, 6, 7, 8, 9], [], [], [(4, 4)], [], []⟩ := by kernel_rfl
@[simp] theorem ord93_10 : C.ord 93 10 = some ⟨[0, 1, 2, 3, 4, 5, 6, 7, 8, 9, 10, 11], [], [], [(1, 10), (3, 4), (11, 10)], [], []⟩ := by kernel_rfl
@[simp] theorem ord103_6 : C.ord 103 6 = none := by kernel_rfl
@[simp] theorem ord104_6 : C.ord 104 6 = none := by kernel_rfl
@[simp] theorem ord112_1 : C.ord 112 1 = some ⟨[0, 1, 2, 3, 4], [], [], [(0, 4)], [], []⟩ := by kernel_rfl
@[simp] theorem ord112_6 : C.ord 112 6 = some ⟨[0, 1, 2, 3, 4, 5, 6, 7, 8, 9, 10, 12, 11, 13, 14, 15, 16], [], [], [(4, 4)], [], []⟩ := by kernel_rfl
@[simp] theorem ord112_11 : C.ord 112 11 = some ⟨[0, 1, 2, 3, 4, 5], [], [], [(0, 4), (2, 10)], [], []⟩ := by kernel_rfl
@[simp] theorem ord112_24 : C.ord 112 24 = some ⟨[0, 1, 3, 2, 4, 5, 6], [], [], [(0, 4), (3, 12), (6, 8)], [], []⟩ := by kernel_rfl
@[simp] theorem ord117_14 : C.ord 117 14 = some ⟨[0, 1, 2, 3, 4, 5, 6], [], [], [(1, 6), (3, 6)], [], []⟩ := by kernel_rfl
@[simp] theorem ord117_22 : C.ord 117 22 = some ⟨[0, 1, 2, 3, 4, 5, 6, 7, 8, 9, 10, 11], [7], [4], [], [], []⟩ := by kernel_rfl
@[simp] theorem ord120_1 : C.ord 120 1 = some ⟨[0, 1, 2, 3, 4], [], [], [(0, 3)], [], []⟩ := by kernel_rfl
@[simp] theorem ord120_10 : C.ord 120 10 = some ⟨[0, 1, 2, 3, 4, 6, 5, 7], [], [4], [(0, 8), (7, 10)], [], []⟩ := by kernel_rfl
@[simp] theorem ord120_18 : C.ord 120 18 = some ⟨[0, 1, 2, 3, 4, 5, 6], [], [], [(1, 12), (3, 8)], [], []⟩ := by kernel_rfl
@[simp] theorem ord126_16 : C.ord 126 16 = none := by kernel_rfl
@[simp] theorem ord133_9 : C.ord 133 9 = none := by kernel_rfl
@[simp] theorem ord133_11 : C.ord 133 11 = none := by kernel_rfl
@[simp] theorem ord135_4 : C.ord 135 4 = none := by kernel_rfl
@[simp] theorem ord148_1 : C.ord 148 1 = some ⟨[0, 1, 2, 3, 4, 5, 6, 7], [], [2], [(6, 8)], [], []⟩ := by kernel_rfl
@[simp] theorem ord159_4 : C.ord 159 4 = none := by kernel_rfl
@[simp] theorem ord160_2 : C.ord 160 2 = none := by kernel_rfl
@[simp] theorem ord160_7 : C.ord 160 7 = none := by kernel_rfl
@[simp] theorem ord161_5 : C.ord 161 5 = some ⟨[0, 1, 2, 3, 4, 5, 6, 7, 8, 9, 10, 11, 12, 13, 14, 15, 16], [14], [6], [], [], []⟩ := by kernel_rfl
@[simp] theorem ord168_6 : C.ord 168 6 = none := by kernel_rfl
@[simp] theorem ord180_4 : C.ord 180 4 = none := by kernel_rfl
@[simp] theorem ord188_5 : C.ord 188 5 = some ⟨[0, 1, 2, 3, 4, 5, 6, 7, 9, 10, 11, 12, 13, 14, 8, 15, 16, 17, 18, 19, 20], [8, 15], [7, 14], [(1, 3), (3, 1), (10, 1), (20, 3)], [], []⟩ := by kernel_rfl
@[simp] theorem ord192_1 : C.ord 192 1 = some ⟨[0, 1, 2, 3, 4, 5, 6, 7, 8, 9, 10], [5], [3], [], [], []⟩ := by kernel_rfl
@[simp] theorem ord193_5 : C.ord 193 5 = some ⟨[0, 1, 2, 4, 5, 3, 6, 7], [], [], [(2, 5), (5, 5)], [], []⟩ := by kernel_rfl
@[simp] theorem ord195_5 : C.ord 195 5 = some ⟨[0, 1, 2, 3, 4, 5, 6, 7, 8, 9, 10, 11], [], [], [(1, 3), (3, 5), (5, 5), (11, 3)], [], []⟩ := by kernel_rfl
@[simp] theorem ord198_4 : C.ord 198 4 = some ⟨[0, 1, 2, 3, 4, 5, 6, 7], [6], [4], [], [], []⟩ := by kernel_rfl
@[simp] theorem ord199_4 : C.ord 199 4 = some ⟨[0, 1, 2, 3, 4, 5, 6, 7], [6], [4], [], [], []⟩ := by kernel_rfl
@[simp] theorem ord199_7 : C.ord 199 7 = some ⟨[0, 1, 2, 3, 4, 5, 6, 7], [6], [4], [], [], []⟩ := by kernel_rfl
@[simp] theorem ord200_4 : C.ord 200 4 = some ⟨[0, 1, 2, 3, 4, 5, 6, 7], [6], [4], [], [], []⟩ := by kernel_rfl
@[simp] theorem ord204_6 : C.ord 204 6 = some ⟨[0, 1, 2, 3, 5, 6, 4, 7, 8, 9, 10], [], [], [(0, 3), (10, 6)], [(2, 0), (6, 1)], [(4, [1])]⟩ := by kernel_rfl
@[simp] theorem ord205_3 : C.ord 205 3 = some ⟨[0, 1, 2, 3, 4, 5, 6, 7, 8, 9, 10, 11, 13, 14, 12, 15, 16, 17], [], [], [(2, 5), (7, 5), (14, 3)], [], []⟩ := by kernel_rfl
@[simp] theorem ord206_2 : C.ord 206 2 = some ⟨[1, 2, 3, 4, 6, 7, 8, 9, 10, 0, 5, 11, 12, 13], [0, 5], [4, 10], [(2, 5), (7, 5), (13, 5)], [], []⟩ := by kernel_rfl
@[simp] theorem ord208_1 : C.ord 208 1 = some ⟨[0, 1, 3, 4, 2, 5, 6, 7], [], [], [(1, 1), (4, 1), (7, 2)], [], []⟩ := by kernel_rfl
@[simp] theorem ord213_10 : C.ord 213 10 = some ⟨[0, 1, 2, 3, 4, 5, 6, 7, 8, 9, 10, 11, 12, 13, 14, 15, 16, 17], [15], [4, 7], [], [], []⟩ := by kernel_rfl
@[simp] theorem ord214_5 : C.ord 214 5 = none := by kernel_rfl
@[simp] theorem ord217_8 : C.ord 217 8 = none := by kernel_rfl
@[simp] theorem ord217_9 : C.ord 217 9 = none := by kernel_rfl
@[simp] theorem ord218_5 : C.ord 218 5 = some ⟨[0, 1, 2, 3, 4, 5, 6, 7, 8, 9, 10, 11], [], [], [(1, 3), (3, 1), (11, 3)], [], []⟩ := by kernel_rfl
@[simp] theorem ord227_4 : C.ord 227 4 = some ⟨[0, 1, 2, 3, 4, 5, 6, 7, 8, 9, 10, 11, 12, 13, 14, 16, 17, 18, 19, 15, 20, 21, 22, 23], [15], [19], [], [], []⟩ := by kernel_rfl
@[simp] theorem ord239_3 : C.ord 239 3 = some ⟨[0, 1, 3, 4, 5, 7, 2, 6, 8, 9], [2, 7], [1, 5], [], [(7, 0)], [(1, [0]), (2, [0]), (5, [0]), (6, [0])]⟩ := by kernel_rfl
@[simp] theorem ord247_6 : C.ord 247 6 = none := by kernel_rfl
@[simp] theorem ord247_11 : C.ord 247 11 = none := by kernel_rfl
@[simp] theorem ord256_8 : C.ord 256 8 = some ⟨[0, 1, 2, 3, 4, 8, 9, 5, 6, 7, 10, 11, 12, 13, 14, 15, 16, 17, 18, 19, 20, 21, 22, 23, 24], [5, 6], [8], [(1, 1), (19, 1)], [], []⟩ := by kernel_rfl
@[simp] theorem ord278_4 : C.ord 278 4 = some ⟨[0, 1, 2, 3, 4, 5, 6], [5], [3], [], [], []⟩ := by kernel_rfl
@[simp] theorem ord288_1 : C.ord 288 1 = some ⟨[0, 2, 1, 3, 4], [1], [2], [], [], []⟩ := by kernel_rfl
@[simp] theorem ord297_4 : C.ord 297 4 = some ⟨[0, 1, 2, 3, 4, 5, 6, 7, 8, 9, 10, 11, 12, 13, 14, 15, 16, 17], [14], [9], [], [], []⟩ := by kernel_rfl
@[simp] theorem ord299_5 : C.ord 299 5 = some ⟨[0, 1, 3, 4, 5, 7, 8, 9, 10, 2, 6, 11, 12, 13, 14], [2, 6], [5, 10], [(0, 3), (14, 6)], [], []⟩ := by kernel_rfl
@[simp] theorem ord312_6 : C.ord 312 6 = none := by kernel_rfl
@[simp] theorem ord312_11 : C.ord 312 11 = none := by kernel_rfl
@[simp] theorem ord334_6 : C.ord 334 6 = some ⟨[0, 1, 2, 3, 4, 5, 6, 7, 8, 10, 11, 12, 13, 9, 14, 15, 16], [9], [13], [], [], []⟩ := by kernel_rfl
@[simp] theorem ord335_5 : C.ord 335 5 = some ⟨[0, 1, 2, 3, 5, 6, 8, 9, 4, 7, 10, 11, 12, 13], [], [], [(1, 7), (3, 7), (6, 7), (9, 7), (12, 4)], [], []⟩ := by kernel_rfl
@[simp] theorem ord342_5 : C.ord 342 5 = none := by kernel_rfl
@[simp] theorem ord347_1 : C.ord 347 1 = some ⟨[0, 2, 1, 3, 4, 5], [1], [2], [], [], []⟩ := by kernel_rfl
end Go.Proofs.Try1
end
