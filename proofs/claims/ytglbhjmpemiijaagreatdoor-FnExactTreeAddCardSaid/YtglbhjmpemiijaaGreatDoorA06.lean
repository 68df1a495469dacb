/- Part 06 of the proof of a law: the interpreter, its soundness, and what functions of the program compute over it. Conditions: none but those that each theorem names. -/
import Derived.Test.YtglbhjmpemiijaaGreatDoorA05
import Derived.KernelRfl

section
namespace Go.Proofs.Try1
open Go Go.Lite
noncomputable def C : Ctx := ctxOf Tryz.prog tabs
@[simp] theorem ty2 : C.ty 2 = ⟨.int .i64, 1, 8, [.int .i64 0]⟩ := by kernel_rfl
@[simp] theorem ty3 : C.ty 3 = ⟨.int .i64, 1, 8, [.int .i64 0]⟩ := by kernel_rfl
@[simp] theorem ty4 : C.ty 4 = ⟨.bool, 1, 1, [.bool false]⟩ := by kernel_rfl
@[simp] theorem ty5 : C.ty 5 = ⟨.int .u8, 1, 1, [.int .u8 0]⟩ := by kernel_rfl
@[simp] theorem ty9 : C.ty 9 = ⟨.str, 1, 16, [.str []]⟩ := by kernel_rfl
@[simp] theorem ty21 : C.ty 21 = ⟨.int .i32, 1, 4, [.int .i32 0]⟩ := by kernel_rfl
@[simp] theorem ty22 : C.ty 22 = ⟨.slice 188, 1, 24, [.slc none 0]⟩ := by kernel_rfl
@[simp] theorem ty23 : C.ty 23 = ⟨.slice 232, 1, 24, [.slc none 0]⟩ := by kernel_rfl
@[simp] theorem ty25 : C.ty 25 = ⟨.struct [(0, 22), (1, 23)], 2, 48, [.slc none 0, .slc none 0]⟩ := by kernel_rfl
@[simp] theorem ty26 : C.ty 26 = ⟨.slice 9, 1, 24, [.slc none 0]⟩ := by kernel_rfl
@[simp] theorem ty29 : C.ty 29 = ⟨.slice 190, 1, 24, [.slc none 0]⟩ := by kernel_rfl
@[simp] theorem ty30 : C.ty 30 = ⟨.slice 73, 1, 24, [.slc none 0]⟩ := by kernel_rfl
@[simp] theorem ty32 : C.ty 32 = ⟨.struct [(0, 29), (1, 30)], 2, 48, [.slc none 0, .slc none 0]⟩ := by kernel_rfl
@[simp] theorem ty34 : C.ty 34 = ⟨.struct [(0, 32), (2, 2)], 3, 56, [.slc none 0, .slc none 0, .int .i64 0]⟩ := by kernel_rfl
@[simp] theorem ty46 : C.ty 46 = ⟨.slice 243, 1, 24, [.slc none 0]⟩ := by kernel_rfl
@[simp] theorem ty47 : C.ty 47 = ⟨.slice 25, 1, 24, [.slc none 0]⟩ := by kernel_rfl
@[simp] theorem ty49 : C.ty 49 = ⟨.struct [(0, 46), (1, 47)], 2, 48, [.slc none 0, .slc none 0]⟩ := by kernel_rfl
@[simp] theorem ty52 : C.ty 52 = ⟨.slice 68, 1, 24, [.slc none 0]⟩ := by kernel_rfl
@[simp] theorem ty53 : C.ty 53 = ⟨.slice 32, 1, 24, [.slc none 0]⟩ := by kernel_rfl
@[simp] theorem ty55 : C.ty 55 = ⟨.struct [(0, 52), (1, 53)], 2, 48, [.slc none 0, .slc none 0]⟩ := by kernel_rfl
@[simp] theorem ty59 : C.ty 59 = ⟨.slice 5, 1, 24, [.slc none 0]⟩ := by kernel_rfl
@[simp] theorem ty68 : C.ty 68 = ⟨.struct [(0, 9), (1, 26), (2, 26), (3, 26)], 4, 88, [.str [], .slc none 0, .slc none 0, .slc none 0]⟩ := by kernel_rfl
@[simp] theorem ty73 : C.ty 73 = ⟨.struct [(0, 9), (1, 26)], 2, 40, [.str [], .slc none 0]⟩ := by kernel_rfl
@[simp] theorem ty103 : C.ty 103 = ⟨.struct [(0, 55), (2, 53), (3, 2)], 4, 80, [.slc none 0, .slc none 0, .slc none 0, .int .i64 0]⟩ := by kernel_rfl
@[simp] theorem ty140 : C.ty 140 = ⟨.func, 1, 8, [.nilfn]⟩ := by kernel_rfl
@[simp] theorem ty141 : C.ty 141 = ⟨.func, 1, 8, [.nilfn]⟩ := by kernel_rfl
@[simp] theorem ty148 : C.ty 148 = ⟨.ptr, 1, 8, [.ptr none]⟩ := by kernel_rfl
@[simp] theorem ty150 : C.ty 150 = ⟨.func, 1, 8, [.nilfn]⟩ := by kernel_rfl
@[simp] theorem ty179 : C.ty 179 = ⟨.func, 1, 8, [.nilfn]⟩ := by kernel_rfl
@[simp] theorem ty183 : C.ty 183 = ⟨.func, 1, 8, [.nilfn]⟩ := by kernel_rfl
@[simp] theorem ty188 : C.ty 188 = ⟨.struct [(0, 9), (1, 9)], 2, 32, [.str [], .str []]⟩ := by kernel_rfl
@[simp] theorem ty190 : C.ty 190 = ⟨.struct [(0, 9), (1, 9)], 2, 32, [.str [], .str []]⟩ := by kernel_rfl
@[simp] theorem ty193 : C.ty 193 = ⟨.func, 1, 8, [.nilfn]⟩ := by kernel_rfl
@[simp] theorem ty207 : C.ty 207 = ⟨.ptr, 1, 8, [.ptr none]⟩ := by kernel_rfl
@[simp] theorem ty209 : C.ty 209 = ⟨.func, 1, 8, [.nilfn]⟩ := by kernel_rfl
@[simp] theorem ty232 : C.ty 232 = ⟨.struct [(0, 9), (1, 26)], 2, 40, [.str [], .slc none 0]⟩ := by kernel_rfl
@[simp] theorem ty237 : C.ty 237 = ⟨.func, 1, 8, [.nilfn]⟩ := by kernel_rfl
@[simp] theorem ty243 : C.ty 243 = ⟨.struct [(0, 9), (1, 26), (2, 26), (3, 26)], 4, 88, [.str [], .slc none 0, .slc none 0, .slc none 0]⟩ := by kernel_rfl
@[simp] theorem ty260 : C.ty 260 = ⟨.slice 26, 1, 24, [.slc none 0]⟩ := by kernel_rfl
@[simp] theorem ty262 : C.ty 262 = ⟨.slice 29, 1, 24, [.slc none 0]⟩ := by kernel_rfl
@[simp] theorem ty321 : C.ty 321 = ⟨.int .u64, 1, 8, [.int .u64 0]⟩ := by kernel_rfl
@[simp] theorem ty324 : C.ty 324 = ⟨.func, 1, 8, [.nilfn]⟩ := by kernel_rfl
@[simp] theorem ty327 : C.ty 327 = ⟨.array 256 4, 256, 256, List.replicate 256 (.bool false)⟩ := by kernel_rfl
@[simp] theorem ty331 : C.ty 331 = ⟨.ptr, 1, 8, [.ptr none]⟩ := by kernel_rfl
@[simp] theorem ty333 : C.ty 333 = ⟨.func, 1, 8, [.nilfn]⟩ := by kernel_rfl
@[simp] theorem ty412 : C.ty 412 = ⟨.array 256 5, 256, 256, List.replicate 256 (.int .u8 0)⟩ := by kernel_rfl
@[simp] theorem ty414 : C.ty 414 = ⟨.struct [(0, 5), (1, 5)], 2, 2, [.int .u8 0, .int .u8 0]⟩ := by kernel_rfl
@[simp] theorem ty415 : C.ty 415 = ⟨.array 16 414, 32, 32, List.replicate 32 (.int .u8 0)⟩ := by kernel_rfl
@[simp] theorem locs3 : C.locs 3 = [3, 8, 9, 11, 15] := by kernel_rfl
@[simp] theorem locs5 : C.locs 5 = [1, 5] := by kernel_rfl
@[simp] theorem locs7 : C.locs 7 = [2, 6, 7, 9, 13] := by kernel_rfl
@[simp] theorem locs10 : C.locs 10 = [2, 6, 7, 9, 13] := by kernel_rfl
noncomputable def code11 : Code := match Tryz.f11.body with | some c => c | none => .skip
theorem fi11 : C.fids 11 = true := by kernel_rfl
theorem bo11 : Tryz.f11.body = some code11 := rfl
theorem pr11 : C.prim 11 = none := rfl
theorem fu11 : C.funcs 11 = some Tryz.f11 := Tryz.func11
theorem op11 {a : List V} {H : List Ob} {R : V → List Ob → Prop} : Ret C 11 a H R ↔ WP C 11 code11 ⟨initRegs a, 0, H⟩ (finQ C Tryz.f11 H R) := Ret_fn pr11 fi11 fu11 bo11
@[simp] theorem locs11 : C.locs 11 = [2, 3, 6, 7, 8, 9, 13] := by kernel_rfl
noncomputable def code15 : Code := match Tryz.f15.body with | some c => c | none => .skip
theorem fi15 : C.fids 15 = true := by kernel_rfl
theorem bo15 : Tryz.f15.body = some code15 := rfl
theorem pr15 : C.prim 15 = none := rfl
theorem fu15 : C.funcs 15 = some Tryz.f15 := Tryz.func15
theorem op15 {a : List V} {H : List Ob} {R : V → List Ob → Prop} : Ret C 15 a H R ↔ WP C 15 code15 ⟨initRegs a, 0, H⟩ (finQ C Tryz.f15 H R) := Ret_fn pr15 fi15 fu15 bo15
@[simp] theorem locs15 : C.locs 15 = [2] := by kernel_rfl
noncomputable def code16 : Code := match Tryz.f16.body with | some c => c | none => .skip
theorem fi16 : C.fids 16 = true := by kernel_rfl
theorem bo16 : Tryz.f16.body = some code16 := rfl
theorem pr16 : C.prim 16 = none := rfl
theorem fu16 : C.funcs 16 = some Tryz.f16 := Tryz.func16
theorem op16 {a : List V} {H : List Ob} {R : V → List Ob → Prop} : Ret C 16 a H R ↔ WP C 16 code16 ⟨initRegs a, 0, H⟩ (finQ C Tryz.f16 H R) := Ret_fn pr16 fi16 fu16 bo16
@[simp] theorem locs16 : C.locs 16 = [] := by kernel_rfl
@[simp] theorem locs17 : C.locs 17 = [3, 6] := by kernel_rfl
noncomputable def code18 : Code := match Tryz.f18.body with | some c => c | none => .skip
theorem fi18 : C.fids 18 = true := by kernel_rfl
theorem bo18 : Tryz.f18.body = some code18 := rfl
theorem pr18 : C.prim 18 = none := rfl
theorem fu18 : C.funcs 18 = some Tryz.f18 := Tryz.func18
theorem op18 {a : List V} {H : List Ob} {R : V → List Ob → Prop} : Ret C 18 a H R ↔ WP C 18 code18 ⟨initRegs a, 0, H⟩ (finQ C Tryz.f18 H R) := Ret_fn pr18 fi18 fu18 bo18
@[simp] theorem locs18 : C.locs 18 = [1, 2, 3] := by kernel_rfl
noncomputable def code19 : Code := match Tryz.f19.body with | some c => c | none => .skip
theorem fi19 : C.fids 19 = true := by kernel_rfl
theorem bo19 : Tryz.f19.body = some code19 := rfl
theorem pr19 : C.prim 19 = none := rfl
theorem fu19 : C.funcs 19 = some Tryz.f19 := Tryz.func19
theorem op19 {a : List V} {H : List Ob} {R : V → List Ob → Prop} : Ret C 19 a H R ↔ WP C 19 code19 ⟨initRegs a, 0, H⟩ (finQ C Tryz.f19 H R) := Ret_fn pr19 fi19 fu19 bo19
@[simp] theorem locs19 : C.locs 19 = [] := by kernel_rfl
@[simp] theorem locs20 : C.locs 20 = [3, 6] := by kernel_rfl
@[simp] theorem locs21 : C.locs 21 = [2, 3] := by kernel_rfl
noncomputable def code22 : Code := match Tryz.f22.body with | some c => c | none => .skip
theorem fi22 : C.fids 22 = true := by kernel_rfl
theorem bo22 : Tryz.f22.body = some code22 := rfl
theorem pr22 : C.prim 22 = none := rfl
theorem fu22 : C.funcs 22 = some Tryz.f22 := Tryz.func22
theorem op22 {a : List V} {H : List Ob} {R : V → List Ob → Prop} : Ret C 22 a H R ↔ WP C 22 code22 ⟨initRegs a, 0, H⟩ (finQ C Tryz.f22 H R) := Ret_fn pr22 fi22 fu22 bo22
@[simp] theorem locs22 : C.locs 22 = [2, 3] := by kernel_rfl
noncomputable def code23 : Code := match Tryz.f23.body with | some c => c | none => .skip
theorem fi23 : C.fids 23 = true := by kernel_rfl
theorem bo23 : Tryz.f23.body = some code23 := rfl
theorem pr23 : C.prim 23 = none := rfl
theorem fu23 : C.funcs 23 = some Tryz.f23 := Tryz.func23
theorem op23 {a : List V} {H : List Ob} {R : V → List Ob → Prop} : Ret C 23 a H R ↔ WP C 23 code23 ⟨initRegs a, 0, H⟩ (finQ C Tryz.f23 H R) := Ret_fn pr23 fi23 fu23 bo23
@[simp] theorem locs23 : C.locs 23 = [] := by kernel_rfl
noncomputable def code24 : Code := match Tryz.f24.body with | some c => c | none => .skip
theorem fi24 : C.fids 24 = true := by kernel_rfl
theorem bo24 : Tryz.f24.body = some code24 := rfl
theorem pr24 : C.prim 24 = none := rfl
theorem fu24 : C.funcs 24 = some Tryz.f24 := Tryz.func24
theorem op24 {a : List V} {H : List Ob} {R : V → List Ob → Prop} : Ret C 24 a H R ↔ WP C 24 code24 ⟨initRegs a, 0, H⟩ (finQ C Tryz.f24 H R) := Ret_fn pr24 fi24 fu24 bo24
@[simp] theorem locs24 : C.locs 24 = [2] := by kernel_rfl
noncomputable def code25 : Code := match Tryz.f25.body with | some c => c | none => .skip
theorem fi25 : C.fids 25 = true := by kernel_rfl
theorem bo25 : Tryz.f25.body = some code25 := rfl
theorem pr25 : C.prim 25 = none := rfl
theorem fu25 : C.funcs 25 = some Tryz.f25 := Tryz.func25
theorem op25 {a : List V} {H : List Ob} {R : V → List Ob → Prop} : Ret C 25 a H R ↔ WP C 25 code25 ⟨initRegs a, 0, H⟩ (finQ C Tryz.f25 H R) := Ret_fn pr25 fi25 fu25 bo25
@[simp] theorem locs25 : C.locs 25 = [] := by kernel_rfl
@[simp] theorem locs26 : C.locs 26 = [2] := by kernel_rfl
@[simp] theorem locs27 : C.locs 27 = [2] := by kernel_rfl
noncomputable def code30 : Code := match Tryz.f30.body with | some c => c | none => .skip
theorem fi30 : C.fids 30 = true := by kernel_rfl
theorem bo30 : Tryz.f30.body = some code30 := rfl
theorem pr30 : C.prim 30 = none := rfl
theorem fu30 : C.funcs 30 = some Tryz.f30 := Tryz.func30
theorem op30 {a : List V} {H : List Ob} {R : V → List Ob → Prop} : Ret C 30 a H R ↔ WP C 30 code30 ⟨initRegs a, 0, H⟩ (finQ C Tryz.f30 H R) := Ret_fn pr30 fi30 fu30 bo30
@[simp] theorem locs30 : C.locs 30 = [2] := by kernel_rfl
noncomputable def code31 : Code := match Tryz.f31.body with | some c => c | none => .skip
theorem fi31 : C.fids 31 = true := by kernel_rfl
theorem bo31 : Tryz.f31.body = some code31 := rfl
theorem pr31 : C.prim 31 = none := rfl
theorem fu31 : C.funcs 31 = some Tryz.f31 := Tryz.func31
theorem op31 {a : List V} {H : List Ob} {R : V → List Ob → Prop} : Ret C 31 a H R ↔ WP C 31 code31 ⟨initRegs a, 0, H⟩ (finQ C Tryz.f31 H R) := Ret_fn pr31 fi31 fu31 bo31
@[simp] theorem locs31 : C.locs 31 = [1, 4] := by kernel_rfl
noncomputable def code32 : Code := match Tryz.f32.body with | some c => c | none => .skip
theorem fi32 : C.fids 32 = true := by kernel_rfl
theorem bo32 : Tryz.f32.body = some code32 := rfl
theorem pr32 : C.prim 32 = none := rfl
theorem fu32 : C.funcs 32 = some Tryz.f32 := Tryz.func32
theorem op32 {a : List V} {H : List Ob} {R : V → List Ob → Prop} : Ret C 32 a H R ↔ WP C 32 code32 ⟨initRegs a, 0, H⟩ (finQ C Tryz.f32 H R) := Ret_fn pr32 fi32 fu32 bo32
@[simp] theorem locs32 : C.locs 32 = [1, 2, 3] := by kernel_rfl
noncomputable def code33 : Code := match Tryz.f33.body with | some c => c | none => .skip
theorem fi33 : C.fids 33 = true := by kernel_rfl
theorem bo33 : Tryz.f33.body = some code33 := rfl
theorem pr33 : C.prim 33 = none := rfl
theorem fu33 : C.funcs 33 = some Tryz.f33 := Tryz.func33
theorem op33 {a : List V} {H : List Ob} {R : V → List Ob → Prop} : Ret C 33 a H R ↔ WP C 33 code33 ⟨initRegs a, 0, H⟩ (finQ C Tryz.f33 H R) := Ret_fn pr33 fi33 fu33 bo33
@[simp] theorem locs33 : C.locs 33 = [4] := by kernel_rfl
noncomputable def code34 : Code := match Tryz.f34.body with | some c => c | none => .skip
theorem fi34 : C.fids 34 = true := by kernel_rfl
theorem bo34 : Tryz.f34.body = some code34 := rfl
theorem pr34 : C.prim 34 = none := rfl
theorem fu34 : C.funcs 34 = some Tryz.f34 := Tryz.func34
theorem op34 {a : List V} {H : List Ob} {R : V → List Ob → Prop} : Ret C 34 a H R ↔ WP C 34 code34 ⟨initRegs a, 0, H⟩ (finQ C Tryz.f34 H R) := Ret_fn pr34 fi34 fu34 bo34
@[simp] theorem locs34 : C.locs 34 = [2, 3] := by kernel_rfl
noncomputable def code36 : Code := match Tryz.f36.body with | some c => c | none => .skip
theorem fi36 : C.fids 36 = true := by kernel_rfl
theorem bo36 : Tryz.f36.body = some code36 := rfl
theorem pr36 : C.prim 36 = none := rfl
theorem fu36 : C.funcs 36 = some Tryz.f36 := Tryz.func36
theorem op36 {a : List V} {H : List Ob} {R : V → List Ob → Prop} : Ret C 36 a H R ↔ WP C 36 code36 ⟨initRegs a, 0, H⟩ (finQ C Tryz.f36 H R) := Ret_fn pr36 fi36 fu36 bo36
@[simp] theorem locs36 : C.locs 36 = [] := by kernel_rfl
noncomputable def code47 : Code := match Tryz.f47.body with | some c => c | none => .skip
theorem fi47 : C.fids 47 = true := by kernel_rfl
theorem bo47 : Tryz.f47.body = some code47 := rfl
theorem pr47 : C.prim 47 = none := rfl
theorem fu47 : C.funcs 47 = some Tryz.f47 := Tryz.func47
theorem op47 {a : List V} {H : List Ob} {R : V → List Ob → Prop} : Ret C 47 a H R ↔ WP C 47 code47 ⟨initRegs a, 0, H⟩ (finQ C Tryz.f47 H R) := Ret_fn pr47 fi47 fu47 bo47
@[simp] theorem locs47 : C.locs 47 = [4] := by kernel_rfl
noncomputable def code48 : Code := match Tryz.f48.body with | some c => c | none => .skip
theorem fi48 : C.fids 48 = true := by kernel_rfl
theorem bo48 : Tryz.f48.body = some code48 := rfl
theorem pr48 : C.prim 48 = none := rfl
theorem fu48 : C.funcs 48 = some Tryz.f48 := Tryz.func48
theorem op48 {a : List V} {H : List Ob} {R : V → List Ob → Prop} : Ret C 48 a H R ↔ WP C 48 code48 ⟨initRegs a, 0, H⟩ (finQ C Tryz.f48 H R) := Ret_fn pr48 fi48 fu48 bo48
@[simp] theorem locs48 : C.locs 48 = [] := by kernel_rfl
noncomputable def code50 : Code := match Tryz.f50.body with | some c => c | none => .skip
theorem fi50 : C.fids 50 = true := by kernel_rfl
theorem bo50 : Tryz.f50.body = some code50 := rfl
theorem pr50 : C.prim 50 = none := rfl
theorem fu50 : C.funcs 50 = some Tryz.f50 := Tryz.func50
theorem op50 {a : List V} {H : List Ob} {R : V → List Ob → Prop} : Ret C 50 a H R ↔ WP C 50 code50 ⟨initRegs a, 0, H⟩ (finQ C Tryz.f50 H R) := Ret_fn pr50 fi50 fu50 bo50
@[simp] theorem locs50 : C.locs 50 = [] := by kernel_rfl
noncomputable def code52 : Code := match Tryz.f52.body with | some c => c | none => .skip
theorem fi52 : C.fids 52 = true := by kernel_rfl
theorem bo52 : Tryz.f52.body = some code52 := rfl
theorem pr52 : C.prim 52 = none := rfl
theorem fu52 : C.funcs 52 = some Tryz.f52 := Tryz.func52
theorem op52 {a : List V} {H : List Ob} {R : V → List Ob → Prop} : Ret C 52 a H R ↔ WP C 52 code52 ⟨initRegs a, 0, H⟩ (finQ C Tryz.f52 H R) := Ret_fn pr52 fi52 fu52 bo52
@[simp] theorem locs52 : C.locs 52 = [] := by kernel_rfl
@[simp] theorem locs53 : C.locs 53 = [2, 4] := by kernel_rfl
noncomputable def code54 : Code := match Tryz.f54.body with | some c => c | none => .skip
theorem fi54 : C.fids 54 = true := by kernel_rfl
theorem bo54 : Tryz.f54.body = some code54 := rfl
theorem pr54 : C.prim 54 = none := rfl
theorem fu54 : C.funcs 54 = some Tryz.f54 := Tryz.func54
theorem op54 {a : List V} {H : List Ob} {R : V → List Ob → Prop} : Ret C 54 a H R ↔ WP C 54 code54 ⟨initRegs a, 0, H⟩ (finQ C Tryz.f54 H R) := Ret_fn pr54 fi54 fu54 bo54
@[simp] theorem locs54 : C.locs 54 = [] := by kernel_rfl
@[simp] theorem locs55 : C.locs 55 = [4] := by kernel_rfl
noncomputable def code56 : Code := match Tryz.f56.body with | some c => c | none => .skip
theorem fi56 : C.fids 56 = true := by kernel_rfl
theorem bo56 : Tryz.f56.body = some code56 := rfl
theorem pr56 : C.prim 56 = none := rfl
theorem fu56 : C.funcs 56 = some Tryz.f56 := Tryz.func56
theorem op56 {a : List V} {H : List Ob} {R : V → List Ob → Prop} : Ret C 56 a H R ↔ WP C 56 code56 ⟨initRegs a, 0, H⟩ (finQ C Tryz.f56 H R) := Ret_fn pr56 fi56 fu56 bo56
@[simp] theorem locs56 : C.locs 56 = [] := by kernel_rfl
noncomputable def code57 : Code := match Tryz.f57.body with | some c => c | none => .skip
theorem fi57 : C.fids 57 = true := by kernel_rfl
theorem bo57 : Tryz.f57.body = some code57 := rfl
theorem pr57 : C.prim 57 = none := rfl
theorem fu57 : C.funcs 57 = some Tryz.f57 := Tryz.func57
theorem op57 {a : List V} {H : List Ob} {R : V → List Ob → Prop} : Ret C 57 a H R ↔ WP C 57 code57 ⟨initRegs a, 0, H⟩ (finQ C Tryz.f57 H R) := Ret_fn pr57 fi57 fu57 bo57
@[simp] theorem locs57 : C.locs 57 = [2] := by kernel_rfl
noncomputable def code58 : Code := match Tryz.f58.body with | some c => c | none => .skip
theorem fi58 : C.fids 58 = true := by kernel_rfl
theorem bo58 : Tryz.f58.body = some code58 := rfl
theorem pr58 : C.prim 58 = none := rfl
theorem fu58 : C.funcs 58 = some Tryz.f58 := Tryz.func58
theorem op58 {a : List V} {H : List Ob} {R : V → List Ob → Prop} : Ret C 58 a H R ↔ WP C 58 code58 ⟨initRegs a, 0, H⟩ (finQ C Tryz.f58 H R) := Ret_fn pr58 fi58 fu58 bo58
@[simp] theorem locs58 : C.locs 58 = [] := by kernel_rfl
@[simp] theorem locs67 : C.locs 67 = [2, 4] := by kernel_rfl
@[simp] theorem locs68 : C.locs 68 = [4] := by kernel_rfl
noncomputable def code69 : Code := match Tryz.f69.body with | some c => c | none => .skip
theorem fi69 : C.fids 69 = true := by kernel_rfl
theorem bo69 : Tryz.f69.body = some code69 := rfl
theorem pr69 : C.prim 69 = none := rfl
theorem fu69 : C.funcs 69 = some Tryz.f69 := Tryz.func69
theorem op69 {a : List V} {H : List Ob} {R : V → List Ob → Prop} : Ret C 69 a H R ↔ WP C 69 code69 ⟨initRegs a, 0, H⟩ (finQ C Tryz.f69 H R) := Ret_fn pr69 fi69 fu69 bo69
@[simp] theorem locs69 : C.locs 69 = [2, 3] := by kernel_rfl
noncomputable def code70 : Code := match Tryz.f70.body with | some c => c | none => .skip
theorem fi70 : C.fids 70 = true := by kernel_rfl
theorem bo70 : Tryz.f70.body = some code70 := rfl
theorem pr70 : C.prim 70 = none := rfl
theorem fu70 : C.funcs 70 = some Tryz.f70 := Tryz.func70
theorem op70 {a : List V} {H : List Ob} {R : V → List Ob → Prop} : Ret C 70 a H R ↔ WP C 70 code70 ⟨initRegs a, 0, H⟩ (finQ C Tryz.f70 H R) := Ret_fn pr70 fi70 fu70 bo70
@[simp] theorem locs70 : C.locs 70 = [2] := by kernel_rfl
noncomputable def code71 : Code := match Tryz.f71.body with | some c => c | none => .skip
theorem fi71 : C.fids 71 = true := by kernel_rfl
theorem bo71 : Tryz.f71.body = some code71 := rfl
theorem pr71 : C.prim 71 = none := rfl
theorem fu71 : C.funcs 71 = some Tryz.f71 := Tryz.func71
theorem op71 {a : List V} {H : List Ob} {R : V → List Ob → Prop} : Ret C 71 a H R ↔ WP C 71 code71 ⟨initRegs a, 0, H⟩ (finQ C Tryz.f71 H R) := Ret_fn pr71 fi71 fu71 bo71
@[simp] theorem locs71 : C.locs 71 = [2] := by kernel_rfl
noncomputable def code72 : Code := match Tryz.f72.body with | some c => c | none => .skip
theorem fi72 : C.fids 72 = true := by kernel_rfl
theorem bo72 : Tryz.f72.body = some code72 := rfl
theorem pr72 : C.prim 72 = none := rfl
theorem fu72 : C.funcs 72 = some Tryz.f72 := Tryz.func72
theorem op72 {a : List V} {H : List Ob} {R : V → List Ob → Prop} : Ret C 72 a H R ↔ WP C 72 code72 ⟨initRegs a, 0, H⟩ (finQ C Tryz.f72 H R) := Ret_fn pr72 fi72 fu72 bo72
@[simp] theorem locs72 : C.locs 72 = [2, 3, 4] := by kernel_rfl
noncomputable def code73 : Code := match Tryz.f73.body with | some c => c | none => .skip
theorem fi73 : C.fids 73 = true := by kernel_rfl
theorem bo73 : Tryz.f73.body = some code73 := rfl
theorem pr73 : C.prim 73 = none := rfl
theorem fu73 : C.funcs 73 = some Tryz.f73 := Tryz.func73
theorem op73 {a : List V} {H : List Ob} {R : V → List Ob → Prop} : Ret C 73 a H R ↔ WP C 73 code73 ⟨initRegs a, 0, H⟩ (finQ C Tryz.f73 H R) := Ret_fn pr73 fi73 fu73 bo73
@[simp] theorem locs73 : C.locs 73 = [2, 4] := by kernel_rfl
@[simp] theorem locs87 : C.locs 87 = [] := by kernel_rfl
noncomputable def code94 : Code := match Tryz.f94.body with | some c => c | none => .skip
theorem fi94 : C.fids 94 = true := by kernel_rfl
theorem bo94 : Tryz.f94.body = some code94 := rfl
theorem pr94 : C.prim 94 = none := rfl
theorem fu94 : C.funcs 94 = some Tryz.f94 := Tryz.func94
theorem op94 {a : List V} {H : List Ob} {R : V → List Ob → Prop} : Ret C 94 a H R ↔ WP C 94 code94 ⟨initRegs a, 0, H⟩ (finQ C Tryz.f94 H R) := Ret_fn pr94 fi94 fu94 bo94
@[simp] theorem locs94 : C.locs 94 = [] := by kernel_rfl
@[simp] theorem locs95 : C.locs 95 = [2] := by kernel_rfl
noncomputable def code96 : Code := match Tryz.f96.body with | some c => c | none => .skip
theorem fi96 : C.fids 96 = true := by kernel_rfl
theorem bo96 : Tryz.f96.body = some code96 := rfl
theorem pr96 : C.prim 96 = none := rfl
theorem fu96 : C.funcs 96 = some Tryz.f96 := Tryz.func96
theorem op96 {a : List V} {H : List Ob} {R : V → List Ob → Prop} : Ret C 96 a H R ↔ WP C 96 code96 ⟨initRegs a, 0, H⟩ (finQ C Tryz.f96 H R) := Ret_fn pr96 fi96 fu96 bo96
@[simp] theorem locs96 : C.locs 96 = [1] := by kernel_rfl
noncomputable def code97 : Code := match Tryz.f97.body with | some c => c | none => .skip
theorem fi97 : C.fids 97 = true := by kernel_rfl
theorem bo97 : Tryz.f97.body = some code97 := rfl
theorem pr97 : C.prim 97 = none := rfl
theorem fu97 : C.funcs 97 = some Tryz.f97 := Tryz.func97
theorem op97 {a : List V} {H : List Ob} {R : V → List Ob → Prop} : Ret C 97 a H R ↔ WP C 97 code97 ⟨initRegs a, 0, H⟩ (finQ C Tryz.f97 H R) := Ret_fn pr97 fi97 fu97 bo97
@[simp] theorem locs97 : C.locs 97 = [] := by kernel_rfl
@[simp] theorem locs98 : C.locs 98 = [] := by kernel_rfl
@[simp] theorem locs99 : C.locs 99 = [3, 6] := by kernel_rfl
noncomputable def code100 : Code := match Tryz.f100.body with | some c => c | none => .skip
theorem fi100 : C.fids 100 = true := by kernel_rfl
theorem bo100 : Tryz.f100.body = some code100 := rfl
theorem pr100 : C.prim 100 = none := rfl
theorem fu100 : C.funcs 100 = some Tryz.f100 := Tryz.func100
theorem op100 {a : List V} {H : List Ob} {R : V → List Ob → Prop} : Ret C 100 a H R ↔ WP C 100 code100 ⟨initRegs a, 0, H⟩ (finQ C Tryz.f100 H R) := Ret_fn pr100 fi100 fu100 bo100
@[simp] theorem locs100 : C.locs 100 = [] := by kernel_rfl
@[simp] theorem locs101 : C.locs 101 = [] := by kernel_rfl
@[simp] theorem locs102 : C.locs 102 = [] := by kernel_rfl
@[simp] theorem locs103 : C.locs 103 = [] := by kernel_rfl
noncomputable def code104 : Code := match Tryz.f104.body with | some c => c | none => .skip
theorem fi104 : C.fids 104 = true := by kernel_rfl
theorem bo104 : Tryz.f104.body = some code104 := rfl
theorem pr104 : C.prim 104 = none := rfl
theorem fu104 : C.funcs 104 = some Tryz.f104 := Tryz.func104
theorem op104 {a : List V} {H : List Ob} {R : V → List Ob → Prop} : Ret C 104 a H R ↔ WP C 104 code104 ⟨initRegs a, 0, H⟩ (finQ C Tryz.f104 H R) := Ret_fn pr104 fi104 fu104 bo104
@[simp] theorem locs104 : C.locs 104 = [1, 4] := by kernel_rfl
noncomputable def code105 : Code := match Tryz.f105.body with | some c => c | none => .skip
theorem fi105 : C.fids 105 = true := by kernel_rfl
theorem bo105 : Tryz.f105.body = some code105 := rfl
theorem pr105 : C.prim 105 = none := rfl
theorem fu105 : C.funcs 105 = some Tryz.f105 := Tryz.func105
theorem op105 {a : List V} {H : List Ob} {R : V → List Ob → Prop} : Ret C 105 a H R ↔ WP C 105 code105 ⟨initRegs a, 0, H⟩ (finQ C Tryz.f105 H R) := Ret_fn pr105 fi105 fu105 bo105
@[simp] theorem locs105 : C.locs 105 = [] := by kernel_rfl
@[simp] theorem locs106 : C.locs 106 = [2, 4] := by kernel_rfl
@[simp] theorem locs107 : C.locs 107 = [] := by kernel_rfl
@[simp] theorem locs108 : C.locs 108 = [] := by kernel_rfl
noncomputable def code109 : Code := match Tryz.f109.body with | some c => c | none => .skip
theorem fi109 : C.fids 109 = true := by kernel_rfl
theorem bo109 : Tryz.f109.body = some code109 := rfl
theorem pr109 : C.prim 109 = none := rfl
theorem fu109 : C.funcs 109 = some Tryz.f109 := Tryz.func109
theorem op109 {a : List V} {H : List Ob} {R : V → List Ob → Prop} : Ret C 109 a H R ↔ WP C 109 code109 ⟨initRegs a, 0, H⟩ (finQ C Tryz.f109 H R) := Ret_fn pr109 fi109 fu109 bo109
@[simp] theorem locs109 : C.locs 109 = [] := by kernel_rfl
noncomputable def code110 : Code := match Tryz.f110.body with | some c => c | none => .skip
theorem fi110 : C.fids 110 = true := by kernel_rfl
theorem bo110 : Tryz.f110.body = some code110 := rfl
theorem pr110 : C.prim 110 = none := rfl
theorem fu110 : C.funcs 110 = some Tryz.f110 := Tryz.func110
theorem op110 {a : List V} {H : List Ob} {R : V → List Ob → Prop} : Ret C 110 a H R ↔ WP C 110 code110 ⟨initRegs a, 0, H⟩ (finQ C Tryz.f110 H R) := Ret_fn pr110 fi110 fu110 bo110
@[simp] theorem locs110 : C.locs 110 = [] := by kernel_rfl
noncomputable def code111 : Code := match Tryz.f111.body with | some c => c | none => .skip
theorem fi111 : C.fids 111 = true := by kernel_rfl
theorem bo111 : Tryz.f111.body = some code111 := rfl
theorem pr111 : C.prim 111 = none := rfl
theorem fu111 : C.funcs 111 = some Tryz.f111 := Tryz.func111
theorem op111 {a : List V} {H : List Ob} {R : V → List Ob → Prop} : Ret C 111 a H R ↔ WP C 111 code111 ⟨initRegs a, 0, H⟩ (finQ C Tryz.f111 H R) := Ret_fn pr111 fi111 fu111 bo111
@[simp] theorem locs111 : C.locs 111 = [] := by kernel_rfl
@[simp] theorem locs112 : C.locs 112 = [2] := by kernel_rfl
noncomputable def code114 : Code := match Tryz.f114.body with | some c => c | none => .skip
theorem fi114 : C.fids 114 = true := by kernel_rfl
theorem bo114 : Tryz.f114.body = some code114 := rfl
theorem pr114 : C.prim 114 = none := rfl
theorem fu114 : C.funcs 114 = some Tryz.f114 := Tryz.func114
theorem op114 {a : List V} {H : List Ob} {R : V → List Ob → Prop} : Ret C 114 a H R ↔ WP C 114 code114 ⟨initRegs a, 0, H⟩ (finQ C Tryz.f114 H R) := Ret_fn pr114 fi114 fu114 bo114
@[simp] theorem locs114 : C.locs 114 = [] := by kernel_rfl
noncomputable def code119 : Code := match Tryz.f119.body with | some c => c | none => .skip
theorem fi119 : C.fids 119 = true := by kernel_rfl
theorem bo119 : Tryz.f119.body = some code119 := rfl
theorem pr119 : C.prim 119 = none := rfl
theorem fu119 : C.funcs 119 = some Tryz.f119 := Tryz.func119
theorem op119 {a : List V} {H : List Ob} {R : V → List Ob → Prop} : Ret C 119 a H R ↔ WP C 119 code119 ⟨initRegs a, 0, H⟩ (finQ C Tryz.f119 H R) := Ret_fn pr119 fi119 fu119 bo119
@[simp] theorem locs119 : C.locs 119 = [] := by kernel_rfl
noncomputable def code120 : Code := match Tryz.f120.body with | some c => c | none => .skip
theorem fi120 : C.fids 120 = true := by kernel_rfl
theorem bo120 : Tryz.f120.body = some code120 := rfl
theorem pr120 : C.prim 120 = none := rfl
theorem fu120 : C.funcs 120 = some Tryz.f120 := Tryz.func120
theorem op120 {a : List V} {H : List Ob} {R : V → List Ob → Prop} : Ret C 120 a H R ↔ WP C 120 code120 ⟨initRegs a, 0, H⟩ (finQ C Tryz.f120 H R) := Ret_fn pr120 fi120 fu120 bo120
@[simp] theorem locs120 : C.locs 120 = [] := by kernel_rfl
noncomputable def code121 : Code := match Tryz.f121.body with | some c => c | none => .skip
theorem fi121 : C.fids 121 = true := by kernel_rfl
theorem bo121 : Tryz.f121.body = some code121 := rfl
theorem pr121 : C.prim 121 = none := rfl
theorem fu121 : C.funcs 121 = some Tryz.f121 := Tryz.func121
theorem op121 {a : List V} {H : List Ob} {R : V → List Ob → Prop} : Ret C 121 a H R ↔ WP C 121 code121 ⟨initRegs a, 0, H⟩ (finQ C Tryz.f121 H R) := Ret_fn pr121 fi121 fu121 bo121
@[simp] theorem locs121 : C.locs 121 = [3, 5, 9] := by kernel_rfl
noncomputable def code122 : Code := match Tryz.f122.body with | some c => c | none => .skip
theorem fi122 : C.fids 122 = true := by kernel_rfl
theorem bo122 : Tryz.f122.body = some code122 := rfl
theorem pr122 : C.prim 122 = none := rfl
theorem fu122 : C.funcs 122 = some Tryz.f122 := Tryz.func122
theorem op122 {a : List V} {H : List Ob} {R : V → List Ob → Prop} : Ret C 122 a H R ↔ WP C 122 code122 ⟨initRegs a, 0, H⟩ (finQ C Tryz.f122 H R) := Ret_fn pr122 fi122 fu122 bo122
@[simp] theorem locs122 : C.locs 122 = [] := by kernel_rfl
noncomputable def code123 : Code := match Tryz.f123.body with | some c => c | none => .skip
theorem fi123 : C.fids 123 = true := by kernel_rfl
theorem bo123 : Tryz.f123.body = some code123 := rfl
theorem pr123 : C.prim 123 = none := rfl
theorem fu123 : C.funcs 123 = some Tryz.f123 := Tryz.func123
theorem op123 {a : List V} {H : List Ob} {R : V → List Ob → Prop} : Ret C 123 a H R ↔ WP C 123 code123 ⟨initRegs a, 0, H⟩ (finQ C Tryz.f123 H R) := Ret_fn pr123 fi123 fu123 bo123
@[simp] theorem locs123 : C.locs 123 = [2] := by kernel_rfl
noncomputable def code124 : Code := match Tryz.f124.body with | some c => c | none => .skip
theorem fi124 : C.fids 124 = true := by kernel_rfl
theorem bo124 : Tryz.f124.body = some code124 := rfl
theorem pr124 : C.prim 124 = none := rfl
theorem fu124 : C.funcs 124 = some Tryz.f124 := Tryz.func124
theorem op124 {a : List V} {H : List Ob} {R : V → List Ob → Prop} : Ret C 124 a H R ↔ WP C 124 code124 ⟨initRegs a, 0, H⟩ (finQ C Tryz.f124 H R) := Ret_fn pr124 fi124 fu124 bo124
@[simp] theorem locs124 : C.locs 124 = [] := by kernel_rfl
noncomputable def code125 : Code := match Tryz.f125.body with | some c => c | none => .skip
theorem fi125 : C.fids 125 = true := by kernel_rfl
theorem bo125 : Tryz.f125.body = some code125 := rfl
theorem pr125 : C.prim 125 = none := rfl
theorem fu125 : C.funcs 125 = some Tryz.f125 := Tryz.func125
theorem op125 {a : List V} {H : List Ob} {R : V → List Ob → Prop} : Ret C 125 a H R ↔ WP C 125 code125 ⟨initRegs a, 0, H⟩ (finQ C Tryz.f125 H R) := Ret_fn pr125 fi125 fu125 bo125
@[simp] theorem locs125 : C.locs 125 = [] := by kernel_rfl
noncomputable def code127 : Code := match Tryz.f127.body with | some c => c | none => .skip
theorem fi127 : C.fids 127 = true := by kernel_rfl
theorem bo127 : Tryz.f127.body = some code127 := rfl
theorem pr127 : C.prim 127 = none := rfl
theorem fu127 : C.funcs 127 = some Tryz.f127 := Tryz.func127
theorem op127 {a : List V} {H : List Ob} {R : V → List Ob → Prop} : Ret C 127 a H R ↔ WP C 127 code127 ⟨initRegs a, 0, H⟩ (finQ C Tryz.f127 H R) := Ret_fn pr127 fi127 fu127 bo127
@[simp] theorem locs127 : C.locs 127 = [] := by kernel_rfl
noncomputable def code128 : Code := match Tryz.f128.body with | some c => c | none => .skip
theorem fi128 : C.fids 128 = true := by kernel_rfl
theorem bo128 : Tryz.f128.body = some code128 := rfl
theorem pr128 : C.prim 128 = none := rfl
theorem fu128 : C.funcs 128 = some Tryz.f128 := Tryz.func128
theorem op128 {a : List V} {H : List Ob} {R : V → List Ob → Prop} : Ret C 128 a H R ↔ WP C 128 code128 ⟨initRegs a, 0, H⟩ (finQ C Tryz.f128 H R) := Ret_fn pr128 fi128 fu128 bo128
@[simp] theorem locs128 : C.locs 128 = [2] := by kernel_rfl
noncomputable def code129 : Code := match Tryz.f129.body with | some c => c | none => .skip
theorem fi129 : C.fids 129 = true := by kernel_rfl
theorem bo129 : Tryz.f129.body = some code129 := rfl
theorem pr129 : C.prim 129 = none := rfl
theorem fu129 : C.funcs 129 = some Tryz.f129 := Tryz.func129
theorem op129 {a : List V} {H : List Ob} {R : V → List Ob → Prop} : Ret C 129 a H R ↔ WP C 129 code129 ⟨initRegs a, 0, H⟩ (finQ C Tryz.f129 H R) := Ret_fn pr129 fi129 fu129 bo129
@[simp] theorem locs129 : C.locs 129 = [] := by kernel_rfl
noncomputable def code130 : Code := match Tryz.f130.body with | some c => c | none => .skip
theorem fi130 : C.fids 130 = true := by kernel_rfl
theorem bo130 : Tryz.f130.body = some code130 := rfl
theorem pr130 : C.prim 130 = none := rfl
theorem fu130 : C.funcs 130 = some Tryz.f130 := Tryz.func130
theorem op130 {a : List V} {H : List Ob} {R : V → List Ob → Prop} : Ret C 130 a H R ↔ WP C 130 code130 ⟨initRegs a, 0, H⟩ (finQ C Tryz.f130 H R) := Ret_fn pr130 fi130 fu130 bo130
@[simp] theorem locs130 : C.locs 130 = [] := by kernel_rfl
noncomputable def code131 : Code := match Tryz.f131.body with | some c => c | none => .skip
theorem fi131 : C.fids 131 = true := by kernel_rfl
theorem bo131 : Tryz.f131.body = some code131 := rfl
theorem pr131 : C.prim 131 = none := rfl
theorem fu131 : C.funcs 131 = some Tryz.f131 := Tryz.func131
theorem op131 {a : List V} {H : List Ob} {R : V → List Ob → Prop} : Ret C 131 a H R ↔ WP C 131 code131 ⟨initRegs a, 0, H⟩ (finQ C Tryz.f131 H R) := Ret_fn pr131 fi131 fu131 bo131
@[simp] theorem locs131 : C.locs 131 = [] := by kernel_rfl
noncomputable def code137 : Code := match Tryz.f137.body with | some c => c | none => .skip
theorem fi137 : C.fids 137 = true := by kernel_rfl
theorem bo137 : Tryz.f137.body = some code137 := rfl
theorem pr137 : C.prim 137 = none := rfl
theorem fu137 : C.funcs 137 = some Tryz.f137 := Tryz.func137
theorem op137 {a : List V} {H : List Ob} {R : V → List Ob → Prop} : Ret C 137 a H R ↔ WP C 137 code137 ⟨initRegs a, 0, H⟩ (finQ C Tryz.f137 H R) := Ret_fn pr137 fi137 fu137 bo137
@[simp] theorem locs137 : C.locs 137 = [] := by kernel_rfl
noncomputable def code138 : Code := match Tryz.f138.body with | some c => c | none => .skip
theorem fi138 : C.fids 138 = true := by kernel_rfl
theorem bo138 : Tryz.f138.body = some code138 := rfl
theorem pr138 : C.prim 138 = none := rfl
theorem fu138 : C.funcs 138 = some Tryz.f138 := Tryz.func138
theorem op138 {a : List V} {H : List Ob} {R : V → List Ob → Prop} : Ret C 138 a H R ↔ WP C 138 code138 ⟨initRegs a, 0, H⟩ (finQ C Tryz.f138 H R) := Ret_fn pr138 fi138 fu138 bo138
@[simp] theorem locs138 : C.locs 138 = [5, 8] := by kernel_rfl
@[simp] theorem locs139 : C.locs 139 = [3, 6, 7, 9] := by kernel_rfl
noncomputable def code141 : Code := match Tryz.f141.body with | some c => c | none => .skip
theorem fi141 : C.fids 141 = true := by kernel_rfl
theorem bo141 : Tryz.f141.body = some code141 := rfl
theorem pr141 : C.prim 141 = none := rfl
theorem fu141 : C.funcs 141 = some Tryz.f141 := Tryz.func141
theorem op141 {a : List V} {H : List Ob} {R : V → List Ob → Prop} : Ret C 141 a H R ↔ WP C 141 code141 ⟨initRegs a, 0, H⟩ (finQ C Tryz.f141 H R) := Ret_fn pr141 fi141 fu141 bo141
@[simp] theorem locs141 : C.locs 141 = [4] := by kernel_rfl
noncomputable def code142 : Code := match Tryz.f142.body with | some c => c | none => .skip
theorem fi142 : C.fids 142 = true := by kernel_rfl
theorem bo142 : Tryz.f142.body = some code142 := rfl
theorem pr142 : C.prim 142 = none := rfl
theorem fu142 : C.funcs 142 = some Tryz.f142 := Tryz.func142
theorem op142 {a : List V} {H : List Ob} {R : V → List Ob → Prop} : Ret C 142 a H R ↔ WP C 142 code142 ⟨initRegs a, 0, H⟩ (finQ C Tryz.f142 H R) := Ret_fn pr142 fi142 fu142 bo142
@[simp] theorem locs142 : C.locs 142 = [2] := by kernel_rfl
noncomputable def code143 : Code := match Tryz.f143.body with | some c => c | none => .skip
theorem fi143 : C.fids 143 = true := by kernel_rfl
theorem bo143 : Tryz.f143.body = some code143 := rfl
theorem pr143 : C.prim 143 = none := rfl
theorem fu143 : C.funcs 143 = some Tryz.f143 := Tryz.func143
theorem op143 {a : List V} {H : List Ob} {R : V → List Ob → Prop} : Ret C 143 a H R ↔ WP C 143 code143 ⟨initRegs a, 0, H⟩ (finQ C Tryz.f143 H R) := Ret_fn pr143 fi143 fu143 bo143
@[simp] theorem locs143 : C.locs 143 = [3, 4] := by kernel_rfl
noncomputable def code144 : Code := match Tryz.f144.body with | some c => c | none => .skip
theorem fi144 : C.fids 144 = true := by kernel_rfl
theorem bo144 : Tryz.f144.body = some code144 := rfl
theorem pr144 : C.prim 144 = none := rfl
theorem fu144 : C.funcs 144 = some Tryz.f144 := Tryz.func144
theorem op144 {a : List V} {H : List Ob} {R : V → List Ob → Prop} : Ret C 144 a H R ↔ WP C 144 code144 ⟨initRegs a, 0, H⟩ (finQ C Tryz.f144 H R) := Ret_fn pr144 fi144 fu144 bo144
@[simp] theorem locs144 : C.locs 144 = [2] := by kernel_rfl
noncomputable def code145 : Code := match Tryz.f145.body with | some c => c | none => .skip
theorem fi145 : C.fids 145 = true := by kernel_rfl
theorem bo145 : Tryz.f145.body = some code145 := rfl
theorem pr145 : C.prim 145 = none := rfl
theorem fu145 : C.funcs 145 = some Tryz.f145 := Tryz.func145
theorem op145 {a : List V} {H : List Ob} {R : V → List Ob → Prop} : Ret C 145 a H R ↔ WP C 145 code145 ⟨initRegs a, 0, H⟩ (finQ C Tryz.f145 H R) := Ret_fn pr145 fi145 fu145 bo145
@[simp] theorem locs145 : C.locs 145 = [4, 7] := by kernel_rfl
noncomputable def code146 : Code := match Tryz.f146.body with | some c => c | none => .skip
theorem fi146 : C.fids 146 = true := by kernel_rfl
theorem bo146 : Tryz.f146.body = some code146 := rfl
theorem pr146 : C.prim 146 = none := rfl
theorem fu146 : C.funcs 146 = some Tryz.f146 := Tryz.func146
theorem op146 {a : List V} {H : List Ob} {R : V → List Ob → Prop} : Ret C 146 a H R ↔ WP C 146 code146 ⟨initRegs a, 0, H⟩ (finQ C Tryz.f146 H R) := Ret_fn pr146 fi146 fu146 bo146
@[simp] theorem locs146 : C.locs 146 = [] := by kernel_rfl
noncomputable def code147 : Code := match Tryz.f147.body with | some c => c | none => .skip
theorem fi147 : C.fids 147 = true := by kernel_rfl
theorem bo147 : Tryz.f147.body = some code147 := rfl
theorem pr147 : C.prim 147 = none := rfl
theorem fu147 : C.funcs 147 = some Tryz.f147 := Tryz.func147
theorem op147 {a : List V} {H : List Ob} {R : V → List Ob → Prop} : Ret C 147 a H R ↔ WP C 147 code147 ⟨initRegs a, 0, H⟩ (finQ C Tryz.f147 H R) := Ret_fn pr147 fi147 fu147 bo147
@[simp] theorem locs147 : C.locs 147 = [1, 2] := by kernel_rfl
noncomputable def code149 : Code := match Tryz.f149.body with | some c => c | none => .skip
theorem fi149 : C.fids 149 = true := by kernel_rfl
theorem bo149 : Tryz.f149.body = some code149 := rfl
theorem pr149 : C.prim 149 = none := rfl
theorem fu149 : C.funcs 149 = some Tryz.f149 := Tryz.func149
theorem op149 {a : List V} {H : List Ob} {R : V → List Ob → Prop} : Ret C 149 a H R ↔ WP C 149 code149 ⟨initRegs a, 0, H⟩ (finQ C Tryz.f149 H R) := Ret_fn pr149 fi149 fu149 bo149
@[simp] theorem locs149 : C.locs 149 = [1] := by kernel_rfl
noncomputable def code150 : Code := match Tryz.f150.body with | some c => c | none => .skip
theorem fi150 : C.fids 150 = true := by kernel_rfl
theorem bo150 : Tryz.f150.body = some code150 := rfl
theorem pr150 : C.prim 150 = none := rfl
theorem fu150 : C.funcs 150 = some Tryz.f150 := Tryz.func150
theorem op150 {a : List V} {H : List Ob} {R : V → List Ob → Prop} : Ret C 150 a H R ↔ WP C 150 code150 ⟨initRegs a, 0, H⟩ (finQ C Tryz.f150 H R) := Ret_fn pr150 fi150 fu150 bo150
@[simp] theorem locs150 : C.locs 150 = [1] := by kernel_rfl
noncomputable def code151 : Code := match Tryz.f151.body with | some c => c | none => .skip
theorem fi151 : C.fids 151 = true := by kernel_rfl
theorem bo151 : Tryz.f151.body = some code151 := rfl
theorem pr151 : C.prim 151 = none := rfl
theorem fu151 : C.funcs 151 = some Tryz.f151 := Tryz.func151
theorem op151 {a : List V} {H : List Ob} {R : V → List Ob → Prop} : Ret C 151 a H R ↔ WP C 151 code151 ⟨initRegs a, 0, H⟩ (finQ C Tryz.f151 H R) := Ret_fn pr151 fi151 fu151 bo151
@[simp] theorem locs151 : C.locs 151 = [] := by kernel_rfl
noncomputable def code152 : Code := match Tryz.f152.body with | some c => c | none => .skip
theorem fi152 : C.fids 152 = true := by kernel_rfl
theorem bo152 : Tryz.f152.body = some code152 := rfl
theorem pr152 : C.prim 152 = none := rfl
theorem fu152 : C.funcs 152 = some Tryz.f152 := Tryz.func152
theorem op152 {a : List V} {H : List Ob} {R : V → List Ob → Prop} : Ret C 152 a H R ↔ WP C 152 code152 ⟨initRegs a, 0, H⟩ (finQ C Tryz.f152 H R) := Ret_fn pr152 fi152 fu152 bo152
@[simp] theorem locs152 : C.locs 152 = [] := by kernel_rfl
noncomputable def code153 : Code := match Tryz.f153.body with | some c => c | none => .skip
theorem fi153 : C.fids 153 = true := by kernel_rfl
theorem bo153 : Tryz.f153.body = some code153 := rfl
theorem pr153 : C.prim 153 = none := rfl
theorem fu153 : C.funcs 153 = some Tryz.f153 := Tryz.func153
theorem op153 {a : List V} {H : List Ob} {R : V → List Ob → Prop} : Ret C 153 a H R ↔ WP C 153 code153 ⟨initRegs a, 0, H⟩ (finQ C Tryz.f153 H R) := Ret_fn pr153 fi153 fu153 bo153
@[simp] theorem locs153 : C.locs 153 = [] := by kernel_rfl
noncomputable def code154 : Code := match Tryz.f154.body with | some c => c | none => .skip
theorem fi154 : C.fids 154 = true := by kernel_rfl
theorem bo154 : Tryz.f154.body = some code154 := rfl
theorem pr154 : C.prim 154 = none := rfl
theorem fu154 : C.funcs 154 = some Tryz.f154 := Tryz.func154
theorem op154 {a : List V} {H : List Ob} {R : V → List Ob → Prop} : Ret C 154 a H R ↔ WP C 154 code154 ⟨initRegs a, 0, H⟩ (finQ C Tryz.f154 H R) := Ret_fn pr154 fi154 fu154 bo154
@[simp] theorem locs154 : C.locs 154 = [] := by kernel_rfl
noncomputable def code155 : Code := match Tryz.f155.body with | some c => c | none => .skip
theorem fi155 : C.fids 155 = true := by kernel_rfl
theorem bo155 : Tryz.f155.body = some code155 := rfl
theorem pr155 : C.prim 155 = none := rfl
theorem fu155 : C.funcs 155 = some Tryz.f155 := Tryz.func155
theorem op155 {a : List V} {H : List Ob} {R : V → List Ob → Prop} : Ret C 155 a H R ↔ WP C 155 code155 ⟨initRegs a, 0, H⟩ (finQ C Tryz.f155 H R) := Ret_fn pr155 fi155 fu155 bo155
@[simp] theorem locs155 : C.locs 155 = [2] := by kernel_rfl
noncomputable def code156 : Code := match Tryz.f156.body with | some c => c | none => .skip
theorem fi156 : C.fids 156 = true := by kernel_rfl
theorem bo156 : Tryz.f156.body = some code156 := rfl
theorem pr156 : C.prim 156 = none := rfl
theorem fu156 : C.funcs 156 = some Tryz.f156 := Tryz.func156
theorem op156 {a : List V} {H : List Ob} {R : V → List Ob → Prop} : Ret C 156 a H R ↔ WP C 156 code156 ⟨initRegs a, 0, H⟩ (finQ C Tryz.f156 H R) := Ret_fn pr156 fi156 fu156 bo156
@[simp] theorem locs156 : C.locs 156 = [] := by kernel_rfl
noncomputable def code157 : Code := match Tryz.f157.body with | some c => c | none => .skip
theorem fi157 : C.fids 157 = true := by kernel_rfl
theorem bo157 : Tryz.f157.body = some code157 := rfl
theorem pr157 : C.prim 157 = none := rfl
theorem fu157 : C.funcs 157 = some Tryz.f157 := Tryz.func157
theorem op157 {a : List V} {H : List Ob} {R : V → List Ob → Prop} : Ret C 157 a H R ↔ WP C 157 code157 ⟨initRegs a, 0, H⟩ (finQ C Tryz.f157 H R) := Ret_fn pr157 fi157 fu157 bo157
@[simp] theorem locs157 : C.locs 157 = [1, 2, 3] := by kernel_rfl
noncomputable def code158 : Code := match Tryz.f158.body with | some c => c | none => .skip
theorem fi158 : C.fids 158 = true := by kernel_rfl
theorem bo158 : Tryz.f158.body = some code158 := rfl
theorem pr158 : C.prim 158 = none := rfl
theorem fu158 : C.funcs 158 = some Tryz.f158 := Tryz.func158
theorem op158 {a : List V} {H : List Ob} {R : V → List Ob → Prop} : Ret C 158 a H R ↔ WP C 158 code158 ⟨initRegs a, 0, H⟩ (finQ C Tryz.f158 H R) := Ret_fn pr158 fi158 fu158 bo158
@[simp] theorem locs158 : C.locs 158 = [1, 2, 3] := by kernel_rfl
@[simp] theorem locs159 : C.locs 159 = [] := by kernel_rfl
@[simp] theorem locs160 : C.locs 160 = [] := by kernel_rfl
noncomputable def code161 : Code := match Tryz.f161.body with | some c => c | none => .skip
theorem fi161 : C.fids 161 = true := by kernel_rfl
theorem bo161 : Tryz.f161.body = some code161 := rfl
theorem pr161 : C.prim 161 = none := rfl
theorem fu161 : C.funcs 161 = some Tryz.f161 := Tryz.func161
theorem op161 {a : List V} {H : List Ob} {R : V → List Ob → Prop} : Ret C 161 a H R ↔ WP C 161 code161 ⟨initRegs a, 0, H⟩ (finQ C Tryz.f161 H R) := Ret_fn pr161 fi161 fu161 bo161
@[simp] theorem locs161 : C.locs 161 = [] := by kernel_rfl
noncomputable def code162 : Code := match Tryz.f162.body with | some c => c | none => .skip
theorem fi162 : C.fids 162 = true := by kernel_rfl
theorem bo162 : Tryz.f162.body = some code162 := rfl
theorem pr162 : C.prim 162 = none := rfl
theorem fu162 : C.funcs 162 = some Tryz.f162 := Tryz.func162
theorem op162 {a : List V} {H : List Ob} {R : V → List Ob → Prop} : Ret C 162 a H R ↔ WP C 162 code162 ⟨initRegs a, 0, H⟩ (finQ C Tryz.f162 H R) := Ret_fn pr162 fi162 fu162 bo162
@[simp] theorem locs162 : C.locs 162 = [1, 2, 3, 5] := by kernel_rfl
noncomputable def code163 : Code := match Tryz.f163.body with | some c => c | none => .skip
theorem fi163 : C.fids 163 = true := by kernel_rfl
theorem bo163 : Tryz.f163.body = some code163 := rfl
theorem pr163 : C.prim 163 = none := rfl
theorem fu163 : C.funcs 163 = some Tryz.f163 := Tryz.func163
theorem op163 {a : List V} {H : List Ob} {R : V → List Ob → Prop} : Ret C 163 a H R ↔ WP C 163 code163 ⟨initRegs a, 0, H⟩ (finQ C Tryz.f163 H R) := Ret_fn pr163 fi163 fu163 bo163
@[simp] theorem locs163 : C.locs 163 = [2, 3] := by kernel_rfl
noncomputable def code164 : Code := match Tryz.f164.body with | some c => c | none => .skip
theorem fi164 : C.fids 164 = true := by kernel_rfl
theorem bo164 : Tryz.f164.body = some code164 := rfl
theorem pr164 : C.prim 164 = none := rfl
theorem fu164 : C.funcs 164 = some Tryz.f164 := Tryz.func164
theorem op164 {a : List V} {H : List Ob} {R : V → List Ob → Prop} : Ret C 164 a H R ↔ WP C 164 code164 ⟨initRegs a, 0, H⟩ (finQ C Tryz.f164 H R) := Ret_fn pr164 fi164 fu164 bo164
@[simp] theorem locs164 : C.locs 164 = [] := by kernel_rfl
noncomputable def code165 : Code := match Tryz.f165.body with | some c => c | none => .skip
theorem fi165 : C.fids 165 = true := by kernel_rfl
theorem bo165 : Tryz.f165.body = some code165 := rfl
theorem pr165 : C.prim 165 = none := rfl
theorem fu165 : C.funcs 165 = some Tryz.f165 := Tryz.func165
theorem op165 {a : List V} {H : List Ob} {R : V → List Ob → Prop} : Ret C 165 a H R ↔ WP C 165 code165 ⟨initRegs a, 0, H⟩ (finQ C Tryz.f165 H R) := Ret_fn pr165 fi165 fu165 bo165
@[simp] theorem locs165 : C.locs 165 = [] := by kernel_rfl
noncomputable def code168 : Code := match Tryz.f168.body with | some c => c | none => .skip
theorem fi168 : C.fids 168 = true := by kernel_rfl
theorem bo168 : Tryz.f168.body = some code168 := rfl
theorem pr168 : C.prim 168 = none := rfl
theorem fu168 : C.funcs 168 = some Tryz.f168 := Tryz.func168
theorem op168 {a : List V} {H : List Ob} {R : V → List Ob → Prop} : Ret C 168 a H R ↔ WP C 168 code168 ⟨initRegs a, 0, H⟩ (finQ C Tryz.f168 H R) := Ret_fn pr168 fi168 fu168 bo168
@[simp] theorem locs168 : C.locs 168 = [] := by kernel_rfl
noncomputable def code172 : Code := match Tryz.f172.body with | some c => c | none => .skip
theorem fi172 : C.fids 172 = true := by kernel_rfl
theorem bo172 : Tryz.f172.body = some code172 := rfl
theorem pr172 : C.prim 172 = none := rfl
theorem fu172 : C.funcs 172 = some Tryz.f172 := Tryz.func172
theorem op172 {a : List V} {H : List Ob} {R : V → List Ob → Prop} : Ret C 172 a H R ↔ WP C 172 code172 ⟨initRegs a, 0, H⟩ (finQ C Tryz.f172 H R) := Ret_fn pr172 fi172 fu172 bo172
@[simp] theorem locs172 : C.locs 172 = [] := by kernel_rfl
noncomputable def code177 : Code := match Tryz.f177.body with | some c => c | none => .skip
theorem fi177 : C.fids 177 = true := by kernel_rfl
theorem bo177 : Tryz.f177.body = some code177 := rfl
theorem pr177 : C.prim 177 = none := rfl
theorem fu177 : C.funcs 177 = some Tryz.f177 := Tryz.func177
theorem op177 {a : List V} {H : List Ob} {R : V → List Ob → Prop} : Ret C 177 a H R ↔ WP C 177 code177 ⟨initRegs a, 0, H⟩ (finQ C Tryz.f177 H R) := Ret_fn pr177 fi177 fu177 bo177
@[simp] theorem locs177 : C.locs 177 = [2] := by kernel_rfl
@[simp] theorem locs178 : C.locs 178 = [2, 4] := by kernel_rfl
@[simp] theorem locs179 : C.locs 179 = [] := by kernel_rfl
noncomputable def code180 : Code := match Tryz.f180.body with | some c => c | none => .skip
theorem fi180 : C.fids 180 = true := by kernel_rfl
theorem bo180 : Tryz.f180.body = some code180 := rfl
theorem pr180 : C.prim 180 = none := rfl
theorem fu180 : C.funcs 180 = some Tryz.f180 := Tryz.func180
theorem op180 {a : List V} {H : List Ob} {R : V → List Ob → Prop} : Ret C 180 a H R ↔ WP C 180 code180 ⟨initRegs a, 0, H⟩ (finQ C Tryz.f180 H R) := Ret_fn pr180 fi180 fu180 bo180
@[simp] theorem locs180 : C.locs 180 = [2, 4] := by kernel_rfl
@[simp] theorem locs181 : C.locs 181 = [] := by kernel_rfl
@[simp] theorem locs182 : C.locs 182 = [] := by kernel_rfl
noncomputable def code183 : Code := match Tryz.f183.body with | some c => c | none => .skip
theorem fi183 : C.fids 183 = true := by kernel_rfl
theorem bo183 : Tryz.f183.body = some code183 := rfl
theorem pr183 : C.prim 183 = none := rfl
theorem fu183 : C.funcs 183 = some Tryz.f183 := Tryz.func183
theorem op183 {a : List V} {H : List Ob} {R : V → List Ob → Prop} : Ret C 183 a H R ↔ WP C 183 code183 ⟨initRegs a, 0, H⟩ (finQ C Tryz.f183 H R) := Ret_fn pr183 fi183 fu183 bo183
@[simp] theorem locs183 : C.locs 183 = [2] := by kernel_rfl
noncomputable def code184 : Code := match Tryz.f184.body with | some c => c | none => .skip
theorem fi184 : C.fids 184 = true := by kernel_rfl
theorem bo184 : Tryz.f184.body = some code184 := rfl
theorem pr184 : C.prim 184 = none := rfl
theorem fu184 : C.funcs 184 = some Tryz.f184 := Tryz.func184
theorem op184 {a : List V} {H : List Ob} {R : V → List Ob → Prop} : Ret C 184 a H R ↔ WP C 184 code184 ⟨initRegs a, 0, H⟩ (finQ C Tryz.f184 H R) := Ret_fn pr184 fi184 fu184 bo184
@[simp] theorem locs184 : C.locs 184 = [] := by kernel_rfl
noncomputable def code185 : Code := match Tryz.f185.body with | some c => c | none => .skip
theorem fi185 : C.fids 185 = true := by kernel_rfl
theorem bo185 : Tryz.f185.body = some code185 := rfl
theorem pr185 : C.prim 185 = none := rfl
theorem fu185 : C.funcs 185 = some Tryz.f185 := Tryz.func185
theorem op185 {a : List V} {H : List Ob} {R : V → List Ob → Prop} : Ret C 185 a H R ↔ WP C 185 code185 ⟨initRegs a, 0, H⟩ (finQ C Tryz.f185 H R) := Ret_fn pr185 fi185 fu185 bo185
@[simp] theorem locs185 : C.locs 185 = [2, 3, 4] := by kernel_rfl
noncomputable def code186 : Code := match Tryz.f186.body with | some c => c | none => .skip
theorem fi186 : C.fids 186 = true := by kernel_rfl
theorem bo186 : Tryz.f186.body = some code186 := rfl
theorem pr186 : C.prim 186 = none := rfl
theorem fu186 : C.funcs 186 = some Tryz.f186 := Tryz.func186
theorem op186 {a : List V} {H : List Ob} {R : V → List Ob → Prop} : Ret C 186 a H R ↔ WP C 186 code186 ⟨initRegs a, 0, H⟩ (finQ C Tryz.f186 H R) := Ret_fn pr186 fi186 fu186 bo186
@[simp] theorem locs186 : C.locs 186 = [] := by kernel_rfl
noncomputable def code187 : Code := match Tryz.f187.body with | some c => c | none => .skip
theorem fi187 : C.fids 187 = true := by kernel_rfl
theorem bo187 : Tryz.f187.body = some code187 := rfl
theorem pr187 : C.prim 187 = none := rfl
theorem fu187 : C.funcs 187 = some Tryz.f187 := Tryz.func187
theorem op187 {a : List V} {H : List Ob} {R : V → List Ob → Prop} : Ret C 187 a H R ↔ WP C 187 code187 ⟨initRegs a, 0, H⟩ (finQ C Tryz.f187 H R) := Ret_fn pr187 fi187 fu187 bo187
@[simp] theorem locs187 : C.locs 187 = [] := by kernel_rfl
noncomputable def code203 : Code := match Tryz.f203.body with | some c => c | none => .skip
theorem fi203 : C.fids 203 = true := by kernel_rfl
theorem bo203 : Tryz.f203.body = some code203 := rfl
theorem pr203 : C.prim 203 = none := rfl
theorem fu203 : C.funcs 203 = some Tryz.f203 := Tryz.func203
theorem op203 {a : List V} {H : List Ob} {R : V → List Ob → Prop} : Ret C 203 a H R ↔ WP C 203 code203 ⟨initRegs a, 0, H⟩ (finQ C Tryz.f203 H R) := Ret_fn pr203 fi203 fu203 bo203
@[simp] theorem locs203 : C.locs 203 = [5, 6] := by kernel_rfl
noncomputable def code204 : Code := match Tryz.f204.body with | some c => c | none => .skip
theorem fi204 : C.fids 204 = true := by kernel_rfl
theorem bo204 : Tryz.f204.body = some code204 := rfl
theorem pr204 : C.prim 204 = none := rfl
theorem fu204 : C.funcs 204 = some Tryz.f204 := Tryz.func204
theorem op204 {a : List V} {H : List Ob} {R : V → List Ob → Prop} : Ret C 204 a H R ↔ WP C 204 code204 ⟨initRegs a, 0, H⟩ (finQ C Tryz.f204 H R) := Ret_fn pr204 fi204 fu204 bo204
@[simp] theorem locs204 : C.locs 204 = [] := by kernel_rfl
noncomputable def code216 : Code := match Tryz.f216.body with | some c => c | none => .skip
theorem fi216 : C.fids 216 = true := by kernel_rfl
theorem bo216 : Tryz.f216.body = some code216 := rfl
theorem pr216 : C.prim 216 = none := rfl
theorem fu216 : C.funcs 216 = some Tryz.f216 := Tryz.func216
theorem op216 {a : List V} {H : List Ob} {R : V → List Ob → Prop} : Ret C 216 a H R ↔ WP C 216 code216 ⟨initRegs a, 0, H⟩ (finQ C Tryz.f216 H R) := Ret_fn pr216 fi216 fu216 bo216
@[simp] theorem locs216 : C.locs 216 = [2] := by kernel_rfl
noncomputable def code217 : Code := match Tryz.f217.body with | some c => c | none => .skip
theorem fi217 : C.fids 217 = true := by kernel_rfl
theorem bo217 : Tryz.f217.body = some code217 := rfl
theorem pr217 : C.prim 217 = none := rfl
theorem fu217 : C.funcs 217 = some Tryz.f217 := Tryz.func217
theorem op217 {a : List V} {H : List Ob} {R : V → List Ob → Prop} : Ret C 217 a H R ↔ WP C 217 code217 ⟨initRegs a, 0, H⟩ (finQ C Tryz.f217 H R) := Ret_fn pr217 fi217 fu217 bo217
@[simp] theorem locs217 : C.locs 217 = [] := by kernel_rfl
noncomputable def code218 : Code := match Tryz.f218.body with | some c => c | none => .skip
theorem fi218 : C.fids 218 = true := by kernel_rfl
theorem bo218 : Tryz.f218.body = some code218 := rfl
theorem pr218 : C.prim 218 = none := rfl
theorem fu218 : C.funcs 218 = some Tryz.f218 := Tryz.func218
theorem op218 {a : List V} {H : List Ob} {R : V → List Ob → Prop} : Ret C 218 a H R ↔ WP C 218 code218 ⟨initRegs a, 0, H⟩ (finQ C Tryz.f218 H R) := Ret_fn pr218 fi218 fu218 bo218
@[simp] theorem locs218 : C.locs 218 = [] := by kernel_rfl
noncomputable def code219 : Code := match Tryz.f219.body with | some c => c | none => .skip
theorem fi219 : C.fids 219 = true := by kernel_rfl
theorem bo219 : Tryz.f219.body = some code219 := rfl
theorem pr219 : C.prim 219 = none := rfl
theorem fu219 : C.funcs 219 = some Tryz.f219 := Tryz.func219
theorem op219 {a : List V} {H : List Ob} {R : V → List Ob → Prop} : Ret C 219 a H R ↔ WP C 219 code219 ⟨initRegs a, 0, H⟩ (finQ C Tryz.f219 H R) := Ret_fn pr219 fi219 fu219 bo219
@[simp] theorem locs219 : C.locs 219 = [] := by kernel_rfl
noncomputable def code220 : Code := match Tryz.f220.body with | some c => c | none => .skip
theorem fi220 : C.fids 220 = true := by kernel_rfl
theorem bo220 : Tryz.f220.body = some code220 := rfl
theorem pr220 : C.prim 220 = none := rfl
theorem fu220 : C.funcs 220 = some Tryz.f220 := Tryz.func220
theorem op220 {a : List V} {H : List Ob} {R : V → List Ob → Prop} : Ret C 220 a H R ↔ WP C 220 code220 ⟨initRegs a, 0, H⟩ (finQ C Tryz.f220 H R) := Ret_fn pr220 fi220 fu220 bo220
@[simp] theorem locs220 : C.locs 220 = [1, 2, 3] := by kernel_rfl
noncomputable def code222 : Code := match Tryz.f222.body with | some c => c | none => .skip
theorem fi222 : C.fids 222 = true := by kernel_rfl
theorem bo222 : Tryz.f222.body = some code222 := rfl
theorem pr222 : C.prim 222 = none := rfl
theorem fu222 : C.funcs 222 = some Tryz.f222 := Tryz.func222
theorem op222 {a : List V} {H : List Ob} {R : V → List Ob → Prop} : Ret C 222 a H R ↔ WP C 222 code222 ⟨initRegs a, 0, H⟩ (finQ C Tryz.f222 H R) := Ret_fn pr222 fi222 fu222 bo222
@[simp] theorem locs222 : C.locs 222 = [] := by kernel_rfl
noncomputable def code223 : Code := match Tryz.f223.body with | some c => c | none => .skip
theorem fi223 : C.fids 223 = true := by kernel_rfl
theorem bo223 : Tryz.f223.body = some code223 := rfl
theorem pr223 : C.prim 223 = none := rfl
theorem fu223 : C.funcs 223 = some Tryz.f223 := Tryz.func223
theorem op223 {a : List V} {H : List Ob} {R : V → List Ob → Prop} : Ret C 223 a H R ↔ WP C 223 code223 ⟨initRegs a, 0, H⟩ (finQ C Tryz.f223 H R) := Ret_fn pr223 fi223 fu223 bo223
@[simp] theorem locs223 : C.locs 223 = [1] := by kernel_rfl
noncomputable def code224 : Code := match Tryz.f224.body with | some c => c | none => .skip
theorem fi224 : C.fids 224 = true := by kernel_rfl
theorem bo224 : Tryz.f224.body = some code224 := rfl
theorem pr224 : C.prim 224 = none := rfl
theorem fu224 : C.funcs 224 = some Tryz.f224 := Tryz.func224
theorem op224 {a : List V} {H : List Ob} {R : V → List Ob → Prop} : Ret C 224 a H R ↔ WP C 224 code224 ⟨initRegs a, 0, H⟩ (finQ C Tryz.f224 H R) := Ret_fn pr224 fi224 fu224 bo224
@[simp] theorem locs224 : C.locs 224 = [] := by kernel_rfl
noncomputable def code225 : Code := match Tryz.f225.body with | some c => c | none => .skip
theorem fi225 : C.fids 225 = true := by kernel_rfl
theorem bo225 : Tryz.f225.body = some code225 := rfl
theorem pr225 : C.prim 225 = none := rfl
theorem fu225 : C.funcs 225 = some Tryz.f225 := Tryz.func225
theorem op225 {a : List V} {H : List Ob} {R : V → List Ob → Prop} : Ret C 225 a H R ↔ WP C 225 code225 ⟨initRegs a, 0, H⟩ (finQ C Tryz.f225 H R) := Ret_fn pr225 fi225 fu225 bo225
@[simp] theorem locs225 : C.locs 225 = [] := by kernel_rfl
noncomputable def code226 : Code := match Tryz.f226.body with | some c => c | none => .skip
theorem fi226 : C.fids 226 = true := by kernel_rfl
theorem bo226 : Tryz.f226.body = some code226 := rfl
theorem pr226 : C.prim 226 = none := rfl
theorem fu226 : C.funcs 226 = some Tryz.f226 := Tryz.func226
theorem op226 {a : List V} {H : List Ob} {R : V → List Ob → Prop} : Ret C 226 a H R ↔ WP C 226 code226 ⟨initRegs a, 0, H⟩ (finQ C Tryz.f226 H R) := Ret_fn pr226 fi226 fu226 bo226
@[simp] theorem locs226 : C.locs 226 = [] := by kernel_rfl
@[simp] theorem locs227 : C.locs 227 = [] := by kernel_rfl
noncomputable def code228 : Code := match Tryz.f228.body with | some c => c | none => .skip
theorem fi228 : C.fids 228 = true := by kernel_rfl
theorem bo228 : Tryz.f228.body = some code228 := rfl
theorem pr228 : C.prim 228 = none := rfl
theorem fu228 : C.funcs 228 = some Tryz.f228 := Tryz.func228
theorem op228 {a : List V} {H : List Ob} {R : V → List Ob → Prop} : Ret C 228 a H R ↔ WP C 228 code228 ⟨initRegs a, 0, H⟩ (finQ C Tryz.f228 H R) := Ret_fn pr228 fi228 fu228 bo228
@[simp] theorem locs228 : C.locs 228 = [2, 3] := by kernel_rfl
noncomputable def code229 : Code := match Tryz.f229.body with | some c => c | none => .skip
theorem fi229 : C.fids 229 = true := by kernel_rfl
theorem bo229 : Tryz.f229.body = some code229 := rfl
theorem pr229 : C.prim 229 = none := rfl
theorem fu229 : C.funcs 229 = some Tryz.f229 := Tryz.func229
theorem op229 {a : List V} {H : List Ob} {R : V → List Ob → Prop} : Ret C 229 a H R ↔ WP C 229 code229 ⟨initRegs a, 0, H⟩ (finQ C Tryz.f229 H R) := Ret_fn pr229 fi229 fu229 bo229
@[simp] theorem locs229 : C.locs 229 = [] := by kernel_rfl
noncomputable def code230 : Code := match Tryz.f230.body with | some c => c | none => .skip
theorem fi230 : C.fids 230 = true := by kernel_rfl
theorem bo230 : Tryz.f230.body = some code230 := rfl
theorem pr230 : C.prim 230 = none := rfl
theorem fu230 : C.funcs 230 = some Tryz.f230 := Tryz.func230
theorem op230 {a : List V} {H : List Ob} {R : V → List Ob → Prop} : Ret C 230 a H R ↔ WP C 230 code230 ⟨initRegs a, 0, H⟩ (finQ C Tryz.f230 H R) := Ret_fn pr230 fi230 fu230 bo230
@[simp] theorem locs230 : C.locs 230 = [] := by kernel_rfl
noncomputable def code231 : Code := match Tryz.f231.body with | some c => c | none => .skip
theorem fi231 : C.fids 231 = true := by kernel_rfl
theorem bo231 : Tryz.f231.body = some code231 := rfl
theorem pr231 : C.prim 231 = none := rfl
theorem fu231 : C.funcs 231 = some Tryz.f231 := Tryz.func231
theorem op231 {a : List V} {H : List Ob} {R : V → List Ob → Prop} : Ret C 231 a H R ↔ WP C 231 code231 ⟨initRegs a, 0, H⟩ (finQ C Tryz.f231 H R) := Ret_fn pr231 fi231 fu231 bo231
@[simp] theorem locs231 : C.locs 231 = [2] := by kernel_rfl
noncomputable def code232 : Code := match Tryz.f232.body with | some c => c | none => .skip
theorem fi232 : C.fids 232 = true := by kernel_rfl
theorem bo232 : Tryz.f232.body = some code232 := rfl
theorem pr232 : C.prim 232 = none := rfl
theorem fu232 : C.funcs 232 = some Tryz.f232 := Tryz.func232
theorem op232 {a : List V} {H : List Ob} {R : V → List Ob → Prop} : Ret C 232 a H R ↔ WP C 232 code232 ⟨initRegs a, 0, H⟩ (finQ C Tryz.f232 H R) := Ret_fn pr232 fi232 fu232 bo232
@[simp] theorem locs232 : C.locs 232 = [] := by kernel_rfl
noncomputable def code233 : Code := match Tryz.f233.body with | some c => c | none => .skip
theorem fi233 : C.fids 233 = true := by kernel_rfl
theorem bo233 : Tryz.f233.body = some code233 := rfl
theorem pr233 : C.prim 233 = none := rfl
theorem fu233 : C.funcs 233 = some Tryz.f233 := Tryz.func233
theorem op233 {a : List V} {H : List Ob} {R : V → List Ob → Prop} : Ret C 233 a H R ↔ WP C 233 code233 ⟨initRegs a, 0, H⟩ (finQ C Tryz.f233 H R) := Ret_fn pr233 fi233 fu233 bo233
@[simp] theorem locs233 : C.locs 233 = [] := by kernel_rfl
noncomputable def code234 : Code := match Tryz.f234.body with | some c => c | none => .skip
theorem fi234 : C.fids 234 = true := by kernel_rfl
theorem bo234 : Tryz.f234.body = some code234 := rfl
theorem pr234 : C.prim 234 = none := rfl
theorem fu234 : C.funcs 234 = some Tryz.f234 := Tryz.func234
theorem op234 {a : List V} {H : List Ob} {R : V → List Ob → Prop} : Ret C 234 a H R ↔ WP C 234 code234 ⟨initRegs a, 0, H⟩ (finQ C Tryz.f234 H R) := Ret_fn pr234 fi234 fu234 bo234
@[simp] theorem locs234 : C.locs 234 = [2] := by kernel_rfl
noncomputable def code235 : Code := match Tryz.f235.body with | some c => c | none => .skip
theorem fi235 : C.fids 235 = true := by kernel_rfl
theorem bo235 : Tryz.f235.body = some code235 := rfl
theorem pr235 : C.prim 235 = none := rfl
theorem fu235 : C.funcs 235 = some Tryz.f235 := Tryz.func235
theorem op235 {a : List V} {H : List Ob} {R : V → List Ob → Prop} : Ret C 235 a H R ↔ WP C 235 code235 ⟨initRegs a, 0, H⟩ (finQ C Tryz.f235 H R) := Ret_fn pr235 fi235 fu235 bo235
@[simp] theorem locs235 : C.locs 235 = [3] := by kernel_rfl
noncomputable def code236 : Code := match Tryz.f236.body with | some c => c | none => .skip
theorem fi236 : C.fids 236 = true := by kernel_rfl
theorem bo236 : Tryz.f236.body = some code236 := rfl
theorem pr236 : C.prim 236 = none := rfl
theorem fu236 : C.funcs 236 = some Tryz.f236 := Tryz.func236
theorem op236 {a : List V} {H : List Ob} {R : V → List Ob → Prop} : Ret C 236 a H R ↔ WP C 236 code236 ⟨initRegs a, 0, H⟩ (finQ C Tryz.f236 H R) := Ret_fn pr236 fi236 fu236 bo236
@[simp] theorem locs236 : C.locs 236 = [] := by kernel_rfl
noncomputable def code237 : Code := match Tryz.f237.body with | some c => c | none => .skip
theorem fi237 : C.fids 237 = true := by kernel_rfl
theorem bo237 : Tryz.f237.body = some code237 := rfl
theorem pr237 : C.prim 237 = none := rfl
theorem fu237 : C.funcs 237 = some Tryz.f237 := Tryz.func237
theorem op237 {a : List V} {H : List Ob} {R : V → List Ob → Prop} : Ret C 237 a H R ↔ WP C 237 code237 ⟨initRegs a, 0, H⟩ (finQ C Tryz.f237 H R) := Ret_fn pr237 fi237 fu237 bo237
@[simp] theorem locs237 : C.locs 237 = [1, 2, 3] := by kernel_rfl
noncomputable def code239 : Code := match Tryz.f239.body with | some c => c | none => .skip
theorem fi239 : C.fids 239 = true := by kernel_rfl
theorem bo239 : Tryz.f239.body = some code239 := rfl
theorem pr239 : C.prim 239 = none := rfl
theorem fu239 : C.funcs 239 = some Tryz.f239 := Tryz.func239
theorem op239 {a : List V} {H : List Ob} {R : V → List Ob → Prop} : Ret C 239 a H R ↔ WP C 239 code239 ⟨initRegs a, 0, H⟩ (finQ C Tryz.f239 H R) := Ret_fn pr239 fi239 fu239 bo239
@[simp] theorem locs239 : C.locs 239 = [] := by kernel_rfl
noncomputable def code240 : Code := match Tryz.f240.body with | some c => c | none => .skip
theorem fi240 : C.fids 240 = true := by kernel_rfl
theorem bo240 : Tryz.f240.body = some code240 := rfl
theorem pr240 : C.prim 240 = none := rfl
theorem fu240 : C.funcs 240 = some Tryz.f240 := Tryz.func240
theorem op240 {a : List V} {H : List Ob} {R : V → List Ob → Prop} : Ret C 240 a H R ↔ WP C 240 code240 ⟨initRegs a, 0, H⟩ (finQ C Tryz.f240 H R) := Ret_fn pr240 fi240 fu240 bo240
@[simp] theorem locs240 : C.locs 240 = [2, 3] := by kernel_rfl
noncomputable def code245 : Code := match Tryz.f245.body with | some c => c | none => .skip
theorem fi245 : C.fids 245 = true := by kernel_rfl
theorem bo245 : Tryz.f245.body = some code245 := rfl
theorem pr245 : C.prim 245 = none := rfl
theorem fu245 : C.funcs 245 = some Tryz.f245 := Tryz.func245
theorem op245 {a : List V} {H : List Ob} {R : V → List Ob → Prop} : Ret C 245 a H R ↔ WP C 245 code245 ⟨initRegs a, 0, H⟩ (finQ C Tryz.f245 H R) := Ret_fn pr245 fi245 fu245 bo245
@[simp] theorem locs245 : C.locs 245 = [] := by kernel_rfl
@[simp] theorem locs246 : C.locs 246 = [] := by kernel_rfl
noncomputable def code247 : Code := match Tryz.f247.body with | some c => c | none => .skip
theorem fi247 : C.fids 247 = true := by kernel_rfl
theorem bo247 : Tryz.f247.body = some code247 := rfl
theorem pr247 : C.prim 247 = none := rfl
theorem fu247 : C.funcs 247 = some Tryz.f247 := Tryz.func247
theorem op247 {a : List V} {H : List Ob} {R : V → List Ob → Prop} : Ret C 247 a H R ↔ WP C 247 code247 ⟨initRegs a, 0, H⟩ (finQ C Tryz.f247 H R) := Ret_fn pr247 fi247 fu247 bo247
@[simp] theorem locs247 : C.locs 247 = [] := by kernel_rfl
noncomputable def code248 : Code := match Tryz.f248.body with | some c => c | none => .skip
theorem fi248 : C.fids 248 = true := by kernel_rfl
theorem bo248 : Tryz.f248.body = some code248 := rfl
theorem pr248 : C.prim 248 = none := rfl
theorem fu248 : C.funcs 248 = some Tryz.f248 := Tryz.func248
theorem op248 {a : List V} {H : List Ob} {R : V → List Ob → Prop} : Ret C 248 a H R ↔ WP C 248 code248 ⟨initRegs a, 0, H⟩ (finQ C Tryz.f248 H R) := Ret_fn pr248 fi248 fu248 bo248
@[simp] theorem locs248 : C.locs 248 = [] := by kernel_rfl
noncomputable def code249 : Code := match Tryz.f249.body with | some c => c | none => .skip
theorem fi249 : C.fids 249 = true := by kernel_rfl
theorem bo249 : Tryz.f249.body = some code249 := rfl
theorem pr249 : C.prim 249 = none := rfl
theorem fu249 : C.funcs 249 = some Tryz.f249 := Tryz.func249
theorem op249 {a : List V} {H : List Ob} {R : V → List Ob → Prop} : Ret C 249 a H R ↔ WP C 249 code249 ⟨initRegs a, 0, H⟩ (finQ C Tryz.f249 H R) := Ret_fn pr249 fi249 fu249 bo249
@[simp] theorem locs249 : C.locs 249 = [] := by kernel_rfl
noncomputable def code250 : Code := match Tryz.f250.body with | some c => c | none => .skip
theorem fi250 : C.fids 250 = true := by kernel_rfl
theorem bo250 : Tryz.f250.body = some code250 := rfl
theorem pr250 : C.prim 250 = none := rfl
theorem fu250 : C.funcs 250 = some Tryz.f250 := Tryz.func250
theorem op250 {a : List V} {H : List Ob} {R : V → List Ob → Prop} : Ret C 250 a H R ↔ WP C 250 code250 ⟨initRegs a, 0, H⟩ (finQ C Tryz.f250 H R) := Ret_fn pr250 fi250 fu250 bo250
@[simp] theorem locs250 : C.locs 250 = [] := by kernel_rfl
noncomputable def code251 : Code := match Tryz.f251.body with | some c => c | none => .skip
theorem fi251 : C.fids 251 = true := by kernel_rfl
theorem bo251 : Tryz.f251.body = some code251 := rfl
theorem pr251 : C.prim 251 = none := rfl
theorem fu251 : C.funcs 251 = some Tryz.f251 := Tryz.func251
theorem op251 {a : List V} {H : List Ob} {R : V → List Ob → Prop} : Ret C 251 a H R ↔ WP C 251 code251 ⟨initRegs a, 0, H⟩ (finQ C Tryz.f251 H R) := Ret_fn pr251 fi251 fu251 bo251
@[simp] theorem locs251 : C.locs 251 = [2] := by kernel_rfl
noncomputable def code253 : Code := match Tryz.f253.body with | some c => c | none => .skip
theorem fi253 : C.fids 253 = true := by kernel_rfl
theorem bo253 : Tryz.f253.body = some code253 := rfl
theorem pr253 : C.prim 253 = none := rfl
theorem fu253 : C.funcs 253 = some Tryz.f253 := Tryz.func253
theorem op253 {a : List V} {H : List Ob} {R : V → List Ob → Prop} : Ret C 253 a H R ↔ WP C 253 code253 ⟨initRegs a, 0, H⟩ (finQ C Tryz.f253 H R) := Ret_fn pr253 fi253 fu253 bo253
@[simp] theorem locs253 : C.locs 253 = [] := by kernel_rfl
noncomputable def code254 : Code := match Tryz.f254.body with | some c => c | none => .skip
theorem fi254 : C.fids 254 = true := by kernel_rfl
theorem bo254 : Tryz.f254.body = some code254 := rfl
theorem pr254 : C.prim 254 = none := rfl
theorem fu254 : C.funcs 254 = some Tryz.f254 := Tryz.func254
theorem op254 {a : List V} {H : List Ob} {R : V → List Ob → Prop} : Ret C 254 a H R ↔ WP C 254 code254 ⟨initRegs a, 0, H⟩ (finQ C Tryz.f254 H R) := Ret_fn pr254 fi254 fu254 bo254
@[simp] theorem locs254 : C.locs 254 = [] := by kernel_rfl
noncomputable def code255 : Code := match Tryz.f255.body with | some c => c | none => .skip
theorem fi255 : C.fids 255 = true := by kernel_rfl
theorem bo255 : Tryz.f255.body = some code255 := rfl
theorem pr255 : C.prim 255 = none := rfl
theorem fu255 : C.funcs 255 = some Tryz.f255 := Tryz.func255
theorem op255 {a : List V} {H : List Ob} {R : V → List Ob → Prop} : Ret C 255 a H R ↔ WP C 255 code255 ⟨initRegs a, 0, H⟩ (finQ C Tryz.f255 H R) := Ret_fn pr255 fi255 fu255 bo255
@[simp] theorem locs255 : C.locs 255 = [] := by kernel_rfl
noncomputable def code256 : Code := match Tryz.f256.body with | some c => c | none => .skip
theorem fi256 : C.fids 256 = true := by kernel_rfl
theorem bo256 : Tryz.f256.body = some code256 := rfl
theorem pr256 : C.prim 256 = none := rfl
theorem fu256 : C.funcs 256 = some Tryz.f256 := Tryz.func256
theorem op256 {a : List V} {H : List Ob} {R : V → List Ob → Prop} : Ret C 256 a H R ↔ WP C 256 code256 ⟨initRegs a, 0, H⟩ (finQ C Tryz.f256 H R) := Ret_fn pr256 fi256 fu256 bo256
@[simp] theorem locs256 : C.locs 256 = [] := by kernel_rfl
@[simp] theorem locs257 : C.locs 257 = [] := by kernel_rfl
noncomputable def code258 : Code := match Tryz.f258.body with | some c => c | none => .skip
theorem fi258 : C.fids 258 = true := by kernel_rfl
theorem bo258 : Tryz.f258.body = some code258 := rfl
theorem pr258 : C.prim 258 = none := rfl
theorem fu258 : C.funcs 258 = some Tryz.f258 := Tryz.func258
theorem op258 {a : List V} {H : List Ob} {R : V → List Ob → Prop} : Ret C 258 a H R ↔ WP C 258 code258 ⟨initRegs a, 0, H⟩ (finQ C Tryz.f258 H R) := Ret_fn pr258 fi258 fu258 bo258
@[simp] theorem locs258 : C.locs 258 = [] := by kernel_rfl
noncomputable def code259 : Code := match Tryz.f259.body with | some c => c | none => .skip
theorem fi259 : C.fids 259 = true := by kernel_rfl
theorem bo259 : Tryz.f259.body = some code259 := rfl
theorem pr259 : C.prim 259 = none := rfl
theorem fu259 : C.funcs 259 = some Tryz.f259 := Tryz.func259
theorem op259 {a : List V} {H : List Ob} {R : V → List Ob → Prop} : Ret C 259 a H R ↔ WP C 259 code259 ⟨initRegs a, 0, H⟩ (finQ C Tryz.f259 H R) := Ret_fn pr259 fi259 fu259 bo259
@[simp] theorem locs259 : C.locs 259 = [2] := by kernel_rfl
noncomputable def code260 : Code := match Tryz.f260.body with | some c => c | none => .skip
theorem fi260 : C.fids 260 = true := by kernel_rfl
theorem bo260 : Tryz.f260.body = some code260 := rfl
theorem pr260 : C.prim 260 = none := rfl
theorem fu260 : C.funcs 260 = some Tryz.f260 := Tryz.func260
theorem op260 {a : List V} {H : List Ob} {R : V → List Ob → Prop} : Ret C 260 a H R ↔ WP C 260 code260 ⟨initRegs a, 0, H⟩ (finQ C Tryz.f260 H R) := Ret_fn pr260 fi260 fu260 bo260
@[simp] theorem locs260 : C.locs 260 = [] := by kernel_rfl
noncomputable def code261 : Code := match Tryz.f261.body with | some c => c | none => .skip
theorem fi261 : C.fids 261 = true := by kernel_rfl
theorem bo261 : Tryz.f261.body = some code261 := rfl
theorem pr261 : C.prim 261 = none := rfl
theorem fu261 : C.funcs 261 = some Tryz.f261 := Tryz.func261
theorem op261 {a : List V} {H : List Ob} {R : V → List Ob → Prop} : Ret C 261 a H R ↔ WP C 261 code261 ⟨initRegs a, 0, H⟩ (finQ C Tryz.f261 H R) := Ret_fn pr261 fi261 fu261 bo261
@[simp] theorem locs261 : C.locs 261 = [] := by kernel_rfl
@[simp] theorem locs271 : C.locs 271 = [] := by kernel_rfl
@[simp] theorem locs280 : C.locs 280 = [2] := by kernel_rfl
@[simp] theorem locs281 : C.locs 281 = [2, 4, 5] := by kernel_rfl
noncomputable def code282 : Code := match Tryz.f282.body with | some c => c | none => .skip
theorem fi282 : C.fids 282 = true := by kernel_rfl
theorem bo282 : Tryz.f282.body = some code282 := rfl
theorem pr282 : C.prim 282 = none := rfl
theorem fu282 : C.funcs 282 = some Tryz.f282 := Tryz.func282
theorem op282 {a : List V} {H : List Ob} {R : V → List Ob → Prop} : Ret C 282 a H R ↔ WP C 282 code282 ⟨initRegs a, 0, H⟩ (finQ C Tryz.f282 H R) := Ret_fn pr282 fi282 fu282 bo282
@[simp] theorem locs282 : C.locs 282 = [1, 2] := by kernel_rfl
@[simp] theorem locs283 : C.locs 283 = [] := by kernel_rfl
@[simp] theorem locs284 : C.locs 284 = [] := by kernel_rfl
noncomputable def code285 : Code := match Tryz.f285.body with | some c => c | none => .skip
theorem fi285 : C.fids 285 = true := by kernel_rfl
theorem bo285 : Tryz.f285.body = some code285 := rfl
theorem pr285 : C.prim 285 = none := rfl
theorem fu285 : C.funcs 285 = some Tryz.f285 := Tryz.func285
theorem op285 {a : List V} {H : List Ob} {R : V → List Ob → Prop} : Ret C 285 a H R ↔ WP C 285 code285 ⟨initRegs a, 0, H⟩ (finQ C Tryz.f285 H R) := Ret_fn pr285 fi285 fu285 bo285
@[simp] theorem locs285 : C.locs 285 = [] := by kernel_rfl
noncomputable def code286 : Code := match Tryz.f286.body with | some c => c | none => .skip
theorem fi286 : C.fids 286 = true := by kernel_rfl
theorem bo286 : Tryz.f286.body = some code286 := rfl
theorem pr286 : C.prim 286 = none := rfl
theorem fu286 : C.funcs 286 = some Tryz.f286 := Tryz.func286
theorem op286 {a : List V} {H : List Ob} {R : V → List Ob → Prop} : Ret C 286 a H R ↔ WP C 286 code286 ⟨initRegs a, 0, H⟩ (finQ C Tryz.f286 H R) := Ret_fn pr286 fi286 fu286 bo286
@[simp] theorem locs286 : C.locs 286 = [2, 3, 4, 5] := by kernel_rfl
noncomputable def code299 : Code := match Tryz.f299.body with | some c => c | none => .skip
theorem fi299 : C.fids 299 = true := by kernel_rfl
theorem bo299 : Tryz.f299.body = some code299 := rfl
theorem pr299 : C.prim 299 = none := rfl
theorem fu299 : C.funcs 299 = some Tryz.f299 := Tryz.func299
theorem op299 {a : List V} {H : List Ob} {R : V → List Ob → Prop} : Ret C 299 a H R ↔ WP C 299 code299 ⟨initRegs a, 0, H⟩ (finQ C Tryz.f299 H R) := Ret_fn pr299 fi299 fu299 bo299
@[simp] theorem locs299 : C.locs 299 = [] := by kernel_rfl
@[simp] theorem locs314 : C.locs 314 = [] := by kernel_rfl
noncomputable def code315 : Code := match Tryz.f315.body with | some c => c | none => .skip
theorem fi315 : C.fids 315 = true := by kernel_rfl
theorem bo315 : Tryz.f315.body = some code315 := rfl
theorem pr315 : C.prim 315 = none := rfl
theorem fu315 : C.funcs 315 = some Tryz.f315 := Tryz.func315
theorem op315 {a : List V} {H : List Ob} {R : V → List Ob → Prop} : Ret C 315 a H R ↔ WP C 315 code315 ⟨initRegs a, 0, H⟩ (finQ C Tryz.f315 H R) := Ret_fn pr315 fi315 fu315 bo315
@[simp] theorem locs315 : C.locs 315 = [] := by kernel_rfl
noncomputable def code316 : Code := match Tryz.f316.body with | some c => c | none => .skip
theorem fi316 : C.fids 316 = true := by kernel_rfl
theorem bo316 : Tryz.f316.body = some code316 := rfl
theorem pr316 : C.prim 316 = none := rfl
theorem fu316 : C.funcs 316 = some Tryz.f316 := Tryz.func316
theorem op316 {a : List V} {H : List Ob} {R : V → List Ob → Prop} : Ret C 316 a H R ↔ WP C 316 code316 ⟨initRegs a, 0, H⟩ (finQ C Tryz.f316 H R) := Ret_fn pr316 fi316 fu316 bo316
@[simp] theorem locs316 : C.locs 316 = [] := by kernel_rfl
noncomputable def code319 : Code := match Tryz.f319.body with | some c => c | none => .skip
theorem fi319 : C.fids 319 = true := by kernel_rfl
theorem bo319 : Tryz.f319.body = some code319 := rfl
theorem pr319 : C.prim 319 = none := rfl
theorem fu319 : C.funcs 319 = some Tryz.f319 := Tryz.func319
theorem op319 {a : List V} {H : List Ob} {R : V → List Ob → Prop} : Ret C 319 a H R ↔ WP C 319 code319 ⟨initRegs a, 0, H⟩ (finQ C Tryz.f319 H R) := Ret_fn pr319 fi319 fu319 bo319
@[simp] theorem locs319 : C.locs 319 = [] := by kernel_rfl
noncomputable def code320 : Code := match Tryz.f320.body with | some c => c | none => .skip
theorem fi320 : C.fids 320 = true := by kernel_rfl
theorem bo320 : Tryz.f320.body = some code320 := rfl
theorem pr320 : C.prim 320 = none := rfl
theorem fu320 : C.funcs 320 = some Tryz.f320 := Tryz.func320
theorem op320 {a : List V} {H : List Ob} {R : V → List Ob → Prop} : Ret C 320 a H R ↔ WP C 320 code320 ⟨initRegs a, 0, H⟩ (finQ C Tryz.f320 H R) := Ret_fn pr320 fi320 fu320 bo320
@[simp] theorem locs320 : C.locs 320 = [] := by kernel_rfl
noncomputable def code321 : Code := match Tryz.f321.body with | some c => c | none => .skip
theorem fi321 : C.fids 321 = true := by kernel_rfl
theorem bo321 : Tryz.f321.body = some code321 := rfl
theorem pr321 : C.prim 321 = none := rfl
theorem fu321 : C.funcs 321 = some Tryz.f321 := Tryz.func321
theorem op321 {a : List V} {H : List Ob} {R : V → List Ob → Prop} : Ret C 321 a H R ↔ WP C 321 code321 ⟨initRegs a, 0, H⟩ (finQ C Tryz.f321 H R) := Ret_fn pr321 fi321 fu321 bo321
@[simp] theorem locs321 : C.locs 321 = [] := by kernel_rfl
noncomputable def code322 : Code := match Tryz.f322.body with | some c => c | none => .skip
theorem fi322 : C.fids 322 = true := by kernel_rfl
theorem bo322 : Tryz.f322.body = some code322 := rfl
theorem pr322 : C.prim 322 = none := rfl
theorem fu322 : C.funcs 322 = some Tryz.f322 := Tryz.func322
theorem op322 {a : List V} {H : List Ob} {R : V → List Ob → Prop} : Ret C 322 a H R ↔ WP C 322 code322 ⟨initRegs a, 0, H⟩ (finQ C Tryz.f322 H R) := Ret_fn pr322 fi322 fu322 bo322
@[simp] theorem locs322 : C.locs 322 = [1] := by kernel_rfl
noncomputable def code323 : Code := match Tryz.f323.body with | some c => c | none => .skip
theorem fi323 : C.fids 323 = true := by kernel_rfl
theorem bo323 : Tryz.f323.body = some code323 := rfl
theorem pr323 : C.prim 323 = none := rfl
theorem fu323 : C.funcs 323 = some Tryz.f323 := Tryz.func323
theorem op323 {a : List V} {H : List Ob} {R : V → List Ob → Prop} : Ret C 323 a H R ↔ WP C 323 code323 ⟨initRegs a, 0, H⟩ (finQ C Tryz.f323 H R) := Ret_fn pr323 fi323 fu323 bo323
@[simp] theorem locs323 : C.locs 323 = [1] := by kernel_rfl
@[simp] theorem locs324 : C.locs 324 = [] := by kernel_rfl
@[simp] theorem locs325 : C.locs 325 = [] := by kernel_rfl
noncomputable def code326 : Code := match Tryz.f326.body with | some c => c | none => .skip
theorem fi326 : C.fids 326 = true := by kernel_rfl
theorem bo326 : Tryz.f326.body = some code326 := rfl
theorem pr326 : C.prim 326 = none := rfl
theorem fu326 : C.funcs 326 = some Tryz.f326 := Tryz.func326
theorem op326 {a : List V} {H : List Ob} {R : V → List Ob → Prop} : Ret C 326 a H R ↔ WP C 326 code326 ⟨initRegs a, 0, H⟩ (finQ C Tryz.f326 H R) := Ret_fn pr326 fi326 fu326 bo326
@[simp] theorem locs326 : C.locs 326 = [2] := by kernel_rfl
noncomputable def code327 : Code := match Tryz.f327.body with | some c => c | none => .skip
theorem fi327 : C.fids 327 = true := by kernel_rfl
theorem bo327 : Tryz.f327.body = some code327 := rfl
theorem pr327 : C.prim 327 = none := rfl
theorem fu327 : C.funcs 327 = some Tryz.f327 := Tryz.func327
theorem op327 {a : List V} {H : List Ob} {R : V → List Ob → Prop} : Ret C 327 a H R ↔ WP C 327 code327 ⟨initRegs a, 0, H⟩ (finQ C Tryz.f327 H R) := Ret_fn pr327 fi327 fu327 bo327
@[simp] theorem locs327 : C.locs 327 = [] := by kernel_rfl
noncomputable def code328 : Code := match Tryz.f328.body with | some c => c | none => .skip
theorem fi328 : C.fids 328 = true := by kernel_rfl
theorem bo328 : Tryz.f328.body = some code328 := rfl
theorem pr328 : C.prim 328 = none := rfl
theorem fu328 : C.funcs 328 = some Tryz.f328 := Tryz.func328
theorem op328 {a : List V} {H : List Ob} {R : V → List Ob → Prop} : Ret C 328 a H R ↔ WP C 328 code328 ⟨initRegs a, 0, H⟩ (finQ C Tryz.f328 H R) := Ret_fn pr328 fi328 fu328 bo328
@[simp] theorem locs328 : C.locs 328 = [] := by kernel_rfl
@[simp] theorem locs329 : C.locs 329 = [] := by kernel_rfl
@[simp] theorem locs330 : C.locs 330 = [] := by kernel_rfl
noncomputable def code331 : Code := match Tryz.f331.body with | some c => c | none => .skip
theorem fi331 : C.fids 331 = true := by kernel_rfl
theorem bo331 : Tryz.f331.body = some code331 := rfl
theorem pr331 : C.prim 331 = none := rfl
theorem fu331 : C.funcs 331 = some Tryz.f331 := Tryz.func331
theorem op331 {a : List V} {H : List Ob} {R : V → List Ob → Prop} : Ret C 331 a H R ↔ WP C 331 code331 ⟨initRegs a, 0, H⟩ (finQ C Tryz.f331 H R) := Ret_fn pr331 fi331 fu331 bo331
@[simp] theorem locs331 : C.locs 331 = [] := by kernel_rfl
noncomputable def code332 : Code := match Tryz.f332.body with | some c => c | none => .skip
theorem fi332 : C.fids 332 = true := by kernel_rfl
theorem bo332 : Tryz.f332.body = some code332 := rfl
theorem pr332 : C.prim 332 = none := rfl
theorem fu332 : C.funcs 332 = some Tryz.f332 := Tryz.func332
theorem op332 {a : List V} {H : List Ob} {R : V → List Ob → Prop} : Ret C 332 a H R ↔ WP C 332 code332 ⟨initRegs a, 0, H⟩ (finQ C Tryz.f332 H R) := Ret_fn pr332 fi332 fu332 bo332
@[simp] theorem locs332 : C.locs 332 = [2] := by kernel_rfl
@[simp] theorem locs334 : C.locs 334 = [] := by kernel_rfl
noncomputable def code335 : Code := match Tryz.f335.body with | some c => c | none => .skip
theorem fi335 : C.fids 335 = true := by kernel_rfl
theorem bo335 : Tryz.f335.body = some code335 := rfl
theorem pr335 : C.prim 335 = none := rfl
theorem fu335 : C.funcs 335 = some Tryz.f335 := Tryz.func335
theorem op335 {a : List V} {H : List Ob} {R : V → List Ob → Prop} : Ret C 335 a H R ↔ WP C 335 code335 ⟨initRegs a, 0, H⟩ (finQ C Tryz.f335 H R) := Ret_fn pr335 fi335 fu335 bo335
@[simp] theorem locs335 : C.locs 335 = [] := by kernel_rfl
noncomputable def code336 : Code := match Tryz.f336.body with | some c => c | none => .skip
theorem fi336 : C.fids 336 = true := by kernel_rfl
theorem bo336 : Tryz.f336.body = some code336 := rfl
theorem pr336 : C.prim 336 = none := rfl
theorem fu336 : C.funcs 336 = some Tryz.f336 := Tryz.func336
theorem op336 {a : List V} {H : List Ob} {R : V → List Ob → Prop} : Ret C 336 a H R ↔ WP C 336 code336 ⟨initRegs a, 0, H⟩ (finQ C Tryz.f336 H R) := Ret_fn pr336 fi336 fu336 bo336
@[simp] theorem locs336 : C.locs 336 = [] := by kernel_rfl
noncomputable def code340 : Code := match Tryz.f340.body with | some c => c | none => .skip
theorem fi340 : C.fids 340 = true := by kernel_rfl
theorem bo340 : Tryz.f340.body = some code340 := rfl
theorem pr340 : C.prim 340 = none := rfl
theorem fu340 : C.funcs 340 = some Tryz.f340 := Tryz.func340
theorem op340 {a : List V} {H : List Ob} {R : V → List Ob → Prop} : Ret C 340 a H R ↔ WP C 340 code340 ⟨initRegs a, 0, H⟩ (finQ C Tryz.f340 H R) := Ret_fn pr340 fi340 fu340 bo340
@[simp] theorem locs340 : C.locs 340 = [] := by kernel_rfl
noncomputable def code342 : Code := match Tryz.f342.body with | some c => c | none => .skip
theorem fi342 : C.fids 342 = true := by kernel_rfl
theorem bo342 : Tryz.f342.body = some code342 := rfl
theorem pr342 : C.prim 342 = none := rfl
theorem fu342 : C.funcs 342 = some Tryz.f342 := Tryz.func342
theorem op342 {a : List V} {H : List Ob} {R : V → List Ob → Prop} : Ret C 342 a H R ↔ WP C 342 code342 ⟨initRegs a, 0, H⟩ (finQ C Tryz.f342 H R) := Ret_fn pr342 fi342 fu342 bo342
@[simp] theorem locs342 : C.locs 342 = [] := by kernel_rfl
noncomputable def code343 : Code := match Tryz.f343.body with | some c => c | none => .skip
theorem fi343 : C.fids 343 = true := by kernel_rfl
theorem bo343 : Tryz.f343.body = some code343 := rfl
theorem pr343 : C.prim 343 = none := rfl
theorem fu343 : C.funcs 343 = some Tryz.f343 := Tryz.func343
theorem op343 {a : List V} {H : List Ob} {R : V → List Ob → Prop} : Ret C 343 a H R ↔ WP C 343 code343 ⟨initRegs a, 0, H⟩ (finQ C Tryz.f343 H R) := Ret_fn pr343 fi343 fu343 bo343
@[simp] theorem locs343 : C.locs 343 = [] := by kernel_rfl
noncomputable def code344 : Code := match Tryz.f344.body with | some c => c | none => .skip
theorem fi344 : C.fids 344 = true := by kernel_rfl
theorem bo344 : Tryz.f344.body = some code344 := rfl
theorem pr344 : C.prim 344 = none := rfl
theorem fu344 : C.funcs 344 = some Tryz.f344 := Tryz.func344
theorem op344 {a : List V} {H : List Ob} {R : V → List Ob → Prop} : Ret C 344 a H R ↔ WP C 344 code344 ⟨initRegs a, 0, H⟩ (finQ C Tryz.f344 H R) := Ret_fn pr344 fi344 fu344 bo344
@[simp] theorem locs344 : C.locs 344 = [] := by kernel_rfl
noncomputable def code345 : Code := match Tryz.f345.body with | some c => c | none => .skip
theorem fi345 : C.fids 345 = true := by kernel_rfl
theorem bo345 : Tryz.f345.body = some code345 := rfl
theorem pr345 : C.prim 345 = none := rfl
theorem fu345 : C.funcs 345 = some Tryz.f345 := Tryz.func345
theorem op345 {a : List V} {H : List Ob} {R : V → List Ob → Prop} : Ret C 345 a H R ↔ WP C 345 code345 ⟨initRegs a, 0, H⟩ (finQ C Tryz.f345 H R) := Ret_fn pr345 fi345 fu345 bo345
@[simp] theorem locs345 : C.locs 345 = [] := by kernel_rfl
noncomputable def code346 : Code := match Tryz.f346.body with | some c => c | none => .skip
theorem fi346 : C.fids 346 = true := by kernel_rfl
theorem bo346 : Tryz.f346.body = some code346 := rfl
theorem pr346 : C.prim 346 = none := rfl
theorem fu346 : C.funcs 346 = some Tryz.f346 := Tryz.func346
theorem op346 {a : List V} {H : List Ob} {R : V → List Ob → Prop} : Ret C 346 a H R ↔ WP C 346 code346 ⟨initRegs a, 0, H⟩ (finQ C Tryz.f346 H R) := Ret_fn pr346 fi346 fu346 bo346
@[simp] theorem locs346 : C.locs 346 = [] := by kernel_rfl
noncomputable def code360 : Code := match Tryz.f360.body with | some c => c | none => .skip
theorem fi360 : C.fids 360 = true := by kernel_rfl
theorem bo360 : Tryz.f360.body = some code360 := rfl
theorem pr360 : C.prim 360 = none := rfl
theorem fu360 : C.funcs 360 = some Tryz.f360 := Tryz.func360
theorem op360 {a : List V} {H : List Ob} {R : V → List Ob → Prop} : Ret C 360 a H R ↔ WP C 360 code360 ⟨initRegs a, 0, H⟩ (finQ C Tryz.f360 H R) := Ret_fn pr360 fi360 fu360 bo360
@[simp] theorem locs360 : C.locs 360 = [1, 2, 3] := by kernel_rfl
noncomputable def code361 : Code := match Tryz.f361.body with | some c => c | none => .skip
theorem fi361 : C.fids 361 = true := by kernel_rfl
theorem bo361 : Tryz.f361.body = some code361 := rfl
theorem pr361 : C.prim 361 = none := rfl
theorem fu361 : C.funcs 361 = some Tryz.f361 := Tryz.func361
theorem op361 {a : List V} {H : List Ob} {R : V → List Ob → Prop} : Ret C 361 a H R ↔ WP C 361 code361 ⟨initRegs a, 0, H⟩ (finQ C Tryz.f361 H R) := Ret_fn pr361 fi361 fu361 bo361
@[simp] theorem locs361 : C.locs 361 = [5] := by kernel_rfl
@[simp] theorem locs362 : C.locs 362 = [2] := by kernel_rfl
noncomputable def code391 : Code := match Tryz.f391.body with | some c => c | none => .skip
theorem fi391 : C.fids 391 = true := by kernel_rfl
theorem bo391 : Tryz.f391.body = some code391 := rfl
theorem pr391 : C.prim 391 = none := rfl
theorem fu391 : C.funcs 391 = some Tryz.f391 := Tryz.func391
theorem op391 {a : List V} {H : List Ob} {R : V → List Ob → Prop} : Ret C 391 a H R ↔ WP C 391 code391 ⟨initRegs a, 0, H⟩ (finQ C Tryz.f391 H R) := Ret_fn pr391 fi391 fu391 bo391
@[simp] theorem locs391 : C.locs 391 = [] := by kernel_rfl
noncomputable def code392 : Code := match Tryz.f392.body with | some c => c | none => .skip
theorem fi392 : C.fids 392 = true := by kernel_rfl
theorem bo392 : Tryz.f392.body = some code392 := rfl
theorem pr392 : C.prim 392 = none := rfl
theorem fu392 : C.funcs 392 = some Tryz.f392 := Tryz.func392
theorem op392 {a : List V} {H : List Ob} {R : V → List Ob → Prop} : Ret C 392 a H R ↔ WP C 392 code392 ⟨initRegs a, 0, H⟩ (finQ C Tryz.f392 H R) := Ret_fn pr392 fi392 fu392 bo392
@[simp] theorem locs392 : C.locs 392 = [] := by kernel_rfl
noncomputable def code393 : Code := match Tryz.f393.body with | some c => c | none => .skip
theorem fi393 : C.fids 393 = true := by kernel_rfl
theorem bo393 : Tryz.f393.body = some code393 := rfl
theorem pr393 : C.prim 393 = none := rfl
theorem fu393 : C.funcs 393 = some Tryz.f393 := Tryz.func393
theorem op393 {a : List V} {H : List Ob} {R : V → List Ob → Prop} : Ret C 393 a H R ↔ WP C 393 code393 ⟨initRegs a, 0, H⟩ (finQ C Tryz.f393 H R) := Ret_fn pr393 fi393 fu393 bo393
@[simp] theorem locs393 : C.locs 393 = [] := by kernel_rfl
@[simp] theorem locs394 : C.locs 394 = [] := by kernel_rfl
@[simp] theorem locs395 : C.locs 395 = [] := by kernel_rfl
@[simp] theorem locs396 : C.locs 396 = [] := by kernel_rfl
@[simp] theorem locs413 : C.locs 413 = [] := by kernel_rfl
@[simp] theorem locs426 : C.locs 426 = [9] := by kernel_rfl
@[simp] theorem locs428 : C.locs 428 = [] := by kernel_rfl
@[simp] theorem locs440 : C.locs 440 = [] := by kernel_rfl
@[simp] theorem locs444 : C.locs 444 = [] := by kernel_rfl
@[simp] theorem locs445 : C.locs 445 = [] := by kernel_rfl
@[simp] theorem ord3_16 : C.ord 3 16 = some ⟨[0, 1, 2, 3, 4], [], [], [(0, 9), (1, 3)], [], []⟩ := by kernel_rfl
@[simp] theorem ord5_10 : C.ord 5 10 = some ⟨[0, 1, 2, 3, 4], [], [], [(0, 5), (1, 1)], [], []⟩ := by kernel_rfl
@[simp] theorem ord7_14 : C.ord 7 14 = some ⟨[0, 1, 2, 3, 4], [], [], [(0, 7), (1, 2)], [], []⟩ := by kernel_rfl
@[simp] theorem ord10_14 : C.ord 10 14 = some ⟨[0, 1, 2, 3, 4], [], [], [(0, 7), (1, 2)], [], []⟩ := by kernel_rfl
@[simp] theorem ord11_8 : C.ord 11 8 = some ⟨[0, 2, 5, 1, 3, 4, 6], [], [], [(0, 2), (2, 3), (6, 6)], [], []⟩ := by kernel_rfl
@[simp] theorem ord11_14 : C.ord 11 14 = some ⟨[0, 1, 2, 3, 4], [], [], [(0, 7), (1, 2)], [], []⟩ := by kernel_rfl
@[simp] theorem ord11_16 : C.ord 11 16 = some ⟨[0, 1, 2, 3, 4], [], [], [(0, 8), (1, 3)], [], []⟩ := by kernel_rfl
@[simp] theorem ord11_31 : C.ord 11 31 = some ⟨[0, 2, 5, 1, 3, 4, 6], [], [], [(0, 2), (2, 3), (6, 13)], [], []⟩ := by kernel_rfl
@[simp] theorem ord23_6 : C.ord 23 6 = none := by kernel_rfl
@[simp] theorem ord31_7 : C.ord 31 7 = some ⟨[0, 1, 2, 3, 4, 5, 6, 7, 8, 9, 10, 11, 12, 13, 14, 15, 16, 17, 18, 19, 20, 22, 23, 21, 24, 25, 26, 27], [], [], [(0, 4), (5, 1), (6, 4), (15, 1), (23, 4)], [], []⟩ := by kernel_rfl
@[simp] theorem ord31_13 : C.ord 31 13 = some ⟨[0, 1, 2, 3, 4, 5, 6, 7, 8, 9, 10], [], [], [(4, 1)], [], []⟩ := by kernel_rfl
@[simp] theorem ord33_6 : C.ord 33 6 = some ⟨[0, 1, 2, 3, 4, 5, 6, 7, 8, 9, 10, 11, 12, 13, 14, 15, 17, 18, 16, 19, 20, 21, 22], [], [], [(2, 4), (18, 4)], [], []⟩ := by kernel_rfl
@[simp] theorem ord47_6 : C.ord 47 6 = none := by kernel_rfl
@[simp] theorem ord48_4 : C.ord 48 4 = none := by kernel_rfl
@[simp] theorem ord53_5 : C.ord 53 5 = some ⟨[0, 1, 2, 3, 4], [], [], [(0, 2)], [], []⟩ := by kernel_rfl
@[simp] theorem ord56_6 : C.ord 56 6 = none := by kernel_rfl
@[simp] theorem ord98_4 : C.ord 98 4 = some ⟨[0, 1, 2, 3, 4, 5, 6, 7, 8, 9, 10, 11, 12, 13, 14, 15, 16, 17], [14], [9], [], [], []⟩ := by kernel_rfl
@[simp] theorem ord104_6 : C.ord 104 6 = none := by kernel_rfl
@[simp] theorem ord109_6 : C.ord 109 6 = none := by kernel_rfl
@[simp] theorem ord121_2 : C.ord 121 2 = none := by kernel_rfl
@[simp] theorem ord121_7 : C.ord 121 7 = none := by kernel_rfl
@[simp] theorem ord122_5 : C.ord 122 5 = some ⟨[0, 1, 2, 3, 4, 5, 6, 7, 8, 9, 10, 11, 12, 13, 14, 15, 16], [14], [6], [], [], []⟩ := by kernel_rfl
@[simp] theorem ord130_6 : C.ord 130 6 = none := by kernel_rfl
@[simp] theorem ord131_6 : C.ord 131 6 = none := by kernel_rfl
@[simp] theorem ord138_10 : C.ord 138 10 = some ⟨[0, 1, 2, 3, 4, 5, 6, 7, 8, 9, 10, 11, 12, 13, 14, 15, 16, 17], [15], [4, 7], [], [], []⟩ := by kernel_rfl
@[simp] theorem ord145_5 : C.ord 145 5 = some ⟨[0, 1, 2, 3, 5, 6, 8, 9, 4, 7, 10, 11, 12, 13], [], [], [(1, 7), (3, 7), (6, 7), (9, 7), (12, 4)], [], []⟩ := by kernel_rfl
@[simp] theorem ord149_8 : C.ord 149 8 = some ⟨[0, 1, 2, 3, 4, 8, 9, 5, 6, 7, 10, 11, 12, 13, 14, 15, 16, 17, 18, 19, 20, 21, 22, 23, 24], [5, 6], [8], [(1, 1), (19, 1)], [], []⟩ := by kernel_rfl
@[simp] theorem ord150_6 : C.ord 150 6 = none := by kernel_rfl
@[simp] theorem ord150_11 : C.ord 150 11 = none := by kernel_rfl
@[simp] theorem ord157_5 : C.ord 157 5 = some ⟨[0, 1, 2, 3, 4, 5, 6, 7, 9, 10, 11, 12, 13, 14, 8, 15, 16, 17, 18, 19, 20], [8, 15], [7, 14], [(1, 3), (3, 1), (10, 1), (20, 3)], [], []⟩ := by kernel_rfl
@[simp] theorem ord161_1 : C.ord 161 1 = some ⟨[0, 1, 2, 3, 4, 5, 6, 7, 8, 9, 10], [5], [3], [], [], []⟩ := by kernel_rfl
@[simp] theorem ord162_5 : C.ord 162 5 = some ⟨[0, 1, 2, 3, 4, 5, 6, 7, 8, 9, 10, 11], [], [], [(1, 3), (3, 5), (5, 5), (11, 3)], [], []⟩ := by kernel_rfl
@[simp] theorem ord168_4 : C.ord 168 4 = none := by kernel_rfl
@[simp] theorem ord178_1 : C.ord 178 1 = some ⟨[0, 1, 2, 3, 4], [], [], [(0, 2)], [], []⟩ := by kernel_rfl
@[simp] theorem ord185_1 : C.ord 185 1 = some ⟨[0, 1, 2, 3, 4, 5], [], [], [(0, 2), (2, 3)], [], []⟩ := by kernel_rfl
@[simp] theorem ord185_3 : C.ord 185 3 = some ⟨[0, 1, 2, 3, 4, 5, 6, 7, 8, 9, 10, 11, 12], [], [], [(1, 3), (5, 2), (7, 3)], [], []⟩ := by kernel_rfl
@[simp] theorem ord187_10 : C.ord 187 10 = some ⟨[0, 1, 2, 3, 4, 5, 6, 7, 8, 9, 10, 11], [7], [4], [], [], []⟩ := by kernel_rfl
@[simp] theorem ord217_4 : C.ord 217 4 = none := by kernel_rfl
@[simp] theorem ord225_4 : C.ord 225 4 = none := by kernel_rfl
@[simp] theorem ord229_4 : C.ord 229 4 = some ⟨[0, 1, 2, 3, 4, 5, 6, 7], [6], [4], [], [], []⟩ := by kernel_rfl
@[simp] theorem ord229_7 : C.ord 229 7 = some ⟨[0, 1, 2, 3, 4, 5, 6, 7], [6], [4], [], [], []⟩ := by kernel_rfl
@[simp] theorem ord230_4 : C.ord 230 4 = some ⟨[0, 1, 2, 3, 4, 5, 6, 7], [6], [4], [], [], []⟩ := by kernel_rfl
@[simp] theorem ord246_6 : C.ord 246 6 = some ⟨[0, 1, 2, 3, 4, 5, 6, 7, 8, 10, 11, 12, 13, 9, 14, 15, 16], [9], [13], [], [], []⟩ := by kernel_rfl
@[simp] theorem ord281_2 : C.ord 281 2 = some ⟨[1, 2, 3, 4, 6, 7, 8, 9, 10, 0, 5, 11, 12, 13], [0, 5], [4, 10], [(2, 5), (7, 5), (13, 5)], [], []⟩ := by kernel_rfl
@[simp] theorem ord282_1 : C.ord 282 1 = some ⟨[0, 1, 3, 4, 2, 5, 6, 7], [], [], [(1, 1), (4, 1), (7, 2)], [], []⟩ := by kernel_rfl
@[simp] theorem ord284_5 : C.ord 284 5 = none := by kernel_rfl
@[simp] theorem ord285_4 : C.ord 285 4 = some ⟨[0, 1, 2, 3, 4, 5, 6, 7], [6], [4], [], [], []⟩ := by kernel_rfl
@[simp] theorem ord286_3 : C.ord 286 3 = some ⟨[0, 1, 2, 3, 4, 5, 6, 7, 8, 9, 10, 11, 13, 14, 12, 15, 16, 17], [], [], [(2, 5), (7, 5), (14, 3)], [], []⟩ := by kernel_rfl
@[simp] theorem ord315_4 : C.ord 315 4 = some ⟨[0, 1, 2, 3, 4, 5, 6, 7, 8, 9, 10, 11, 12, 13, 14, 16, 17, 18, 19, 15, 20, 21, 22, 23], [15], [19], [], [], []⟩ := by kernel_rfl
@[simp] theorem ord334_5 : C.ord 334 5 = none := by kernel_rfl
@[simp] theorem ord335_4 : C.ord 335 4 = some ⟨[0, 1, 2, 3, 4, 5, 6], [5], [3], [], [], []⟩ := by kernel_rfl
@[simp] theorem ord336_1 : C.ord 336 1 = some ⟨[0, 2, 1, 3, 4], [1], [2], [], [], []⟩ := by kernel_rfl
@[simp] theorem ord342_6 : C.ord 342 6 = none := by kernel_rfl
@[simp] theorem ord342_11 : C.ord 342 11 = none := by kernel_rfl
@[simp] theorem ord360_5 : C.ord 360 5 = some ⟨[0, 1, 2, 3, 4, 5, 6, 7, 8, 9, 10, 11], [], [], [(1, 3), (3, 1), (11, 3)], [], []⟩ := by kernel_rfl
end Go.Proofs.Try1
end

section
namespace Go.Proofs.Try1
open Go Go.Lite
set_option linter.unusedSimpArgs false
set_option linter.unusedVariables false

/-- The function counts a datum. -/
def SzFn (f : Nat) (sh : Sh) : Prop := ∀ (H : List Ob) (cs : List V) (u : U) (left : Nat), At H sh cs u → left ≤ 1048576 →
  callW C f [valC sh cs, .int .i64 left] H = some (.int .i64 (if wt u ≤ left then ((left - wt u : Nat) : Int) else -1), H)

set_option maxRecDepth 10000 in
theorem sz_StringS : SzFn 16 (.slice .str) := by
  intro H cs u left h hleft
  simp only [At] at h
  obtain ⟨v, l, rfl, rfl, hlen, hv⟩ := h
  apply Ret.eq
  rw [op16]
  by_cases h0 : (l.length : Int) ≤ left
  · have h0' : ¬ ((left : Int) - l.length < 0) := by omega
    have hw0 : IntKind.i64.wrap ((left : Int) - l.length) = (left : Int) - l.length := wrap_i64 (by omega) (by omega)
    simp [code16, Tryz.f16, valC, hv.len, hw0, h0']
    refine WP_loop (fun k σ => ∃ (i : Nat) (r : Nat → R), i + k = l.length ∧ σ = ⟨r, 0, H⟩ ∧ r 0 = .val v ∧ l.length + wts (l.take i) ≤ left ∧ r 1 = .val (.int .i64 ((left : Int) - l.length - wts (l.take i))) ∧ r 5 = .val (.int .i64 i)) ?_ l.length _ ⟨0, _, by simp, rfl, by simp, by simp [wts]; omega, by simp [wts], by simp⟩
    rintro k σ ⟨i, r, hik, rfl, r0, hle, r1, r5⟩
    cases k with
    | zero =>
      have hi : i = l.length := by omega
      subst hi
      rw [List.take_length] at hle r1
      simp [r0, r1, r5, hv.len, wt, hle]
      omega
    | succ k =>
      have hi : i < l.length := by omega
      obtain ⟨x, hx⟩ : ∃ x, l[i]? = some x := ⟨l[i], by simp [hi]⟩
      obtain ⟨eid, o, own, cells, e1, e2, e3, s, e4, rfl, e5⟩ := hv.idx hx (by decide)
      simp only [Sh.size_str] at e1
      have c0 : cells[o]? = some (.str s) := by simpa using cells_get e4 (j := 0) rfl
      have ld := load1 e2 c0
      have ht := wts_take hx
      simp only [wt] at ht
      have hg := wts_get hx
      simp only [wt] at hg
      have hw : IntKind.i64.wrap ((i : Int) + 1) = ((i + 1 : Nat) : Int) := by rw [wrap_i64 (by omega) (by omega)]; omega
      have hw2 : IntKind.i64.wrap ((left : Int) - l.length - wts (l.take i) - s.length) = (left : Int) - l.length - wts (l.take i) - s.length := wrap_i64 (by have : s.length ≤ maxLen := e5; unfold maxLen at this; omega) (by omega)
      by_cases hb : l.length + wts (l.take (i + 1)) ≤ left
      · have hb' : ¬ ((left : Int) - l.length - wts (l.take i) - s.length < 0) := by omega
        simp [r0, r1, r5, hi, hv.len, e1, ld, hw, hw2, hb']
        exact ⟨k, by omega, i + 1, by omega, hb, by omega, by omega⟩
      · have hb' : (left : Int) - l.length - wts (l.take i) - s.length < 0 := by omega
        have := wts_take_le (l := l) (i := i + 1)
        have hn : ¬ (l.length + wts l ≤ left) := by omega
        simp [r0, r1, r5, hi, hv.len, e1, ld, hw, hw2, hb', wt, hn]
  · have h0' : (left : Int) - l.length < 0 := by omega
    have hw0 : IntKind.i64.wrap ((left : Int) - l.length) = (left : Int) - l.length := wrap_i64 (by have : l.length ≤ maxLen := hlen; unfold maxLen at this; omega) (by omega)
    have hn : ¬ (l.length + wts l ≤ left) := by omega
    simp [code16, Tryz.f16, valC, hv.len, hw0, h0', wt, hn]

set_option maxRecDepth 10000 in
theorem szSlc {f g tS tE : Nat} {zs : List V} {fs : List Sh} {F : Func} (hop : ∀ {a : List V} {H : List Ob} {R : V → List Ob → Prop}, Ret C f a H R ↔ WP C f (ren [(22, tS), (188, tE)] [(155, g)] code52) ⟨initRegs a, 0, H⟩ (finQ C F H R))
    (hF : F.results = #[.tmp 4]) (hS : C.ty tS = ⟨.slice tE, 1, 24, zs⟩) (hE : (C.ty tE).size = (Sh.st fs).size) (hE2 : (C.ty tE).isAgg = true) (hE0 : (C.ty tE).size ≠ 0) (hg : SzFn g (.st fs)) : SzFn f (.slice (.st fs)) := by
  intro H cs u left h hleft
  simp only [At] at h
  obtain ⟨v, l, rfl, rfl, hlen, hv⟩ := h
  apply Ret.eq
  rw [hop]
  by_cases h0 : (l.length : Int) ≤ left
  · have h0' : ¬ ((left : Int) - l.length < 0) := by omega
    have hw0 : IntKind.i64.wrap ((left : Int) - l.length) = (left : Int) - l.length := wrap_i64 (by omega) (by omega)
    simp [code52, Tryz.f52, ren, renO, renP, renX, sub, valC, hS, hv.len, hw0, h0']
    refine WP_loop (fun k σ => ∃ (i : Nat) (r : Nat → R), i + k = l.length ∧ σ = ⟨r, 0, H⟩ ∧ r 0 = .val v ∧ l.length + wts (l.take i) ≤ left ∧ r 1 = .val (.int .i64 ((left : Int) - l.length - wts (l.take i))) ∧ r 5 = .val (.int .i64 i)) ?_ l.length _ ⟨0, _, by simp, rfl, by simp, by simp [wts]; omega, by simp [wts], by simp⟩
    rintro k σ ⟨i, r, hik, rfl, r0, hle, r1, r5⟩
    cases k with
    | zero =>
      have hi : i = l.length := by omega
      subst hi
      rw [List.take_length] at hle r1
      simp [r0, r1, r5, hS, hv.len, wt, hle, hF]
      omega
    | succ k =>
      have hi : i < l.length := by omega
      obtain ⟨x, hx⟩ : ∃ x, l[i]? = some x := ⟨l[i], by simp [hi]⟩
      obtain ⟨eid, o, own, cells, e1, e2, e3, e4⟩ := hv.idx hx (by rw [← hE]; exact hE0)
      have e1 := fun (k : IntKind) => e1 tE 1 24 zs C.ty k hE
      have ld := load_agg (T := C.ty tE) e2 (by rw [hE]; exact e3) rfl hE0 hE2
      rw [hE] at ld
      have ht := wts_take hx
      have hw : IntKind.i64.wrap ((i : Int) + 1) = ((i + 1 : Nat) : Int) := by rw [wrap_i64 (by omega) (by omega)]; omega
      have hc := hg H _ x (left - l.length - wts (l.take i)) e4 (by omega)
      rw [show ((left - l.length - wts (l.take i) : Nat) : Int) = (left : Int) - l.length - wts (l.take i) by omega] at hc
      simp only [valC, Sh.size_st] at hc
      by_cases hb : l.length + wts (l.take (i + 1)) ≤ left
      · have hb2 : wt x ≤ left - l.length - wts (l.take i) := by omega
        have hb' : ¬ (((left - l.length - wts (l.take i) - wt x : Nat) : Int) < 0) := by omega
        rw [if_pos hb2] at hc
        simp [r0, r1, r5, hi, hS, hv.len, e1, ld, hw, hc, hb']
        exact ⟨k, by omega, i + 1, by omega, hb, by omega, by omega⟩
      · have hb2 : ¬ (wt x ≤ left - l.length - wts (l.take i)) := by omega
        have := wts_take_le (l := l) (i := i + 1)
        have hn : ¬ (l.length + wts l ≤ left) := by omega
        rw [if_neg hb2] at hc
        simp [r0, r1, r5, hi, hS, hv.len, e1, ld, hw, hc, wt, hn, hF]
  · have h0' : (left : Int) - l.length < 0 := by omega
    have hw0 : IntKind.i64.wrap ((left : Int) - l.length) = (left : Int) - l.length := wrap_i64 (by have : l.length ≤ maxLen := hlen; unfold maxLen at this; omega) (by omega)
    have hn : ¬ (l.length + wts l ≤ left) := by omega
    simp [code52, Tryz.f52, ren, renO, renP, renX, sub, valC, hS, hv.len, hw0, h0', wt, hn, hF]
end Go.Proofs.Try1
end

section
namespace Go.Lite
open Go
set_option linter.unusedSimpArgs false
set_option linter.unusedVariables false

def bys (b : Str) : List V := b.map fun c => .int .u8 c.toNat
theorem bys_len {b : Str} : (bys b).length = b.length := by simp [bys]
theorem bys_get {b : Str} {i : Nat} {c : UInt8} (h : b[i]? = some c) : (bys b)[i]? = some (.int .u8 c.toNat) := by simp [bys, h]
theorem byteOf_u8 {c : UInt8} : byteOfV (.int .u8 c.toNat) = some c := by
  simp [byteOfV]
theorem bys_mapM : ∀ {b : Str}, (bys b).mapM byteOfV = some b
  | [] => rfl
  | c :: b => by
    have := bys_mapM (b := b)
    simp only [bys, List.map_cons, List.mapM_cons, byteOf_u8] at this ⊢
    rw [this]
    rfl
theorem bys_append {a b : Str} : bys (a ++ b) = bys a ++ bys b := by simp [bys]
theorem bys_take {b : Str} {n : Nat} : (bys b).take n = bys (b.take n) := by simp [bys, List.map_take]

/-- Bytes that stand in an object of the call's own. -/
def Bs (H G : List Ob) (v : V) (b : Str) : Prop := ∃ T id, G = H ++ T ∧ H.length ≤ id ∧ G[id]? = some (.mk true 1 (bys b)) ∧ v = .slc (some (id, 0)) b.length

theorem Bs.init {H : List Ob} : Bs H (H ++ [.mk true 1 []]) (.slc (some (H.length, 0)) 0) [] := ⟨_, H.length, rfl, Nat.le_refl _, by simp [bys], rfl⟩

section
variable {H G : List Ob} {v : V} {b : Str}

theorem Bs.push (h : Bs H G v b) (hb : b.length ≤ 1000) {c : UInt8} {z : List V} {d : LD} (hz : z.length = 1) : ∃ v' G', appendV ⟨d, 1, 1, z⟩ (G ++ [.mk true 1 [.int .u8 c.toNat]]) v (.slc (some (G.length, 0)) 1) = some (v', G') ∧ Bs H G' v' (b ++ [c]) := by
  obtain ⟨T, id, rfl, h1, h2, rfl⟩ := h
  have hid : id < (H ++ T).length := (List.getElem?_eq_some_iff.1 h2).1
  have hid' : id < H.length + T.length := by simpa using hid
  have hg : (H ++ T ++ [Ob.mk true 1 [.int .u8 c.toNat]])[id]? = some (.mk true 1 (bys b)) := by rw [List.getElem?_append_left hid]; exact h2
  have hnew : newCells ⟨d, 1, 1, z⟩ (H ++ T ++ [Ob.mk true 1 [.int .u8 c.toNat]]) (.slc (some ((H ++ T).length, 0)) 1) = some ([.int .u8 c.toNat], 1) := by
    simp only [newCells, Nat.mul_one, slcCells, get_last]
    rfl
  refine ⟨.slc (some ((H ++ T ++ [Ob.mk true 1 [.int .u8 c.toNat]]).length, 0)) (b.length + 1), (H ++ T ++ [Ob.mk true 1 [.int .u8 c.toNat]]).set id .dead ++ [.mk true 1 (bys b ++ [.int .u8 c.toNat])], ?_, ?_⟩
  · unfold appendV
    rw [if_pos (by simp [growOk, hz]), hnew]
    simp only [Nat.one_ne_zero, if_false, List.all_cons, List.all_nil, isOne_int, Bool.and_true, if_true, hg]
    have e1 : ¬ (0 + (b.length + 1) * 1 ≤ (bys b).length) := by rw [bys_len]; omega
    have e2 : (0 + b.length * 1 = (bys b).length ∨ b.length = 0 ∧ (bys b).length ≤ 0) ∧ (b.length + 1) * 1 ≤ maxMade := ⟨.inl (by rw [bys_len]; simp), by unfold maxMade; omega⟩
    rw [if_neg e1, if_pos e2, List.drop_zero]
  · refine ⟨T.set (id - H.length) .dead ++ [.mk true 1 [.int .u8 c.toNat]] ++ [.mk true 1 (bys b ++ [.int .u8 c.toNat])], (H ++ T ++ [Ob.mk true 1 [.int .u8 c.toNat]]).length, ?_, by simp only [List.length_append]; omega, ?_, by simp⟩
    · rw [List.append_assoc H T, List.set_append_right _ _ h1, List.set_append_left _ _ (by omega)]
      simp
    · have hl : ((H ++ T ++ [Ob.mk true 1 [V.int .u8 c.toNat]]).set id .dead).length = (H ++ T ++ [Ob.mk true 1 [V.int .u8 c.toNat]]).length := List.length_set
      rw [← hl, get_last, bys_append]
      rfl

theorem Bs.last (h : Bs H G v b) {d : UInt8} (hd : b.getLast? = some d) : ∃ id, v = .slc (some (id, 0)) b.length ∧ ∀ T : LT, T.one → ∀ r c, loadAt T ⟨r, c, G⟩ (.hp id (b.length - 1)) = some (.int .u8 d.toNat) := by
  obtain ⟨T, id, rfl, h1, h2, rfl⟩ := h
  refine ⟨id, rfl, load1 h2 (bys_get ?_)⟩
  rw [List.getLast?_eq_getElem?] at hd
  exact hd

theorem Bs.cut (h : Bs H G v b) {n : Nat} (hn : n ≤ b.length) : ∃ id, v = .slc (some (id, 0)) b.length ∧ strideIs G id 1 = true ∧ slcCells G (some (id, 0)) n = some (bys (b.take n)) := by
  obtain ⟨T, id, rfl, h1, h2, rfl⟩ := h
  refine ⟨id, rfl, by simp [strideIs, h2], ?_⟩
  simp only [slcCells, h2]
  by_cases h0 : n = 0
  · subst h0; rfl
  · rw [if_neg h0]
    unfold rdCells
    rw [if_pos (by rw [bys_len]; omega), List.drop_zero, bys_take]

theorem Bs.ext (h : Bs H G v b) : ∃ T, G = H ++ T := by
  obtain ⟨T, id, h, _⟩ := h
  exact ⟨T, h⟩
theorem Bs.len (h : Bs H G v b) {e s n : Nat} {z : List V} : lenV ⟨.slice e, s, n, z⟩ v = some (.int .i64 b.length) := by
  obtain ⟨T, id, _, _, _, rfl⟩ := h
  rfl
end
end Go.Lite
end
