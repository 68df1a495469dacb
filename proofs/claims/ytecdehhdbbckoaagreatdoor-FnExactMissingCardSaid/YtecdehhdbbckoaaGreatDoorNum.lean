/- The seat's functions and types by number. Conditions: none but those that each theorem names. -/
import Derived.Test.YtecdehhdbbckoaaGreatDoorTabs
import Derived.Test.YtecdehhdbbckoaaGreatDoorLiteF
import Derived.KernelRfl

namespace Go.Proofs.Try1
open Go Go.Lite
noncomputable def C : Ctx := ctxOf Tryz.prog tabs
@[simp] theorem ty2 : C.ty 2 = ⟨.int .i64, 1, 8, [.int .i64 0]⟩ := by kernel_rfl
@[simp] theorem ty3 : C.ty 3 = ⟨.int .i64, 1, 8, [.int .i64 0]⟩ := by kernel_rfl
@[simp] theorem ty4 : C.ty 4 = ⟨.bool, 1, 1, [.bool false]⟩ := by kernel_rfl
@[simp] theorem ty5 : C.ty 5 = ⟨.int .u8, 1, 1, [.int .u8 0]⟩ := by kernel_rfl
@[simp] theorem ty9 : C.ty 9 = ⟨.str, 1, 16, [.str []]⟩ := by kernel_rfl
@[simp] theorem ty21 : C.ty 21 = ⟨.int .i32, 1, 4, [.int .i32 0]⟩ := by kernel_rfl
@[simp] theorem ty22 : C.ty 22 = ⟨.slice 69, 1, 24, [.slc none 0]⟩ := by kernel_rfl
@[simp] theorem ty23 : C.ty 23 = ⟨.slice 115, 1, 24, [.slc none 0]⟩ := by kernel_rfl
@[simp] theorem ty24 : C.ty 24 = ⟨.slice 117, 1, 24, [.slc none 0]⟩ := by kernel_rfl
@[simp] theorem ty26 : C.ty 26 = ⟨.struct [(0, 23), (1, 24)], 2, 48, [.slc none 0, .slc none 0]⟩ := by kernel_rfl
@[simp] theorem ty29 : C.ty 29 = ⟨.slice 9, 1, 24, [.slc none 0]⟩ := by kernel_rfl
@[simp] theorem ty31 : C.ty 31 = ⟨.slice 73, 1, 24, [.slc none 0]⟩ := by kernel_rfl
@[simp] theorem ty33 : C.ty 33 = ⟨.slice 120, 1, 24, [.slc none 0]⟩ := by kernel_rfl
@[simp] theorem ty34 : C.ty 34 = ⟨.slice 63, 1, 24, [.slc none 0]⟩ := by kernel_rfl
@[simp] theorem ty36 : C.ty 36 = ⟨.struct [(0, 33), (1, 34)], 2, 48, [.slc none 0, .slc none 0]⟩ := by kernel_rfl
@[simp] theorem ty52 : C.ty 52 = ⟨.slice 5, 1, 24, [.slc none 0]⟩ := by kernel_rfl
@[simp] theorem ty63 : C.ty 63 = ⟨.struct [(0, 9), (1, 29)], 2, 40, [.str [], .slc none 0]⟩ := by kernel_rfl
@[simp] theorem ty69 : C.ty 69 = ⟨.struct [(0, 9), (1, 29), (2, 29), (3, 29)], 4, 88, [.str [], .slc none 0, .slc none 0, .slc none 0]⟩ := by kernel_rfl
@[simp] theorem ty73 : C.ty 73 = ⟨.struct [(0, 9), (1, 29), (2, 29), (3, 29)], 4, 88, [.str [], .slc none 0, .slc none 0, .slc none 0]⟩ := by kernel_rfl
@[simp] theorem ty81 : C.ty 81 = ⟨.ptr, 1, 8, [.ptr none]⟩ := by kernel_rfl
@[simp] theorem ty90 : C.ty 90 = ⟨.func, 1, 8, [.nilfn]⟩ := by kernel_rfl
@[simp] theorem ty115 : C.ty 115 = ⟨.struct [(0, 9), (1, 9)], 2, 32, [.str [], .str []]⟩ := by kernel_rfl
@[simp] theorem ty117 : C.ty 117 = ⟨.struct [(0, 9), (1, 29)], 2, 40, [.str [], .slc none 0]⟩ := by kernel_rfl
@[simp] theorem ty118 : C.ty 118 = ⟨.func, 1, 8, [.nilfn]⟩ := by kernel_rfl
@[simp] theorem ty120 : C.ty 120 = ⟨.struct [(0, 9), (1, 9)], 2, 32, [.str [], .str []]⟩ := by kernel_rfl
@[simp] theorem ty141 : C.ty 141 = ⟨.int .u64, 1, 8, [.int .u64 0]⟩ := by kernel_rfl
@[simp] theorem ty147 : C.ty 147 = ⟨.slice 29, 1, 24, [.slc none 0]⟩ := by kernel_rfl
@[simp] theorem ty150 : C.ty 150 = ⟨.func, 1, 8, [.nilfn]⟩ := by kernel_rfl
@[simp] theorem ty159 : C.ty 159 = ⟨.array 256 4, 256, 256, List.replicate 256 (.bool false)⟩ := by kernel_rfl
@[simp] theorem ty163 : C.ty 163 = ⟨.ptr, 1, 8, [.ptr none]⟩ := by kernel_rfl
@[simp] theorem ty166 : C.ty 166 = ⟨.func, 1, 8, [.nilfn]⟩ := by kernel_rfl
@[simp] theorem ty208 : C.ty 208 = ⟨.array 256 5, 256, 256, List.replicate 256 (.int .u8 0)⟩ := by kernel_rfl
@[simp] theorem ty210 : C.ty 210 = ⟨.struct [(0, 5), (1, 5)], 2, 2, [.int .u8 0, .int .u8 0]⟩ := by kernel_rfl
@[simp] theorem ty211 : C.ty 211 = ⟨.array 16 210, 32, 32, List.replicate 32 (.int .u8 0)⟩ := by kernel_rfl
noncomputable def code3 : Code := match Tryz.f3.body with | some c => c | none => .skip
theorem fi3 : C.fids 3 = true := by kernel_rfl
theorem bo3 : Tryz.f3.body = some code3 := rfl
theorem pr3 : C.prim 3 = none := rfl
theorem fu3 : C.funcs 3 = some Tryz.f3 := Tryz.func3
theorem op3 {a : List V} {H : List Ob} {R : V → List Ob → Prop} : Ret C 3 a H R ↔ WP C 3 code3 ⟨initRegs a, 0, H⟩ (finQ C Tryz.f3 H R) := Ret_fn pr3 fi3 fu3 bo3
@[simp] theorem locs3 : C.locs 3 = [3, 8] := by kernel_rfl
noncomputable def code7 : Code := match Tryz.f7.body with | some c => c | none => .skip
theorem fi7 : C.fids 7 = true := by kernel_rfl
theorem bo7 : Tryz.f7.body = some code7 := rfl
theorem pr7 : C.prim 7 = none := rfl
theorem fu7 : C.funcs 7 = some Tryz.f7 := Tryz.func7
theorem op7 {a : List V} {H : List Ob} {R : V → List Ob → Prop} : Ret C 7 a H R ↔ WP C 7 code7 ⟨initRegs a, 0, H⟩ (finQ C Tryz.f7 H R) := Ret_fn pr7 fi7 fu7 bo7
@[simp] theorem locs7 : C.locs 7 = [] := by kernel_rfl
noncomputable def code8 : Code := match Tryz.f8.body with | some c => c | none => .skip
theorem fi8 : C.fids 8 = true := by kernel_rfl
theorem bo8 : Tryz.f8.body = some code8 := rfl
theorem pr8 : C.prim 8 = none := rfl
theorem fu8 : C.funcs 8 = some Tryz.f8 := Tryz.func8
theorem op8 {a : List V} {H : List Ob} {R : V → List Ob → Prop} : Ret C 8 a H R ↔ WP C 8 code8 ⟨initRegs a, 0, H⟩ (finQ C Tryz.f8 H R) := Ret_fn pr8 fi8 fu8 bo8
@[simp] theorem locs8 : C.locs 8 = [2] := by kernel_rfl
noncomputable def code9 : Code := match Tryz.f9.body with | some c => c | none => .skip
theorem fi9 : C.fids 9 = true := by kernel_rfl
theorem bo9 : Tryz.f9.body = some code9 := rfl
theorem pr9 : C.prim 9 = none := rfl
theorem fu9 : C.funcs 9 = some Tryz.f9 := Tryz.func9
theorem op9 {a : List V} {H : List Ob} {R : V → List Ob → Prop} : Ret C 9 a H R ↔ WP C 9 code9 ⟨initRegs a, 0, H⟩ (finQ C Tryz.f9 H R) := Ret_fn pr9 fi9 fu9 bo9
@[simp] theorem locs9 : C.locs 9 = [3, 6] := by kernel_rfl
noncomputable def code10 : Code := match Tryz.f10.body with | some c => c | none => .skip
theorem fi10 : C.fids 10 = true := by kernel_rfl
theorem bo10 : Tryz.f10.body = some code10 := rfl
theorem pr10 : C.prim 10 = none := rfl
theorem fu10 : C.funcs 10 = some Tryz.f10 := Tryz.func10
theorem op10 {a : List V} {H : List Ob} {R : V → List Ob → Prop} : Ret C 10 a H R ↔ WP C 10 code10 ⟨initRegs a, 0, H⟩ (finQ C Tryz.f10 H R) := Ret_fn pr10 fi10 fu10 bo10
@[simp] theorem locs10 : C.locs 10 = [] := by kernel_rfl
noncomputable def code11 : Code := match Tryz.f11.body with | some c => c | none => .skip
theorem fi11 : C.fids 11 = true := by kernel_rfl
theorem bo11 : Tryz.f11.body = some code11 := rfl
theorem pr11 : C.prim 11 = none := rfl
theorem fu11 : C.funcs 11 = some Tryz.f11 := Tryz.func11
theorem op11 {a : List V} {H : List Ob} {R : V → List Ob → Prop} : Ret C 11 a H R ↔ WP C 11 code11 ⟨initRegs a, 0, H⟩ (finQ C Tryz.f11 H R) := Ret_fn pr11 fi11 fu11 bo11
@[simp] theorem locs11 : C.locs 11 = [1, 2, 3] := by kernel_rfl
noncomputable def code12 : Code := match Tryz.f12.body with | some c => c | none => .skip
theorem fi12 : C.fids 12 = true := by kernel_rfl
theorem bo12 : Tryz.f12.body = some code12 := rfl
theorem pr12 : C.prim 12 = none := rfl
theorem fu12 : C.funcs 12 = some Tryz.f12 := Tryz.func12
theorem op12 {a : List V} {H : List Ob} {R : V → List Ob → Prop} : Ret C 12 a H R ↔ WP C 12 code12 ⟨initRegs a, 0, H⟩ (finQ C Tryz.f12 H R) := Ret_fn pr12 fi12 fu12 bo12
@[simp] theorem locs12 : C.locs 12 = [5] := by kernel_rfl
noncomputable def code13 : Code := match Tryz.f13.body with | some c => c | none => .skip
theorem fi13 : C.fids 13 = true := by kernel_rfl
theorem bo13 : Tryz.f13.body = some code13 := rfl
theorem pr13 : C.prim 13 = none := rfl
theorem fu13 : C.funcs 13 = some Tryz.f13 := Tryz.func13
theorem op13 {a : List V} {H : List Ob} {R : V → List Ob → Prop} : Ret C 13 a H R ↔ WP C 13 code13 ⟨initRegs a, 0, H⟩ (finQ C Tryz.f13 H R) := Ret_fn pr13 fi13 fu13 bo13
@[simp] theorem locs13 : C.locs 13 = [] := by kernel_rfl
noncomputable def code14 : Code := match Tryz.f14.body with | some c => c | none => .skip
theorem fi14 : C.fids 14 = true := by kernel_rfl
theorem bo14 : Tryz.f14.body = some code14 := rfl
theorem pr14 : C.prim 14 = none := rfl
theorem fu14 : C.funcs 14 = some Tryz.f14 := Tryz.func14
theorem op14 {a : List V} {H : List Ob} {R : V → List Ob → Prop} : Ret C 14 a H R ↔ WP C 14 code14 ⟨initRegs a, 0, H⟩ (finQ C Tryz.f14 H R) := Ret_fn pr14 fi14 fu14 bo14
@[simp] theorem locs14 : C.locs 14 = [] := by kernel_rfl
noncomputable def code15 : Code := match Tryz.f15.body with | some c => c | none => .skip
theorem fi15 : C.fids 15 = true := by kernel_rfl
theorem bo15 : Tryz.f15.body = some code15 := rfl
theorem pr15 : C.prim 15 = none := rfl
theorem fu15 : C.funcs 15 = some Tryz.f15 := Tryz.func15
theorem op15 {a : List V} {H : List Ob} {R : V → List Ob → Prop} : Ret C 15 a H R ↔ WP C 15 code15 ⟨initRegs a, 0, H⟩ (finQ C Tryz.f15 H R) := Ret_fn pr15 fi15 fu15 bo15
@[simp] theorem locs15 : C.locs 15 = [2, 3] := by kernel_rfl
noncomputable def code16 : Code := match Tryz.f16.body with | some c => c | none => .skip
theorem fi16 : C.fids 16 = true := by kernel_rfl
theorem bo16 : Tryz.f16.body = some code16 := rfl
theorem pr16 : C.prim 16 = none := rfl
theorem fu16 : C.funcs 16 = some Tryz.f16 := Tryz.func16
theorem op16 {a : List V} {H : List Ob} {R : V → List Ob → Prop} : Ret C 16 a H R ↔ WP C 16 code16 ⟨initRegs a, 0, H⟩ (finQ C Tryz.f16 H R) := Ret_fn pr16 fi16 fu16 bo16
@[simp] theorem locs16 : C.locs 16 = [] := by kernel_rfl
noncomputable def code17 : Code := match Tryz.f17.body with | some c => c | none => .skip
theorem fi17 : C.fids 17 = true := by kernel_rfl
theorem bo17 : Tryz.f17.body = some code17 := rfl
theorem pr17 : C.prim 17 = none := rfl
theorem fu17 : C.funcs 17 = some Tryz.f17 := Tryz.func17
theorem op17 {a : List V} {H : List Ob} {R : V → List Ob → Prop} : Ret C 17 a H R ↔ WP C 17 code17 ⟨initRegs a, 0, H⟩ (finQ C Tryz.f17 H R) := Ret_fn pr17 fi17 fu17 bo17
@[simp] theorem locs17 : C.locs 17 = [2] := by kernel_rfl
noncomputable def code18 : Code := match Tryz.f18.body with | some c => c | none => .skip
theorem fi18 : C.fids 18 = true := by kernel_rfl
theorem bo18 : Tryz.f18.body = some code18 := rfl
theorem pr18 : C.prim 18 = none := rfl
theorem fu18 : C.funcs 18 = some Tryz.f18 := Tryz.func18
theorem op18 {a : List V} {H : List Ob} {R : V → List Ob → Prop} : Ret C 18 a H R ↔ WP C 18 code18 ⟨initRegs a, 0, H⟩ (finQ C Tryz.f18 H R) := Ret_fn pr18 fi18 fu18 bo18
@[simp] theorem locs18 : C.locs 18 = [] := by kernel_rfl
noncomputable def code19 : Code := match Tryz.f19.body with | some c => c | none => .skip
theorem fi19 : C.fids 19 = true := by kernel_rfl
theorem bo19 : Tryz.f19.body = some code19 := rfl
theorem pr19 : C.prim 19 = none := rfl
theorem fu19 : C.funcs 19 = some Tryz.f19 := Tryz.func19
theorem op19 {a : List V} {H : List Ob} {R : V → List Ob → Prop} : Ret C 19 a H R ↔ WP C 19 code19 ⟨initRegs a, 0, H⟩ (finQ C Tryz.f19 H R) := Ret_fn pr19 fi19 fu19 bo19
@[simp] theorem locs19 : C.locs 19 = [] := by kernel_rfl
noncomputable def code20 : Code := match Tryz.f20.body with | some c => c | none => .skip
theorem fi20 : C.fids 20 = true := by kernel_rfl
theorem bo20 : Tryz.f20.body = some code20 := rfl
theorem pr20 : C.prim 20 = none := rfl
theorem fu20 : C.funcs 20 = some Tryz.f20 := Tryz.func20
theorem op20 {a : List V} {H : List Ob} {R : V → List Ob → Prop} : Ret C 20 a H R ↔ WP C 20 code20 ⟨initRegs a, 0, H⟩ (finQ C Tryz.f20 H R) := Ret_fn pr20 fi20 fu20 bo20
@[simp] theorem locs20 : C.locs 20 = [] := by kernel_rfl
noncomputable def code22 : Code := match Tryz.f22.body with | some c => c | none => .skip
theorem fi22 : C.fids 22 = true := by kernel_rfl
theorem bo22 : Tryz.f22.body = some code22 := rfl
theorem pr22 : C.prim 22 = none := rfl
theorem fu22 : C.funcs 22 = some Tryz.f22 := Tryz.func22
theorem op22 {a : List V} {H : List Ob} {R : V → List Ob → Prop} : Ret C 22 a H R ↔ WP C 22 code22 ⟨initRegs a, 0, H⟩ (finQ C Tryz.f22 H R) := Ret_fn pr22 fi22 fu22 bo22
@[simp] theorem locs22 : C.locs 22 = [] := by kernel_rfl
noncomputable def code36 : Code := match Tryz.f36.body with | some c => c | none => .skip
theorem fi36 : C.fids 36 = true := by kernel_rfl
theorem bo36 : Tryz.f36.body = some code36 := rfl
theorem pr36 : C.prim 36 = none := rfl
theorem fu36 : C.funcs 36 = some Tryz.f36 := Tryz.func36
theorem op36 {a : List V} {H : List Ob} {R : V → List Ob → Prop} : Ret C 36 a H R ↔ WP C 36 code36 ⟨initRegs a, 0, H⟩ (finQ C Tryz.f36 H R) := Ret_fn pr36 fi36 fu36 bo36
@[simp] theorem locs36 : C.locs 36 = [1] := by kernel_rfl
noncomputable def code40 : Code := match Tryz.f40.body with | some c => c | none => .skip
theorem fi40 : C.fids 40 = true := by kernel_rfl
theorem bo40 : Tryz.f40.body = some code40 := rfl
theorem pr40 : C.prim 40 = none := rfl
theorem fu40 : C.funcs 40 = some Tryz.f40 := Tryz.func40
theorem op40 {a : List V} {H : List Ob} {R : V → List Ob → Prop} : Ret C 40 a H R ↔ WP C 40 code40 ⟨initRegs a, 0, H⟩ (finQ C Tryz.f40 H R) := Ret_fn pr40 fi40 fu40 bo40
@[simp] theorem locs40 : C.locs 40 = [2] := by kernel_rfl
noncomputable def code41 : Code := match Tryz.f41.body with | some c => c | none => .skip
theorem fi41 : C.fids 41 = true := by kernel_rfl
theorem bo41 : Tryz.f41.body = some code41 := rfl
theorem pr41 : C.prim 41 = none := rfl
theorem fu41 : C.funcs 41 = some Tryz.f41 := Tryz.func41
theorem op41 {a : List V} {H : List Ob} {R : V → List Ob → Prop} : Ret C 41 a H R ↔ WP C 41 code41 ⟨initRegs a, 0, H⟩ (finQ C Tryz.f41 H R) := Ret_fn pr41 fi41 fu41 bo41
@[simp] theorem locs41 : C.locs 41 = [] := by kernel_rfl
noncomputable def code42 : Code := match Tryz.f42.body with | some c => c | none => .skip
theorem fi42 : C.fids 42 = true := by kernel_rfl
theorem bo42 : Tryz.f42.body = some code42 := rfl
theorem pr42 : C.prim 42 = none := rfl
theorem fu42 : C.funcs 42 = some Tryz.f42 := Tryz.func42
theorem op42 {a : List V} {H : List Ob} {R : V → List Ob → Prop} : Ret C 42 a H R ↔ WP C 42 code42 ⟨initRegs a, 0, H⟩ (finQ C Tryz.f42 H R) := Ret_fn pr42 fi42 fu42 bo42
@[simp] theorem locs42 : C.locs 42 = [] := by kernel_rfl
noncomputable def code43 : Code := match Tryz.f43.body with | some c => c | none => .skip
theorem fi43 : C.fids 43 = true := by kernel_rfl
theorem bo43 : Tryz.f43.body = some code43 := rfl
theorem pr43 : C.prim 43 = none := rfl
theorem fu43 : C.funcs 43 = some Tryz.f43 := Tryz.func43
theorem op43 {a : List V} {H : List Ob} {R : V → List Ob → Prop} : Ret C 43 a H R ↔ WP C 43 code43 ⟨initRegs a, 0, H⟩ (finQ C Tryz.f43 H R) := Ret_fn pr43 fi43 fu43 bo43
@[simp] theorem locs43 : C.locs 43 = [] := by kernel_rfl
noncomputable def code44 : Code := match Tryz.f44.body with | some c => c | none => .skip
theorem fi44 : C.fids 44 = true := by kernel_rfl
theorem bo44 : Tryz.f44.body = some code44 := rfl
theorem pr44 : C.prim 44 = none := rfl
theorem fu44 : C.funcs 44 = some Tryz.f44 := Tryz.func44
theorem op44 {a : List V} {H : List Ob} {R : V → List Ob → Prop} : Ret C 44 a H R ↔ WP C 44 code44 ⟨initRegs a, 0, H⟩ (finQ C Tryz.f44 H R) := Ret_fn pr44 fi44 fu44 bo44
@[simp] theorem locs44 : C.locs 44 = [3, 4] := by kernel_rfl
noncomputable def code45 : Code := match Tryz.f45.body with | some c => c | none => .skip
theorem fi45 : C.fids 45 = true := by kernel_rfl
theorem bo45 : Tryz.f45.body = some code45 := rfl
theorem pr45 : C.prim 45 = none := rfl
theorem fu45 : C.funcs 45 = some Tryz.f45 := Tryz.func45
theorem op45 {a : List V} {H : List Ob} {R : V → List Ob → Prop} : Ret C 45 a H R ↔ WP C 45 code45 ⟨initRegs a, 0, H⟩ (finQ C Tryz.f45 H R) := Ret_fn pr45 fi45 fu45 bo45
@[simp] theorem locs45 : C.locs 45 = [2] := by kernel_rfl
noncomputable def code46 : Code := match Tryz.f46.body with | some c => c | none => .skip
theorem fi46 : C.fids 46 = true := by kernel_rfl
theorem bo46 : Tryz.f46.body = some code46 := rfl
theorem pr46 : C.prim 46 = none := rfl
theorem fu46 : C.funcs 46 = some Tryz.f46 := Tryz.func46
theorem op46 {a : List V} {H : List Ob} {R : V → List Ob → Prop} : Ret C 46 a H R ↔ WP C 46 code46 ⟨initRegs a, 0, H⟩ (finQ C Tryz.f46 H R) := Ret_fn pr46 fi46 fu46 bo46
@[simp] theorem locs46 : C.locs 46 = [1, 2, 3] := by kernel_rfl
noncomputable def code47 : Code := match Tryz.f47.body with | some c => c | none => .skip
theorem fi47 : C.fids 47 = true := by kernel_rfl
theorem bo47 : Tryz.f47.body = some code47 := rfl
theorem pr47 : C.prim 47 = none := rfl
theorem fu47 : C.funcs 47 = some Tryz.f47 := Tryz.func47
theorem op47 {a : List V} {H : List Ob} {R : V → List Ob → Prop} : Ret C 47 a H R ↔ WP C 47 code47 ⟨initRegs a, 0, H⟩ (finQ C Tryz.f47 H R) := Ret_fn pr47 fi47 fu47 bo47
@[simp] theorem locs47 : C.locs 47 = [] := by kernel_rfl
noncomputable def code48 : Code := match Tryz.f48.body with | some c => c | none => .skip
theorem fi48 : C.fids 48 = true := by kernel_rfl
theorem bo48 : Tryz.f48.body = some code48 := rfl
theorem pr48 : C.prim 48 = none := rfl
theorem fu48 : C.funcs 48 = some Tryz.f48 := Tryz.func48
theorem op48 {a : List V} {H : List Ob} {R : V → List Ob → Prop} : Ret C 48 a H R ↔ WP C 48 code48 ⟨initRegs a, 0, H⟩ (finQ C Tryz.f48 H R) := Ret_fn pr48 fi48 fu48 bo48
@[simp] theorem locs48 : C.locs 48 = [] := by kernel_rfl
noncomputable def code49 : Code := match Tryz.f49.body with | some c => c | none => .skip
theorem fi49 : C.fids 49 = true := by kernel_rfl
theorem bo49 : Tryz.f49.body = some code49 := rfl
theorem pr49 : C.prim 49 = none := rfl
theorem fu49 : C.funcs 49 = some Tryz.f49 := Tryz.func49
theorem op49 {a : List V} {H : List Ob} {R : V → List Ob → Prop} : Ret C 49 a H R ↔ WP C 49 code49 ⟨initRegs a, 0, H⟩ (finQ C Tryz.f49 H R) := Ret_fn pr49 fi49 fu49 bo49
@[simp] theorem locs49 : C.locs 49 = [4] := by kernel_rfl
noncomputable def code50 : Code := match Tryz.f50.body with | some c => c | none => .skip
theorem fi50 : C.fids 50 = true := by kernel_rfl
theorem bo50 : Tryz.f50.body = some code50 := rfl
theorem pr50 : C.prim 50 = none := rfl
theorem fu50 : C.funcs 50 = some Tryz.f50 := Tryz.func50
theorem op50 {a : List V} {H : List Ob} {R : V → List Ob → Prop} : Ret C 50 a H R ↔ WP C 50 code50 ⟨initRegs a, 0, H⟩ (finQ C Tryz.f50 H R) := Ret_fn pr50 fi50 fu50 bo50
@[simp] theorem locs50 : C.locs 50 = [1, 4] := by kernel_rfl
noncomputable def code51 : Code := match Tryz.f51.body with | some c => c | none => .skip
theorem fi51 : C.fids 51 = true := by kernel_rfl
theorem bo51 : Tryz.f51.body = some code51 := rfl
theorem pr51 : C.prim 51 = none := rfl
theorem fu51 : C.funcs 51 = some Tryz.f51 := Tryz.func51
theorem op51 {a : List V} {H : List Ob} {R : V → List Ob → Prop} : Ret C 51 a H R ↔ WP C 51 code51 ⟨initRegs a, 0, H⟩ (finQ C Tryz.f51 H R) := Ret_fn pr51 fi51 fu51 bo51
@[simp] theorem locs51 : C.locs 51 = [4] := by kernel_rfl
noncomputable def code52 : Code := match Tryz.f52.body with | some c => c | none => .skip
theorem fi52 : C.fids 52 = true := by kernel_rfl
theorem bo52 : Tryz.f52.body = some code52 := rfl
theorem pr52 : C.prim 52 = none := rfl
theorem fu52 : C.funcs 52 = some Tryz.f52 := Tryz.func52
theorem op52 {a : List V} {H : List Ob} {R : V → List Ob → Prop} : Ret C 52 a H R ↔ WP C 52 code52 ⟨initRegs a, 0, H⟩ (finQ C Tryz.f52 H R) := Ret_fn pr52 fi52 fu52 bo52
@[simp] theorem locs52 : C.locs 52 = [2] := by kernel_rfl
noncomputable def code53 : Code := match Tryz.f53.body with | some c => c | none => .skip
theorem fi53 : C.fids 53 = true := by kernel_rfl
theorem bo53 : Tryz.f53.body = some code53 := rfl
theorem pr53 : C.prim 53 = none := rfl
theorem fu53 : C.funcs 53 = some Tryz.f53 := Tryz.func53
theorem op53 {a : List V} {H : List Ob} {R : V → List Ob → Prop} : Ret C 53 a H R ↔ WP C 53 code53 ⟨initRegs a, 0, H⟩ (finQ C Tryz.f53 H R) := Ret_fn pr53 fi53 fu53 bo53
@[simp] theorem locs53 : C.locs 53 = [2, 3] := by kernel_rfl
noncomputable def code54 : Code := match Tryz.f54.body with | some c => c | none => .skip
theorem fi54 : C.fids 54 = true := by kernel_rfl
theorem bo54 : Tryz.f54.body = some code54 := rfl
theorem pr54 : C.prim 54 = none := rfl
theorem fu54 : C.funcs 54 = some Tryz.f54 := Tryz.func54
theorem op54 {a : List V} {H : List Ob} {R : V → List Ob → Prop} : Ret C 54 a H R ↔ WP C 54 code54 ⟨initRegs a, 0, H⟩ (finQ C Tryz.f54 H R) := Ret_fn pr54 fi54 fu54 bo54
@[simp] theorem locs54 : C.locs 54 = [] := by kernel_rfl
noncomputable def code55 : Code := match Tryz.f55.body with | some c => c | none => .skip
theorem fi55 : C.fids 55 = true := by kernel_rfl
theorem bo55 : Tryz.f55.body = some code55 := rfl
theorem pr55 : C.prim 55 = none := rfl
theorem fu55 : C.funcs 55 = some Tryz.f55 := Tryz.func55
theorem op55 {a : List V} {H : List Ob} {R : V → List Ob → Prop} : Ret C 55 a H R ↔ WP C 55 code55 ⟨initRegs a, 0, H⟩ (finQ C Tryz.f55 H R) := Ret_fn pr55 fi55 fu55 bo55
@[simp] theorem locs55 : C.locs 55 = [] := by kernel_rfl
noncomputable def code56 : Code := match Tryz.f56.body with | some c => c | none => .skip
theorem fi56 : C.fids 56 = true := by kernel_rfl
theorem bo56 : Tryz.f56.body = some code56 := rfl
theorem pr56 : C.prim 56 = none := rfl
theorem fu56 : C.funcs 56 = some Tryz.f56 := Tryz.func56
theorem op56 {a : List V} {H : List Ob} {R : V → List Ob → Prop} : Ret C 56 a H R ↔ WP C 56 code56 ⟨initRegs a, 0, H⟩ (finQ C Tryz.f56 H R) := Ret_fn pr56 fi56 fu56 bo56
@[simp] theorem locs56 : C.locs 56 = [] := by kernel_rfl
noncomputable def code57 : Code := match Tryz.f57.body with | some c => c | none => .skip
theorem fi57 : C.fids 57 = true := by kernel_rfl
theorem bo57 : Tryz.f57.body = some code57 := rfl
theorem pr57 : C.prim 57 = none := rfl
theorem fu57 : C.funcs 57 = some Tryz.f57 := Tryz.func57
theorem op57 {a : List V} {H : List Ob} {R : V → List Ob → Prop} : Ret C 57 a H R ↔ WP C 57 code57 ⟨initRegs a, 0, H⟩ (finQ C Tryz.f57 H R) := Ret_fn pr57 fi57 fu57 bo57
@[simp] theorem locs57 : C.locs 57 = [] := by kernel_rfl
noncomputable def code58 : Code := match Tryz.f58.body with | some c => c | none => .skip
theorem fi58 : C.fids 58 = true := by kernel_rfl
theorem bo58 : Tryz.f58.body = some code58 := rfl
theorem pr58 : C.prim 58 = none := rfl
theorem fu58 : C.funcs 58 = some Tryz.f58 := Tryz.func58
theorem op58 {a : List V} {H : List Ob} {R : V → List Ob → Prop} : Ret C 58 a H R ↔ WP C 58 code58 ⟨initRegs a, 0, H⟩ (finQ C Tryz.f58 H R) := Ret_fn pr58 fi58 fu58 bo58
@[simp] theorem locs58 : C.locs 58 = [] := by kernel_rfl
noncomputable def code60 : Code := match Tryz.f60.body with | some c => c | none => .skip
theorem fi60 : C.fids 60 = true := by kernel_rfl
theorem bo60 : Tryz.f60.body = some code60 := rfl
theorem pr60 : C.prim 60 = none := rfl
theorem fu60 : C.funcs 60 = some Tryz.f60 := Tryz.func60
theorem op60 {a : List V} {H : List Ob} {R : V → List Ob → Prop} : Ret C 60 a H R ↔ WP C 60 code60 ⟨initRegs a, 0, H⟩ (finQ C Tryz.f60 H R) := Ret_fn pr60 fi60 fu60 bo60
@[simp] theorem locs60 : C.locs 60 = [] := by kernel_rfl
noncomputable def code66 : Code := match Tryz.f66.body with | some c => c | none => .skip
theorem fi66 : C.fids 66 = true := by kernel_rfl
theorem bo66 : Tryz.f66.body = some code66 := rfl
theorem pr66 : C.prim 66 = none := rfl
theorem fu66 : C.funcs 66 = some Tryz.f66 := Tryz.func66
theorem op66 {a : List V} {H : List Ob} {R : V → List Ob → Prop} : Ret C 66 a H R ↔ WP C 66 code66 ⟨initRegs a, 0, H⟩ (finQ C Tryz.f66 H R) := Ret_fn pr66 fi66 fu66 bo66
@[simp] theorem locs66 : C.locs 66 = [] := by kernel_rfl
noncomputable def code82 : Code := match Tryz.f82.body with | some c => c | none => .skip
theorem fi82 : C.fids 82 = true := by kernel_rfl
theorem bo82 : Tryz.f82.body = some code82 := rfl
theorem pr82 : C.prim 82 = none := rfl
theorem fu82 : C.funcs 82 = some Tryz.f82 := Tryz.func82
theorem op82 {a : List V} {H : List Ob} {R : V → List Ob → Prop} : Ret C 82 a H R ↔ WP C 82 code82 ⟨initRegs a, 0, H⟩ (finQ C Tryz.f82 H R) := Ret_fn pr82 fi82 fu82 bo82
@[simp] theorem locs82 : C.locs 82 = [] := by kernel_rfl
noncomputable def code83 : Code := match Tryz.f83.body with | some c => c | none => .skip
theorem fi83 : C.fids 83 = true := by kernel_rfl
theorem bo83 : Tryz.f83.body = some code83 := rfl
theorem pr83 : C.prim 83 = none := rfl
theorem fu83 : C.funcs 83 = some Tryz.f83 := Tryz.func83
theorem op83 {a : List V} {H : List Ob} {R : V → List Ob → Prop} : Ret C 83 a H R ↔ WP C 83 code83 ⟨initRegs a, 0, H⟩ (finQ C Tryz.f83 H R) := Ret_fn pr83 fi83 fu83 bo83
@[simp] theorem locs83 : C.locs 83 = [] := by kernel_rfl
noncomputable def code84 : Code := match Tryz.f84.body with | some c => c | none => .skip
theorem fi84 : C.fids 84 = true := by kernel_rfl
theorem bo84 : Tryz.f84.body = some code84 := rfl
theorem pr84 : C.prim 84 = none := rfl
theorem fu84 : C.funcs 84 = some Tryz.f84 := Tryz.func84
theorem op84 {a : List V} {H : List Ob} {R : V → List Ob → Prop} : Ret C 84 a H R ↔ WP C 84 code84 ⟨initRegs a, 0, H⟩ (finQ C Tryz.f84 H R) := Ret_fn pr84 fi84 fu84 bo84
@[simp] theorem locs84 : C.locs 84 = [2] := by kernel_rfl
noncomputable def code85 : Code := match Tryz.f85.body with | some c => c | none => .skip
theorem fi85 : C.fids 85 = true := by kernel_rfl
theorem bo85 : Tryz.f85.body = some code85 := rfl
theorem pr85 : C.prim 85 = none := rfl
theorem fu85 : C.funcs 85 = some Tryz.f85 := Tryz.func85
theorem op85 {a : List V} {H : List Ob} {R : V → List Ob → Prop} : Ret C 85 a H R ↔ WP C 85 code85 ⟨initRegs a, 0, H⟩ (finQ C Tryz.f85 H R) := Ret_fn pr85 fi85 fu85 bo85
@[simp] theorem locs85 : C.locs 85 = [] := by kernel_rfl
noncomputable def code86 : Code := match Tryz.f86.body with | some c => c | none => .skip
theorem fi86 : C.fids 86 = true := by kernel_rfl
theorem bo86 : Tryz.f86.body = some code86 := rfl
theorem pr86 : C.prim 86 = none := rfl
theorem fu86 : C.funcs 86 = some Tryz.f86 := Tryz.func86
theorem op86 {a : List V} {H : List Ob} {R : V → List Ob → Prop} : Ret C 86 a H R ↔ WP C 86 code86 ⟨initRegs a, 0, H⟩ (finQ C Tryz.f86 H R) := Ret_fn pr86 fi86 fu86 bo86
@[simp] theorem locs86 : C.locs 86 = [] := by kernel_rfl
noncomputable def code88 : Code := match Tryz.f88.body with | some c => c | none => .skip
theorem fi88 : C.fids 88 = true := by kernel_rfl
theorem bo88 : Tryz.f88.body = some code88 := rfl
theorem pr88 : C.prim 88 = none := rfl
theorem fu88 : C.funcs 88 = some Tryz.f88 := Tryz.func88
theorem op88 {a : List V} {H : List Ob} {R : V → List Ob → Prop} : Ret C 88 a H R ↔ WP C 88 code88 ⟨initRegs a, 0, H⟩ (finQ C Tryz.f88 H R) := Ret_fn pr88 fi88 fu88 bo88
@[simp] theorem locs88 : C.locs 88 = [] := by kernel_rfl
noncomputable def code90 : Code := match Tryz.f90.body with | some c => c | none => .skip
theorem fi90 : C.fids 90 = true := by kernel_rfl
theorem bo90 : Tryz.f90.body = some code90 := rfl
theorem pr90 : C.prim 90 = none := rfl
theorem fu90 : C.funcs 90 = some Tryz.f90 := Tryz.func90
theorem op90 {a : List V} {H : List Ob} {R : V → List Ob → Prop} : Ret C 90 a H R ↔ WP C 90 code90 ⟨initRegs a, 0, H⟩ (finQ C Tryz.f90 H R) := Ret_fn pr90 fi90 fu90 bo90
@[simp] theorem locs90 : C.locs 90 = [] := by kernel_rfl
noncomputable def code95 : Code := match Tryz.f95.body with | some c => c | none => .skip
theorem fi95 : C.fids 95 = true := by kernel_rfl
theorem bo95 : Tryz.f95.body = some code95 := rfl
theorem pr95 : C.prim 95 = none := rfl
theorem fu95 : C.funcs 95 = some Tryz.f95 := Tryz.func95
theorem op95 {a : List V} {H : List Ob} {R : V → List Ob → Prop} : Ret C 95 a H R ↔ WP C 95 code95 ⟨initRegs a, 0, H⟩ (finQ C Tryz.f95 H R) := Ret_fn pr95 fi95 fu95 bo95
@[simp] theorem locs95 : C.locs 95 = [2] := by kernel_rfl
noncomputable def code96 : Code := match Tryz.f96.body with | some c => c | none => .skip
theorem fi96 : C.fids 96 = true := by kernel_rfl
theorem bo96 : Tryz.f96.body = some code96 := rfl
theorem pr96 : C.prim 96 = none := rfl
theorem fu96 : C.funcs 96 = some Tryz.f96 := Tryz.func96
theorem op96 {a : List V} {H : List Ob} {R : V → List Ob → Prop} : Ret C 96 a H R ↔ WP C 96 code96 ⟨initRegs a, 0, H⟩ (finQ C Tryz.f96 H R) := Ret_fn pr96 fi96 fu96 bo96
@[simp] theorem locs96 : C.locs 96 = [2] := by kernel_rfl
noncomputable def code97 : Code := match Tryz.f97.body with | some c => c | none => .skip
theorem fi97 : C.fids 97 = true := by kernel_rfl
theorem bo97 : Tryz.f97.body = some code97 := rfl
theorem pr97 : C.prim 97 = none := rfl
theorem fu97 : C.funcs 97 = some Tryz.f97 := Tryz.func97
theorem op97 {a : List V} {H : List Ob} {R : V → List Ob → Prop} : Ret C 97 a H R ↔ WP C 97 code97 ⟨initRegs a, 0, H⟩ (finQ C Tryz.f97 H R) := Ret_fn pr97 fi97 fu97 bo97
@[simp] theorem locs97 : C.locs 97 = [1] := by kernel_rfl
noncomputable def code98 : Code := match Tryz.f98.body with | some c => c | none => .skip
theorem fi98 : C.fids 98 = true := by kernel_rfl
theorem bo98 : Tryz.f98.body = some code98 := rfl
theorem pr98 : C.prim 98 = none := rfl
theorem fu98 : C.funcs 98 = some Tryz.f98 := Tryz.func98
theorem op98 {a : List V} {H : List Ob} {R : V → List Ob → Prop} : Ret C 98 a H R ↔ WP C 98 code98 ⟨initRegs a, 0, H⟩ (finQ C Tryz.f98 H R) := Ret_fn pr98 fi98 fu98 bo98
@[simp] theorem locs98 : C.locs 98 = [] := by kernel_rfl
noncomputable def code99 : Code := match Tryz.f99.body with | some c => c | none => .skip
theorem fi99 : C.fids 99 = true := by kernel_rfl
theorem bo99 : Tryz.f99.body = some code99 := rfl
theorem pr99 : C.prim 99 = none := rfl
theorem fu99 : C.funcs 99 = some Tryz.f99 := Tryz.func99
theorem op99 {a : List V} {H : List Ob} {R : V → List Ob → Prop} : Ret C 99 a H R ↔ WP C 99 code99 ⟨initRegs a, 0, H⟩ (finQ C Tryz.f99 H R) := Ret_fn pr99 fi99 fu99 bo99
@[simp] theorem locs99 : C.locs 99 = [] := by kernel_rfl
noncomputable def code100 : Code := match Tryz.f100.body with | some c => c | none => .skip
theorem fi100 : C.fids 100 = true := by kernel_rfl
theorem bo100 : Tryz.f100.body = some code100 := rfl
theorem pr100 : C.prim 100 = none := rfl
theorem fu100 : C.funcs 100 = some Tryz.f100 := Tryz.func100
theorem op100 {a : List V} {H : List Ob} {R : V → List Ob → Prop} : Ret C 100 a H R ↔ WP C 100 code100 ⟨initRegs a, 0, H⟩ (finQ C Tryz.f100 H R) := Ret_fn pr100 fi100 fu100 bo100
@[simp] theorem locs100 : C.locs 100 = [1, 2, 3] := by kernel_rfl
noncomputable def code101 : Code := match Tryz.f101.body with | some c => c | none => .skip
theorem fi101 : C.fids 101 = true := by kernel_rfl
theorem bo101 : Tryz.f101.body = some code101 := rfl
theorem pr101 : C.prim 101 = none := rfl
theorem fu101 : C.funcs 101 = some Tryz.f101 := Tryz.func101
theorem op101 {a : List V} {H : List Ob} {R : V → List Ob → Prop} : Ret C 101 a H R ↔ WP C 101 code101 ⟨initRegs a, 0, H⟩ (finQ C Tryz.f101 H R) := Ret_fn pr101 fi101 fu101 bo101
@[simp] theorem locs101 : C.locs 101 = [1, 2, 3] := by kernel_rfl
noncomputable def code102 : Code := match Tryz.f102.body with | some c => c | none => .skip
theorem fi102 : C.fids 102 = true := by kernel_rfl
theorem bo102 : Tryz.f102.body = some code102 := rfl
theorem pr102 : C.prim 102 = none := rfl
theorem fu102 : C.funcs 102 = some Tryz.f102 := Tryz.func102
theorem op102 {a : List V} {H : List Ob} {R : V → List Ob → Prop} : Ret C 102 a H R ↔ WP C 102 code102 ⟨initRegs a, 0, H⟩ (finQ C Tryz.f102 H R) := Ret_fn pr102 fi102 fu102 bo102
@[simp] theorem locs102 : C.locs 102 = [1] := by kernel_rfl
noncomputable def code103 : Code := match Tryz.f103.body with | some c => c | none => .skip
theorem fi103 : C.fids 103 = true := by kernel_rfl
theorem bo103 : Tryz.f103.body = some code103 := rfl
theorem pr103 : C.prim 103 = none := rfl
theorem fu103 : C.funcs 103 = some Tryz.f103 := Tryz.func103
theorem op103 {a : List V} {H : List Ob} {R : V → List Ob → Prop} : Ret C 103 a H R ↔ WP C 103 code103 ⟨initRegs a, 0, H⟩ (finQ C Tryz.f103 H R) := Ret_fn pr103 fi103 fu103 bo103
@[simp] theorem locs103 : C.locs 103 = [] := by kernel_rfl
noncomputable def code104 : Code := match Tryz.f104.body with | some c => c | none => .skip
theorem fi104 : C.fids 104 = true := by kernel_rfl
theorem bo104 : Tryz.f104.body = some code104 := rfl
theorem pr104 : C.prim 104 = none := rfl
theorem fu104 : C.funcs 104 = some Tryz.f104 := Tryz.func104
theorem op104 {a : List V} {H : List Ob} {R : V → List Ob → Prop} : Ret C 104 a H R ↔ WP C 104 code104 ⟨initRegs a, 0, H⟩ (finQ C Tryz.f104 H R) := Ret_fn pr104 fi104 fu104 bo104
@[simp] theorem locs104 : C.locs 104 = [1] := by kernel_rfl
noncomputable def code105 : Code := match Tryz.f105.body with | some c => c | none => .skip
theorem fi105 : C.fids 105 = true := by kernel_rfl
theorem bo105 : Tryz.f105.body = some code105 := rfl
theorem pr105 : C.prim 105 = none := rfl
theorem fu105 : C.funcs 105 = some Tryz.f105 := Tryz.func105
theorem op105 {a : List V} {H : List Ob} {R : V → List Ob → Prop} : Ret C 105 a H R ↔ WP C 105 code105 ⟨initRegs a, 0, H⟩ (finQ C Tryz.f105 H R) := Ret_fn pr105 fi105 fu105 bo105
@[simp] theorem locs105 : C.locs 105 = [4, 7] := by kernel_rfl
noncomputable def code106 : Code := match Tryz.f106.body with | some c => c | none => .skip
theorem fi106 : C.fids 106 = true := by kernel_rfl
theorem bo106 : Tryz.f106.body = some code106 := rfl
theorem pr106 : C.prim 106 = none := rfl
theorem fu106 : C.funcs 106 = some Tryz.f106 := Tryz.func106
theorem op106 {a : List V} {H : List Ob} {R : V → List Ob → Prop} : Ret C 106 a H R ↔ WP C 106 code106 ⟨initRegs a, 0, H⟩ (finQ C Tryz.f106 H R) := Ret_fn pr106 fi106 fu106 bo106
@[simp] theorem locs106 : C.locs 106 = [] := by kernel_rfl
noncomputable def code107 : Code := match Tryz.f107.body with | some c => c | none => .skip
theorem fi107 : C.fids 107 = true := by kernel_rfl
theorem bo107 : Tryz.f107.body = some code107 := rfl
theorem pr107 : C.prim 107 = none := rfl
theorem fu107 : C.funcs 107 = some Tryz.f107 := Tryz.func107
theorem op107 {a : List V} {H : List Ob} {R : V → List Ob → Prop} : Ret C 107 a H R ↔ WP C 107 code107 ⟨initRegs a, 0, H⟩ (finQ C Tryz.f107 H R) := Ret_fn pr107 fi107 fu107 bo107
@[simp] theorem locs107 : C.locs 107 = [] := by kernel_rfl
noncomputable def code108 : Code := match Tryz.f108.body with | some c => c | none => .skip
theorem fi108 : C.fids 108 = true := by kernel_rfl
theorem bo108 : Tryz.f108.body = some code108 := rfl
theorem pr108 : C.prim 108 = none := rfl
theorem fu108 : C.funcs 108 = some Tryz.f108 := Tryz.func108
theorem op108 {a : List V} {H : List Ob} {R : V → List Ob → Prop} : Ret C 108 a H R ↔ WP C 108 code108 ⟨initRegs a, 0, H⟩ (finQ C Tryz.f108 H R) := Ret_fn pr108 fi108 fu108 bo108
@[simp] theorem locs108 : C.locs 108 = [2, 3] := by kernel_rfl
noncomputable def code109 : Code := match Tryz.f109.body with | some c => c | none => .skip
theorem fi109 : C.fids 109 = true := by kernel_rfl
theorem bo109 : Tryz.f109.body = some code109 := rfl
theorem pr109 : C.prim 109 = none := rfl
theorem fu109 : C.funcs 109 = some Tryz.f109 := Tryz.func109
theorem op109 {a : List V} {H : List Ob} {R : V → List Ob → Prop} : Ret C 109 a H R ↔ WP C 109 code109 ⟨initRegs a, 0, H⟩ (finQ C Tryz.f109 H R) := Ret_fn pr109 fi109 fu109 bo109
@[simp] theorem locs109 : C.locs 109 = [2, 3] := by kernel_rfl
noncomputable def code113 : Code := match Tryz.f113.body with | some c => c | none => .skip
theorem fi113 : C.fids 113 = true := by kernel_rfl
theorem bo113 : Tryz.f113.body = some code113 := rfl
theorem pr113 : C.prim 113 = none := rfl
theorem fu113 : C.funcs 113 = some Tryz.f113 := Tryz.func113
theorem op113 {a : List V} {H : List Ob} {R : V → List Ob → Prop} : Ret C 113 a H R ↔ WP C 113 code113 ⟨initRegs a, 0, H⟩ (finQ C Tryz.f113 H R) := Ret_fn pr113 fi113 fu113 bo113
@[simp] theorem locs113 : C.locs 113 = [] := by kernel_rfl
noncomputable def code114 : Code := match Tryz.f114.body with | some c => c | none => .skip
theorem fi114 : C.fids 114 = true := by kernel_rfl
theorem bo114 : Tryz.f114.body = some code114 := rfl
theorem pr114 : C.prim 114 = none := rfl
theorem fu114 : C.funcs 114 = some Tryz.f114 := Tryz.func114
theorem op114 {a : List V} {H : List Ob} {R : V → List Ob → Prop} : Ret C 114 a H R ↔ WP C 114 code114 ⟨initRegs a, 0, H⟩ (finQ C Tryz.f114 H R) := Ret_fn pr114 fi114 fu114 bo114
@[simp] theorem locs114 : C.locs 114 = [] := by kernel_rfl
noncomputable def code116 : Code := match Tryz.f116.body with | some c => c | none => .skip
theorem fi116 : C.fids 116 = true := by kernel_rfl
theorem bo116 : Tryz.f116.body = some code116 := rfl
theorem pr116 : C.prim 116 = none := rfl
theorem fu116 : C.funcs 116 = some Tryz.f116 := Tryz.func116
theorem op116 {a : List V} {H : List Ob} {R : V → List Ob → Prop} : Ret C 116 a H R ↔ WP C 116 code116 ⟨initRegs a, 0, H⟩ (finQ C Tryz.f116 H R) := Ret_fn pr116 fi116 fu116 bo116
@[simp] theorem locs116 : C.locs 116 = [] := by kernel_rfl
noncomputable def code130 : Code := match Tryz.f130.body with | some c => c | none => .skip
theorem fi130 : C.fids 130 = true := by kernel_rfl
theorem bo130 : Tryz.f130.body = some code130 := rfl
theorem pr130 : C.prim 130 = none := rfl
theorem fu130 : C.funcs 130 = some Tryz.f130 := Tryz.func130
theorem op130 {a : List V} {H : List Ob} {R : V → List Ob → Prop} : Ret C 130 a H R ↔ WP C 130 code130 ⟨initRegs a, 0, H⟩ (finQ C Tryz.f130 H R) := Ret_fn pr130 fi130 fu130 bo130
@[simp] theorem locs130 : C.locs 130 = [] := by kernel_rfl
noncomputable def code131 : Code := match Tryz.f131.body with | some c => c | none => .skip
theorem fi131 : C.fids 131 = true := by kernel_rfl
theorem bo131 : Tryz.f131.body = some code131 := rfl
theorem pr131 : C.prim 131 = none := rfl
theorem fu131 : C.funcs 131 = some Tryz.f131 := Tryz.func131
theorem op131 {a : List V} {H : List Ob} {R : V → List Ob → Prop} : Ret C 131 a H R ↔ WP C 131 code131 ⟨initRegs a, 0, H⟩ (finQ C Tryz.f131 H R) := Ret_fn pr131 fi131 fu131 bo131
@[simp] theorem locs131 : C.locs 131 = [] := by kernel_rfl
noncomputable def code133 : Code := match Tryz.f133.body with | some c => c | none => .skip
theorem fi133 : C.fids 133 = true := by kernel_rfl
theorem bo133 : Tryz.f133.body = some code133 := rfl
theorem pr133 : C.prim 133 = none := rfl
theorem fu133 : C.funcs 133 = some Tryz.f133 := Tryz.func133
theorem op133 {a : List V} {H : List Ob} {R : V → List Ob → Prop} : Ret C 133 a H R ↔ WP C 133 code133 ⟨initRegs a, 0, H⟩ (finQ C Tryz.f133 H R) := Ret_fn pr133 fi133 fu133 bo133
@[simp] theorem locs133 : C.locs 133 = [] := by kernel_rfl
noncomputable def code134 : Code := match Tryz.f134.body with | some c => c | none => .skip
theorem fi134 : C.fids 134 = true := by kernel_rfl
theorem bo134 : Tryz.f134.body = some code134 := rfl
theorem pr134 : C.prim 134 = none := rfl
theorem fu134 : C.funcs 134 = some Tryz.f134 := Tryz.func134
theorem op134 {a : List V} {H : List Ob} {R : V → List Ob → Prop} : Ret C 134 a H R ↔ WP C 134 code134 ⟨initRegs a, 0, H⟩ (finQ C Tryz.f134 H R) := Ret_fn pr134 fi134 fu134 bo134
@[simp] theorem locs134 : C.locs 134 = [] := by kernel_rfl
noncomputable def code135 : Code := match Tryz.f135.body with | some c => c | none => .skip
theorem fi135 : C.fids 135 = true := by kernel_rfl
theorem bo135 : Tryz.f135.body = some code135 := rfl
theorem pr135 : C.prim 135 = none := rfl
theorem fu135 : C.funcs 135 = some Tryz.f135 := Tryz.func135
theorem op135 {a : List V} {H : List Ob} {R : V → List Ob → Prop} : Ret C 135 a H R ↔ WP C 135 code135 ⟨initRegs a, 0, H⟩ (finQ C Tryz.f135 H R) := Ret_fn pr135 fi135 fu135 bo135
@[simp] theorem locs135 : C.locs 135 = [] := by kernel_rfl
noncomputable def code136 : Code := match Tryz.f136.body with | some c => c | none => .skip
theorem fi136 : C.fids 136 = true := by kernel_rfl
theorem bo136 : Tryz.f136.body = some code136 := rfl
theorem pr136 : C.prim 136 = none := rfl
theorem fu136 : C.funcs 136 = some Tryz.f136 := Tryz.func136
theorem op136 {a : List V} {H : List Ob} {R : V → List Ob → Prop} : Ret C 136 a H R ↔ WP C 136 code136 ⟨initRegs a, 0, H⟩ (finQ C Tryz.f136 H R) := Ret_fn pr136 fi136 fu136 bo136
@[simp] theorem locs136 : C.locs 136 = [] := by kernel_rfl
noncomputable def code137 : Code := match Tryz.f137.body with | some c => c | none => .skip
theorem fi137 : C.fids 137 = true := by kernel_rfl
theorem bo137 : Tryz.f137.body = some code137 := rfl
theorem pr137 : C.prim 137 = none := rfl
theorem fu137 : C.funcs 137 = some Tryz.f137 := Tryz.func137
theorem op137 {a : List V} {H : List Ob} {R : V → List Ob → Prop} : Ret C 137 a H R ↔ WP C 137 code137 ⟨initRegs a, 0, H⟩ (finQ C Tryz.f137 H R) := Ret_fn pr137 fi137 fu137 bo137
@[simp] theorem locs137 : C.locs 137 = [] := by kernel_rfl
noncomputable def code138 : Code := match Tryz.f138.body with | some c => c | none => .skip
theorem fi138 : C.fids 138 = true := by kernel_rfl
theorem bo138 : Tryz.f138.body = some code138 := rfl
theorem pr138 : C.prim 138 = none := rfl
theorem fu138 : C.funcs 138 = some Tryz.f138 := Tryz.func138
theorem op138 {a : List V} {H : List Ob} {R : V → List Ob → Prop} : Ret C 138 a H R ↔ WP C 138 code138 ⟨initRegs a, 0, H⟩ (finQ C Tryz.f138 H R) := Ret_fn pr138 fi138 fu138 bo138
@[simp] theorem locs138 : C.locs 138 = [] := by kernel_rfl
noncomputable def code139 : Code := match Tryz.f139.body with | some c => c | none => .skip
theorem fi139 : C.fids 139 = true := by kernel_rfl
theorem bo139 : Tryz.f139.body = some code139 := rfl
theorem pr139 : C.prim 139 = none := rfl
theorem fu139 : C.funcs 139 = some Tryz.f139 := Tryz.func139
theorem op139 {a : List V} {H : List Ob} {R : V → List Ob → Prop} : Ret C 139 a H R ↔ WP C 139 code139 ⟨initRegs a, 0, H⟩ (finQ C Tryz.f139 H R) := Ret_fn pr139 fi139 fu139 bo139
@[simp] theorem locs139 : C.locs 139 = [] := by kernel_rfl
noncomputable def code140 : Code := match Tryz.f140.body with | some c => c | none => .skip
theorem fi140 : C.fids 140 = true := by kernel_rfl
theorem bo140 : Tryz.f140.body = some code140 := rfl
theorem pr140 : C.prim 140 = none := rfl
theorem fu140 : C.funcs 140 = some Tryz.f140 := Tryz.func140
theorem op140 {a : List V} {H : List Ob} {R : V → List Ob → Prop} : Ret C 140 a H R ↔ WP C 140 code140 ⟨initRegs a, 0, H⟩ (finQ C Tryz.f140 H R) := Ret_fn pr140 fi140 fu140 bo140
@[simp] theorem locs140 : C.locs 140 = [] := by kernel_rfl
noncomputable def code141 : Code := match Tryz.f141.body with | some c => c | none => .skip
theorem fi141 : C.fids 141 = true := by kernel_rfl
theorem bo141 : Tryz.f141.body = some code141 := rfl
theorem pr141 : C.prim 141 = none := rfl
theorem fu141 : C.funcs 141 = some Tryz.f141 := Tryz.func141
theorem op141 {a : List V} {H : List Ob} {R : V → List Ob → Prop} : Ret C 141 a H R ↔ WP C 141 code141 ⟨initRegs a, 0, H⟩ (finQ C Tryz.f141 H R) := Ret_fn pr141 fi141 fu141 bo141
@[simp] theorem locs141 : C.locs 141 = [] := by kernel_rfl
noncomputable def code142 : Code := match Tryz.f142.body with | some c => c | none => .skip
theorem fi142 : C.fids 142 = true := by kernel_rfl
theorem bo142 : Tryz.f142.body = some code142 := rfl
theorem pr142 : C.prim 142 = none := rfl
theorem fu142 : C.funcs 142 = some Tryz.f142 := Tryz.func142
theorem op142 {a : List V} {H : List Ob} {R : V → List Ob → Prop} : Ret C 142 a H R ↔ WP C 142 code142 ⟨initRegs a, 0, H⟩ (finQ C Tryz.f142 H R) := Ret_fn pr142 fi142 fu142 bo142
@[simp] theorem locs142 : C.locs 142 = [] := by kernel_rfl
noncomputable def code143 : Code := match Tryz.f143.body with | some c => c | none => .skip
theorem fi143 : C.fids 143 = true := by kernel_rfl
theorem bo143 : Tryz.f143.body = some code143 := rfl
theorem pr143 : C.prim 143 = none := rfl
theorem fu143 : C.funcs 143 = some Tryz.f143 := Tryz.func143
theorem op143 {a : List V} {H : List Ob} {R : V → List Ob → Prop} : Ret C 143 a H R ↔ WP C 143 code143 ⟨initRegs a, 0, H⟩ (finQ C Tryz.f143 H R) := Ret_fn pr143 fi143 fu143 bo143
@[simp] theorem locs143 : C.locs 143 = [] := by kernel_rfl
noncomputable def code144 : Code := match Tryz.f144.body with | some c => c | none => .skip
theorem fi144 : C.fids 144 = true := by kernel_rfl
theorem bo144 : Tryz.f144.body = some code144 := rfl
theorem pr144 : C.prim 144 = none := rfl
theorem fu144 : C.funcs 144 = some Tryz.f144 := Tryz.func144
theorem op144 {a : List V} {H : List Ob} {R : V → List Ob → Prop} : Ret C 144 a H R ↔ WP C 144 code144 ⟨initRegs a, 0, H⟩ (finQ C Tryz.f144 H R) := Ret_fn pr144 fi144 fu144 bo144
@[simp] theorem locs144 : C.locs 144 = [] := by kernel_rfl
noncomputable def code145 : Code := match Tryz.f145.body with | some c => c | none => .skip
theorem fi145 : C.fids 145 = true := by kernel_rfl
theorem bo145 : Tryz.f145.body = some code145 := rfl
theorem pr145 : C.prim 145 = none := rfl
theorem fu145 : C.funcs 145 = some Tryz.f145 := Tryz.func145
theorem op145 {a : List V} {H : List Ob} {R : V → List Ob → Prop} : Ret C 145 a H R ↔ WP C 145 code145 ⟨initRegs a, 0, H⟩ (finQ C Tryz.f145 H R) := Ret_fn pr145 fi145 fu145 bo145
@[simp] theorem locs145 : C.locs 145 = [1] := by kernel_rfl
noncomputable def code146 : Code := match Tryz.f146.body with | some c => c | none => .skip
theorem fi146 : C.fids 146 = true := by kernel_rfl
theorem bo146 : Tryz.f146.body = some code146 := rfl
theorem pr146 : C.prim 146 = none := rfl
theorem fu146 : C.funcs 146 = some Tryz.f146 := Tryz.func146
theorem op146 {a : List V} {H : List Ob} {R : V → List Ob → Prop} : Ret C 146 a H R ↔ WP C 146 code146 ⟨initRegs a, 0, H⟩ (finQ C Tryz.f146 H R) := Ret_fn pr146 fi146 fu146 bo146
@[simp] theorem locs146 : C.locs 146 = [1] := by kernel_rfl
noncomputable def code147 : Code := match Tryz.f147.body with | some c => c | none => .skip
theorem fi147 : C.fids 147 = true := by kernel_rfl
theorem bo147 : Tryz.f147.body = some code147 := rfl
theorem pr147 : C.prim 147 = none := rfl
theorem fu147 : C.funcs 147 = some Tryz.f147 := Tryz.func147
theorem op147 {a : List V} {H : List Ob} {R : V → List Ob → Prop} : Ret C 147 a H R ↔ WP C 147 code147 ⟨initRegs a, 0, H⟩ (finQ C Tryz.f147 H R) := Ret_fn pr147 fi147 fu147 bo147
@[simp] theorem locs147 : C.locs 147 = [] := by kernel_rfl
noncomputable def code148 : Code := match Tryz.f148.body with | some c => c | none => .skip
theorem fi148 : C.fids 148 = true := by kernel_rfl
theorem bo148 : Tryz.f148.body = some code148 := rfl
theorem pr148 : C.prim 148 = none := rfl
theorem fu148 : C.funcs 148 = some Tryz.f148 := Tryz.func148
theorem op148 {a : List V} {H : List Ob} {R : V → List Ob → Prop} : Ret C 148 a H R ↔ WP C 148 code148 ⟨initRegs a, 0, H⟩ (finQ C Tryz.f148 H R) := Ret_fn pr148 fi148 fu148 bo148
@[simp] theorem locs148 : C.locs 148 = [] := by kernel_rfl
noncomputable def code149 : Code := match Tryz.f149.body with | some c => c | none => .skip
theorem fi149 : C.fids 149 = true := by kernel_rfl
theorem bo149 : Tryz.f149.body = some code149 := rfl
theorem pr149 : C.prim 149 = none := rfl
theorem fu149 : C.funcs 149 = some Tryz.f149 := Tryz.func149
theorem op149 {a : List V} {H : List Ob} {R : V → List Ob → Prop} : Ret C 149 a H R ↔ WP C 149 code149 ⟨initRegs a, 0, H⟩ (finQ C Tryz.f149 H R) := Ret_fn pr149 fi149 fu149 bo149
@[simp] theorem locs149 : C.locs 149 = [] := by kernel_rfl
noncomputable def code150 : Code := match Tryz.f150.body with | some c => c | none => .skip
theorem fi150 : C.fids 150 = true := by kernel_rfl
theorem bo150 : Tryz.f150.body = some code150 := rfl
theorem pr150 : C.prim 150 = none := rfl
theorem fu150 : C.funcs 150 = some Tryz.f150 := Tryz.func150
theorem op150 {a : List V} {H : List Ob} {R : V → List Ob → Prop} : Ret C 150 a H R ↔ WP C 150 code150 ⟨initRegs a, 0, H⟩ (finQ C Tryz.f150 H R) := Ret_fn pr150 fi150 fu150 bo150
@[simp] theorem locs150 : C.locs 150 = [2] := by kernel_rfl
noncomputable def code151 : Code := match Tryz.f151.body with | some c => c | none => .skip
theorem fi151 : C.fids 151 = true := by kernel_rfl
theorem bo151 : Tryz.f151.body = some code151 := rfl
theorem pr151 : C.prim 151 = none := rfl
theorem fu151 : C.funcs 151 = some Tryz.f151 := Tryz.func151
theorem op151 {a : List V} {H : List Ob} {R : V → List Ob → Prop} : Ret C 151 a H R ↔ WP C 151 code151 ⟨initRegs a, 0, H⟩ (finQ C Tryz.f151 H R) := Ret_fn pr151 fi151 fu151 bo151
@[simp] theorem locs151 : C.locs 151 = [] := by kernel_rfl
noncomputable def code155 : Code := match Tryz.f155.body with | some c => c | none => .skip
theorem fi155 : C.fids 155 = true := by kernel_rfl
theorem bo155 : Tryz.f155.body = some code155 := rfl
theorem pr155 : C.prim 155 = none := rfl
theorem fu155 : C.funcs 155 = some Tryz.f155 := Tryz.func155
theorem op155 {a : List V} {H : List Ob} {R : V → List Ob → Prop} : Ret C 155 a H R ↔ WP C 155 code155 ⟨initRegs a, 0, H⟩ (finQ C Tryz.f155 H R) := Ret_fn pr155 fi155 fu155 bo155
@[simp] theorem locs155 : C.locs 155 = [] := by kernel_rfl
noncomputable def code156 : Code := match Tryz.f156.body with | some c => c | none => .skip
theorem fi156 : C.fids 156 = true := by kernel_rfl
theorem bo156 : Tryz.f156.body = some code156 := rfl
theorem pr156 : C.prim 156 = none := rfl
theorem fu156 : C.funcs 156 = some Tryz.f156 := Tryz.func156
theorem op156 {a : List V} {H : List Ob} {R : V → List Ob → Prop} : Ret C 156 a H R ↔ WP C 156 code156 ⟨initRegs a, 0, H⟩ (finQ C Tryz.f156 H R) := Ret_fn pr156 fi156 fu156 bo156
@[simp] theorem locs156 : C.locs 156 = [] := by kernel_rfl
noncomputable def code157 : Code := match Tryz.f157.body with | some c => c | none => .skip
theorem fi157 : C.fids 157 = true := by kernel_rfl
theorem bo157 : Tryz.f157.body = some code157 := rfl
theorem pr157 : C.prim 157 = none := rfl
theorem fu157 : C.funcs 157 = some Tryz.f157 := Tryz.func157
theorem op157 {a : List V} {H : List Ob} {R : V → List Ob → Prop} : Ret C 157 a H R ↔ WP C 157 code157 ⟨initRegs a, 0, H⟩ (finQ C Tryz.f157 H R) := Ret_fn pr157 fi157 fu157 bo157
@[simp] theorem locs157 : C.locs 157 = [] := by kernel_rfl
noncomputable def code158 : Code := match Tryz.f158.body with | some c => c | none => .skip
theorem fi158 : C.fids 158 = true := by kernel_rfl
theorem bo158 : Tryz.f158.body = some code158 := rfl
theorem pr158 : C.prim 158 = none := rfl
theorem fu158 : C.funcs 158 = some Tryz.f158 := Tryz.func158
theorem op158 {a : List V} {H : List Ob} {R : V → List Ob → Prop} : Ret C 158 a H R ↔ WP C 158 code158 ⟨initRegs a, 0, H⟩ (finQ C Tryz.f158 H R) := Ret_fn pr158 fi158 fu158 bo158
@[simp] theorem locs158 : C.locs 158 = [2] := by kernel_rfl
noncomputable def code159 : Code := match Tryz.f159.body with | some c => c | none => .skip
theorem fi159 : C.fids 159 = true := by kernel_rfl
theorem bo159 : Tryz.f159.body = some code159 := rfl
theorem pr159 : C.prim 159 = none := rfl
theorem fu159 : C.funcs 159 = some Tryz.f159 := Tryz.func159
theorem op159 {a : List V} {H : List Ob} {R : V → List Ob → Prop} : Ret C 159 a H R ↔ WP C 159 code159 ⟨initRegs a, 0, H⟩ (finQ C Tryz.f159 H R) := Ret_fn pr159 fi159 fu159 bo159
@[simp] theorem locs159 : C.locs 159 = [] := by kernel_rfl
noncomputable def code160 : Code := match Tryz.f160.body with | some c => c | none => .skip
theorem fi160 : C.fids 160 = true := by kernel_rfl
theorem bo160 : Tryz.f160.body = some code160 := rfl
theorem pr160 : C.prim 160 = none := rfl
theorem fu160 : C.funcs 160 = some Tryz.f160 := Tryz.func160
theorem op160 {a : List V} {H : List Ob} {R : V → List Ob → Prop} : Ret C 160 a H R ↔ WP C 160 code160 ⟨initRegs a, 0, H⟩ (finQ C Tryz.f160 H R) := Ret_fn pr160 fi160 fu160 bo160
@[simp] theorem locs160 : C.locs 160 = [] := by kernel_rfl
noncomputable def code161 : Code := match Tryz.f161.body with | some c => c | none => .skip
theorem fi161 : C.fids 161 = true := by kernel_rfl
theorem bo161 : Tryz.f161.body = some code161 := rfl
theorem pr161 : C.prim 161 = none := rfl
theorem fu161 : C.funcs 161 = some Tryz.f161 := Tryz.func161
theorem op161 {a : List V} {H : List Ob} {R : V → List Ob → Prop} : Ret C 161 a H R ↔ WP C 161 code161 ⟨initRegs a, 0, H⟩ (finQ C Tryz.f161 H R) := Ret_fn pr161 fi161 fu161 bo161
@[simp] theorem locs161 : C.locs 161 = [] := by kernel_rfl
noncomputable def code162 : Code := match Tryz.f162.body with | some c => c | none => .skip
theorem fi162 : C.fids 162 = true := by kernel_rfl
theorem bo162 : Tryz.f162.body = some code162 := rfl
theorem pr162 : C.prim 162 = none := rfl
theorem fu162 : C.funcs 162 = some Tryz.f162 := Tryz.func162
theorem op162 {a : List V} {H : List Ob} {R : V → List Ob → Prop} : Ret C 162 a H R ↔ WP C 162 code162 ⟨initRegs a, 0, H⟩ (finQ C Tryz.f162 H R) := Ret_fn pr162 fi162 fu162 bo162
@[simp] theorem locs162 : C.locs 162 = [] := by kernel_rfl
noncomputable def code164 : Code := match Tryz.f164.body with | some c => c | none => .skip
theorem fi164 : C.fids 164 = true := by kernel_rfl
theorem bo164 : Tryz.f164.body = some code164 := rfl
theorem pr164 : C.prim 164 = none := rfl
theorem fu164 : C.funcs 164 = some Tryz.f164 := Tryz.func164
theorem op164 {a : List V} {H : List Ob} {R : V → List Ob → Prop} : Ret C 164 a H R ↔ WP C 164 code164 ⟨initRegs a, 0, H⟩ (finQ C Tryz.f164 H R) := Ret_fn pr164 fi164 fu164 bo164
@[simp] theorem locs164 : C.locs 164 = [] := by kernel_rfl
noncomputable def code165 : Code := match Tryz.f165.body with | some c => c | none => .skip
theorem fi165 : C.fids 165 = true := by kernel_rfl
theorem bo165 : Tryz.f165.body = some code165 := rfl
theorem pr165 : C.prim 165 = none := rfl
theorem fu165 : C.funcs 165 = some Tryz.f165 := Tryz.func165
theorem op165 {a : List V} {H : List Ob} {R : V → List Ob → Prop} : Ret C 165 a H R ↔ WP C 165 code165 ⟨initRegs a, 0, H⟩ (finQ C Tryz.f165 H R) := Ret_fn pr165 fi165 fu165 bo165
@[simp] theorem locs165 : C.locs 165 = [2] := by kernel_rfl
noncomputable def code166 : Code := match Tryz.f166.body with | some c => c | none => .skip
theorem fi166 : C.fids 166 = true := by kernel_rfl
theorem bo166 : Tryz.f166.body = some code166 := rfl
theorem pr166 : C.prim 166 = none := rfl
theorem fu166 : C.funcs 166 = some Tryz.f166 := Tryz.func166
theorem op166 {a : List V} {H : List Ob} {R : V → List Ob → Prop} : Ret C 166 a H R ↔ WP C 166 code166 ⟨initRegs a, 0, H⟩ (finQ C Tryz.f166 H R) := Ret_fn pr166 fi166 fu166 bo166
@[simp] theorem locs166 : C.locs 166 = [] := by kernel_rfl
noncomputable def code171 : Code := match Tryz.f171.body with | some c => c | none => .skip
theorem fi171 : C.fids 171 = true := by kernel_rfl
theorem bo171 : Tryz.f171.body = some code171 := rfl
theorem pr171 : C.prim 171 = none := rfl
theorem fu171 : C.funcs 171 = some Tryz.f171 := Tryz.func171
theorem op171 {a : List V} {H : List Ob} {R : V → List Ob → Prop} : Ret C 171 a H R ↔ WP C 171 code171 ⟨initRegs a, 0, H⟩ (finQ C Tryz.f171 H R) := Ret_fn pr171 fi171 fu171 bo171
@[simp] theorem locs171 : C.locs 171 = [] := by kernel_rfl
noncomputable def code172 : Code := match Tryz.f172.body with | some c => c | none => .skip
theorem fi172 : C.fids 172 = true := by kernel_rfl
theorem bo172 : Tryz.f172.body = some code172 := rfl
theorem pr172 : C.prim 172 = none := rfl
theorem fu172 : C.funcs 172 = some Tryz.f172 := Tryz.func172
theorem op172 {a : List V} {H : List Ob} {R : V → List Ob → Prop} : Ret C 172 a H R ↔ WP C 172 code172 ⟨initRegs a, 0, H⟩ (finQ C Tryz.f172 H R) := Ret_fn pr172 fi172 fu172 bo172
@[simp] theorem locs172 : C.locs 172 = [] := by kernel_rfl
noncomputable def code174 : Code := match Tryz.f174.body with | some c => c | none => .skip
theorem fi174 : C.fids 174 = true := by kernel_rfl
theorem bo174 : Tryz.f174.body = some code174 := rfl
theorem pr174 : C.prim 174 = none := rfl
theorem fu174 : C.funcs 174 = some Tryz.f174 := Tryz.func174
theorem op174 {a : List V} {H : List Ob} {R : V → List Ob → Prop} : Ret C 174 a H R ↔ WP C 174 code174 ⟨initRegs a, 0, H⟩ (finQ C Tryz.f174 H R) := Ret_fn pr174 fi174 fu174 bo174
@[simp] theorem locs174 : C.locs 174 = [] := by kernel_rfl
noncomputable def code175 : Code := match Tryz.f175.body with | some c => c | none => .skip
theorem fi175 : C.fids 175 = true := by kernel_rfl
theorem bo175 : Tryz.f175.body = some code175 := rfl
theorem pr175 : C.prim 175 = none := rfl
theorem fu175 : C.funcs 175 = some Tryz.f175 := Tryz.func175
theorem op175 {a : List V} {H : List Ob} {R : V → List Ob → Prop} : Ret C 175 a H R ↔ WP C 175 code175 ⟨initRegs a, 0, H⟩ (finQ C Tryz.f175 H R) := Ret_fn pr175 fi175 fu175 bo175
@[simp] theorem locs175 : C.locs 175 = [] := by kernel_rfl
noncomputable def code176 : Code := match Tryz.f176.body with | some c => c | none => .skip
theorem fi176 : C.fids 176 = true := by kernel_rfl
theorem bo176 : Tryz.f176.body = some code176 := rfl
theorem pr176 : C.prim 176 = none := rfl
theorem fu176 : C.funcs 176 = some Tryz.f176 := Tryz.func176
theorem op176 {a : List V} {H : List Ob} {R : V → List Ob → Prop} : Ret C 176 a H R ↔ WP C 176 code176 ⟨initRegs a, 0, H⟩ (finQ C Tryz.f176 H R) := Ret_fn pr176 fi176 fu176 bo176
@[simp] theorem locs176 : C.locs 176 = [] := by kernel_rfl
noncomputable def code187 : Code := match Tryz.f187.body with | some c => c | none => .skip
theorem fi187 : C.fids 187 = true := by kernel_rfl
theorem bo187 : Tryz.f187.body = some code187 := rfl
theorem pr187 : C.prim 187 = none := rfl
theorem fu187 : C.funcs 187 = some Tryz.f187 := Tryz.func187
theorem op187 {a : List V} {H : List Ob} {R : V → List Ob → Prop} : Ret C 187 a H R ↔ WP C 187 code187 ⟨initRegs a, 0, H⟩ (finQ C Tryz.f187 H R) := Ret_fn pr187 fi187 fu187 bo187
@[simp] theorem locs187 : C.locs 187 = [] := by kernel_rfl
noncomputable def code188 : Code := match Tryz.f188.body with | some c => c | none => .skip
theorem fi188 : C.fids 188 = true := by kernel_rfl
theorem bo188 : Tryz.f188.body = some code188 := rfl
theorem pr188 : C.prim 188 = none := rfl
theorem fu188 : C.funcs 188 = some Tryz.f188 := Tryz.func188
theorem op188 {a : List V} {H : List Ob} {R : V → List Ob → Prop} : Ret C 188 a H R ↔ WP C 188 code188 ⟨initRegs a, 0, H⟩ (finQ C Tryz.f188 H R) := Ret_fn pr188 fi188 fu188 bo188
@[simp] theorem locs188 : C.locs 188 = [] := by kernel_rfl
noncomputable def code189 : Code := match Tryz.f189.body with | some c => c | none => .skip
theorem fi189 : C.fids 189 = true := by kernel_rfl
theorem bo189 : Tryz.f189.body = some code189 := rfl
theorem pr189 : C.prim 189 = none := rfl
theorem fu189 : C.funcs 189 = some Tryz.f189 := Tryz.func189
theorem op189 {a : List V} {H : List Ob} {R : V → List Ob → Prop} : Ret C 189 a H R ↔ WP C 189 code189 ⟨initRegs a, 0, H⟩ (finQ C Tryz.f189 H R) := Ret_fn pr189 fi189 fu189 bo189
@[simp] theorem locs189 : C.locs 189 = [] := by kernel_rfl
noncomputable def code190 : Code := match Tryz.f190.body with | some c => c | none => .skip
theorem fi190 : C.fids 190 = true := by kernel_rfl
theorem bo190 : Tryz.f190.body = some code190 := rfl
theorem pr190 : C.prim 190 = none := rfl
theorem fu190 : C.funcs 190 = some Tryz.f190 := Tryz.func190
theorem op190 {a : List V} {H : List Ob} {R : V → List Ob → Prop} : Ret C 190 a H R ↔ WP C 190 code190 ⟨initRegs a, 0, H⟩ (finQ C Tryz.f190 H R) := Ret_fn pr190 fi190 fu190 bo190
@[simp] theorem locs190 : C.locs 190 = [] := by kernel_rfl
noncomputable def code191 : Code := match Tryz.f191.body with | some c => c | none => .skip
theorem fi191 : C.fids 191 = true := by kernel_rfl
theorem bo191 : Tryz.f191.body = some code191 := rfl
theorem pr191 : C.prim 191 = none := rfl
theorem fu191 : C.funcs 191 = some Tryz.f191 := Tryz.func191
theorem op191 {a : List V} {H : List Ob} {R : V → List Ob → Prop} : Ret C 191 a H R ↔ WP C 191 code191 ⟨initRegs a, 0, H⟩ (finQ C Tryz.f191 H R) := Ret_fn pr191 fi191 fu191 bo191
@[simp] theorem locs191 : C.locs 191 = [] := by kernel_rfl
noncomputable def code192 : Code := match Tryz.f192.body with | some c => c | none => .skip
theorem fi192 : C.fids 192 = true := by kernel_rfl
theorem bo192 : Tryz.f192.body = some code192 := rfl
theorem pr192 : C.prim 192 = none := rfl
theorem fu192 : C.funcs 192 = some Tryz.f192 := Tryz.func192
theorem op192 {a : List V} {H : List Ob} {R : V → List Ob → Prop} : Ret C 192 a H R ↔ WP C 192 code192 ⟨initRegs a, 0, H⟩ (finQ C Tryz.f192 H R) := Ret_fn pr192 fi192 fu192 bo192
@[simp] theorem locs192 : C.locs 192 = [] := by kernel_rfl
noncomputable def code196 : Code := match Tryz.f196.body with | some c => c | none => .skip
theorem fi196 : C.fids 196 = true := by kernel_rfl
theorem bo196 : Tryz.f196.body = some code196 := rfl
theorem pr196 : C.prim 196 = none := rfl
theorem fu196 : C.funcs 196 = some Tryz.f196 := Tryz.func196
theorem op196 {a : List V} {H : List Ob} {R : V → List Ob → Prop} : Ret C 196 a H R ↔ WP C 196 code196 ⟨initRegs a, 0, H⟩ (finQ C Tryz.f196 H R) := Ret_fn pr196 fi196 fu196 bo196
@[simp] theorem locs196 : C.locs 196 = [] := by kernel_rfl
noncomputable def code204 : Code := match Tryz.f204.body with | some c => c | none => .skip
theorem fi204 : C.fids 204 = true := by kernel_rfl
theorem bo204 : Tryz.f204.body = some code204 := rfl
theorem pr204 : C.prim 204 = none := rfl
theorem fu204 : C.funcs 204 = some Tryz.f204 := Tryz.func204
theorem op204 {a : List V} {H : List Ob} {R : V → List Ob → Prop} : Ret C 204 a H R ↔ WP C 204 code204 ⟨initRegs a, 0, H⟩ (finQ C Tryz.f204 H R) := Ret_fn pr204 fi204 fu204 bo204
@[simp] theorem locs204 : C.locs 204 = [9] := by kernel_rfl
noncomputable def code206 : Code := match Tryz.f206.body with | some c => c | none => .skip
theorem fi206 : C.fids 206 = true := by kernel_rfl
theorem bo206 : Tryz.f206.body = some code206 := rfl
theorem pr206 : C.prim 206 = none := rfl
theorem fu206 : C.funcs 206 = some Tryz.f206 := Tryz.func206
theorem op206 {a : List V} {H : List Ob} {R : V → List Ob → Prop} : Ret C 206 a H R ↔ WP C 206 code206 ⟨initRegs a, 0, H⟩ (finQ C Tryz.f206 H R) := Ret_fn pr206 fi206 fu206 bo206
@[simp] theorem locs206 : C.locs 206 = [] := by kernel_rfl
noncomputable def code219 : Code := match Tryz.f219.body with | some c => c | none => .skip
theorem fi219 : C.fids 219 = true := by kernel_rfl
theorem bo219 : Tryz.f219.body = some code219 := rfl
theorem pr219 : C.prim 219 = none := rfl
theorem fu219 : C.funcs 219 = some Tryz.f219 := Tryz.func219
theorem op219 {a : List V} {H : List Ob} {R : V → List Ob → Prop} : Ret C 219 a H R ↔ WP C 219 code219 ⟨initRegs a, 0, H⟩ (finQ C Tryz.f219 H R) := Ret_fn pr219 fi219 fu219 bo219
@[simp] theorem locs219 : C.locs 219 = [] := by kernel_rfl
noncomputable def code220 : Code := match Tryz.f220.body with | some c => c | none => .skip
theorem fi220 : C.fids 220 = true := by kernel_rfl
theorem bo220 : Tryz.f220.body = some code220 := rfl
theorem pr220 : C.prim 220 = none := rfl
theorem fu220 : C.funcs 220 = some Tryz.f220 := Tryz.func220
theorem op220 {a : List V} {H : List Ob} {R : V → List Ob → Prop} : Ret C 220 a H R ↔ WP C 220 code220 ⟨initRegs a, 0, H⟩ (finQ C Tryz.f220 H R) := Ret_fn pr220 fi220 fu220 bo220
@[simp] theorem locs220 : C.locs 220 = [] := by kernel_rfl
noncomputable def code221 : Code := match Tryz.f221.body with | some c => c | none => .skip
theorem fi221 : C.fids 221 = true := by kernel_rfl
theorem bo221 : Tryz.f221.body = some code221 := rfl
theorem pr221 : C.prim 221 = none := rfl
theorem fu221 : C.funcs 221 = some Tryz.f221 := Tryz.func221
theorem op221 {a : List V} {H : List Ob} {R : V → List Ob → Prop} : Ret C 221 a H R ↔ WP C 221 code221 ⟨initRegs a, 0, H⟩ (finQ C Tryz.f221 H R) := Ret_fn pr221 fi221 fu221 bo221
@[simp] theorem locs221 : C.locs 221 = [] := by kernel_rfl
noncomputable def code227 : Code := match Tryz.f227.body with | some c => c | none => .skip
theorem fi227 : C.fids 227 = true := by kernel_rfl
theorem bo227 : Tryz.f227.body = some code227 := rfl
theorem pr227 : C.prim 227 = none := rfl
theorem fu227 : C.funcs 227 = some Tryz.f227 := Tryz.func227
theorem op227 {a : List V} {H : List Ob} {R : V → List Ob → Prop} : Ret C 227 a H R ↔ WP C 227 code227 ⟨initRegs a, 0, H⟩ (finQ C Tryz.f227 H R) := Ret_fn pr227 fi227 fu227 bo227
@[simp] theorem locs227 : C.locs 227 = [] := by kernel_rfl
@[simp] theorem ord3_8 : C.ord 3 8 = some ⟨[0, 2, 1, 3, 4, 5], [], [], [(2, 3)]⟩ := by kernel_rfl
@[simp] theorem ord3_16 : C.ord 3 16 = some ⟨[0, 1, 2, 3, 4], [], [], [(0, 8), (1, 3)]⟩ := by kernel_rfl
@[simp] theorem ord3_31 : C.ord 3 31 = some ⟨[0, 2, 1, 3, 4, 5], [], [], [(2, 3)]⟩ := by kernel_rfl
@[simp] theorem ord9_8 : C.ord 9 8 = none := by kernel_rfl
@[simp] theorem ord13_6 : C.ord 13 6 = none := by kernel_rfl
@[simp] theorem ord14_6 : C.ord 14 6 = none := by kernel_rfl
@[simp] theorem ord19_4 : C.ord 19 4 = some ⟨[0, 1, 2, 3, 4, 5, 6], [5], [3], []⟩ := by kernel_rfl
@[simp] theorem ord43_4 : C.ord 43 4 = none := by kernel_rfl
@[simp] theorem ord49_6 : C.ord 49 6 = none := by kernel_rfl
@[simp] theorem ord50_6 : C.ord 50 6 = none := by kernel_rfl
@[simp] theorem ord54_6 : C.ord 54 6 = none := by kernel_rfl
@[simp] theorem ord55_6 : C.ord 55 6 = none := by kernel_rfl
@[simp] theorem ord86_4 : C.ord 86 4 = none := by kernel_rfl
@[simp] theorem ord97_6 : C.ord 97 6 = none := by kernel_rfl
@[simp] theorem ord97_11 : C.ord 97 11 = none := by kernel_rfl
@[simp] theorem ord102_8 : C.ord 102 8 = some ⟨[0, 1, 2, 3, 4, 8, 9, 5, 6, 7, 10, 11, 12, 13, 14, 15, 16, 17, 18, 19, 20, 21, 22, 23, 24], [5, 6], [8], [(1, 1), (19, 1)]⟩ := by kernel_rfl
@[simp] theorem ord105_5 : C.ord 105 5 = some ⟨[0, 1, 2, 3, 5, 6, 8, 9, 4, 7, 10, 11, 12, 13], [], [], [(1, 7), (3, 7), (6, 7), (9, 7), (12, 4)]⟩ := by kernel_rfl
@[simp] theorem ord114_4 : C.ord 114 4 = none := by kernel_rfl
@[simp] theorem ord130_4 : C.ord 130 4 = some ⟨[0, 1, 2, 3, 4, 5, 6, 7, 8, 9, 10, 11, 12, 13, 14, 16, 17, 18, 19, 15, 20, 21, 22, 23], [15], [19], []⟩ := by kernel_rfl
@[simp] theorem ord136_4 : C.ord 136 4 = none := by kernel_rfl
@[simp] theorem ord174_6 : C.ord 174 6 = none := by kernel_rfl
@[simp] theorem ord174_11 : C.ord 174 11 = none := by kernel_rfl
end Go.Proofs.Try1
