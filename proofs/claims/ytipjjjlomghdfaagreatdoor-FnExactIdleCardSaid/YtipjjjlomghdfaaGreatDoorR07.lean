/- Part 07 of the proof of a law: the interpreter, its soundness, and what functions of the program compute over it. Conditions: none but those that each theorem names. -/
import Derived.Test.YtipjjjlomghdfaaGreatDoorR06
import Derived.KernelRfl

set_option linter.all false
set_option maxRecDepth 20000
set_option maxHeartbeats 40000000
section
namespace Go.Proofs.Try1
open Go Go.Lite
noncomputable def C : Ctx := ctxOf Tryz.prog tabs
variable {a : List V} {H : List Ob} {R : V → List Ob → Prop}
@[simp] theorem ty2 : C.ty 2 = ⟨.int .i64, 1, 8, [.int .i64 0]⟩ := by kernel_rfl
@[simp] theorem ty3 : C.ty 3 = ⟨.int .i64, 1, 8, [.int .i64 0]⟩ := by kernel_rfl
@[simp] theorem ty4 : C.ty 4 = ⟨.bool, 1, 1, [.bool false]⟩ := by kernel_rfl
@[simp] theorem ty5 : C.ty 5 = ⟨.int .u8, 1, 1, [.int .u8 0]⟩ := by kernel_rfl
@[simp] theorem ty9 : C.ty 9 = ⟨.str, 1, 16, [.str []]⟩ := by kernel_rfl
@[simp] theorem aC2 : C.ty 21 = ⟨.int .i32, 1, 4, [.int .i32 0]⟩ := by kernel_rfl
@[simp] theorem au7 : C.ty 22 = ⟨.slice 189, 1, 24, [.slc none 0]⟩ := by kernel_rfl
@[simp] theorem awk : C.ty 23 = ⟨.slice 193, 1, 24, [.slc none 0]⟩ := by kernel_rfl
@[simp] theorem aC4 : C.ty 25 = ⟨.struct [(0, 22), (1, 23)], 2, 48, [.slc none 0, .slc none 0]⟩ := by kernel_rfl
@[simp] theorem avx : C.ty 26 = ⟨.slice 150, 1, 24, [.slc none 0]⟩ := by kernel_rfl
@[simp] theorem aw9 : C.ty 27 = ⟨.slice 241, 1, 24, [.slc none 0]⟩ := by kernel_rfl
@[simp] theorem aCU : C.ty 29 = ⟨.struct [(0, 2), (1, 27)], 2, 32, [.int .i64 0, .slc none 0]⟩ := by kernel_rfl
@[simp] theorem aC3 : C.ty 31 = ⟨.struct [(0, 25), (2, 26), (3, 29), (5, 9)], 6, 120, [.slc none 0, .slc none 0, .slc none 0, .int .i64 0, .slc none 0, .str []]⟩ := by kernel_rfl
@[simp] theorem avf : C.ty 34 = ⟨.slice 208, 1, 24, [.slc none 0]⟩ := by kernel_rfl
@[simp] theorem aw0 : C.ty 35 = ⟨.slice 155, 1, 24, [.slc none 0]⟩ := by kernel_rfl
@[simp] theorem aC6 : C.ty 37 = ⟨.struct [(0, 34), (1, 35)], 2, 48, [.slc none 0, .slc none 0]⟩ := by kernel_rfl
@[simp] theorem awZ : C.ty 38 = ⟨.slice 162, 1, 24, [.slc none 0]⟩ := by kernel_rfl
@[simp] theorem avM : C.ty 39 = ⟨.slice 164, 1, 24, [.slc none 0]⟩ := by kernel_rfl
@[simp] theorem aCX : C.ty 41 = ⟨.struct [(0, 2), (1, 39)], 2, 32, [.int .i64 0, .slc none 0]⟩ := by kernel_rfl
@[simp] theorem aCZ : C.ty 43 = ⟨.struct [(0, 37), (2, 38), (3, 41), (5, 9)], 6, 120, [.slc none 0, .slc none 0, .slc none 0, .int .i64 0, .slc none 0, .str []]⟩ := by kernel_rfl
@[simp] theorem axH : C.ty 47 = ⟨.slice 180, 1, 24, [.slc none 0]⟩ := by kernel_rfl
@[simp] theorem avJ : C.ty 48 = ⟨.slice 183, 1, 24, [.slc none 0]⟩ := by kernel_rfl
@[simp] theorem avq : C.ty 49 = ⟨.slice 186, 1, 24, [.slc none 0]⟩ := by kernel_rfl
@[simp] theorem aCY : C.ty 51 = ⟨.struct [(0, 47), (1, 48), (2, 49), (3, 49), (4, 49), (5, 4)], 6, 128, [.slc none 0, .slc none 0, .slc none 0, .slc none 0, .slc none 0, .bool false]⟩ := by kernel_rfl
@[simp] theorem aub : C.ty 56 = ⟨.slice 202, 1, 24, [.slc none 0]⟩ := by kernel_rfl
@[simp] theorem avE : C.ty 57 = ⟨.slice 204, 1, 24, [.slc none 0]⟩ := by kernel_rfl
@[simp] theorem axK : C.ty 58 = ⟨.slice 206, 1, 24, [.slc none 0]⟩ := by kernel_rfl
@[simp] theorem aC5 : C.ty 60 = ⟨.struct [(0, 56), (1, 57), (2, 58), (3, 58), (4, 58), (5, 4)], 6, 128, [.slc none 0, .slc none 0, .slc none 0, .slc none 0, .slc none 0, .bool false]⟩ := by kernel_rfl
@[simp] theorem avO : C.ty 79 = ⟨.slice 305, 1, 24, [.slc none 0]⟩ := by kernel_rfl
@[simp] theorem aCT : C.ty 81 = ⟨.struct [(0, 2), (1, 2), (2, 79)], 3, 40, [.int .i64 0, .int .i64 0, .slc none 0]⟩ := by kernel_rfl
@[simp] theorem aC1 : C.ty 83 = ⟨.struct [(0, 31), (6, 81), (9, 51), (15, 2), (16, 2)], 17, 304, [.slc none 0, .slc none 0, .slc none 0, .int .i64 0, .slc none 0, .str [], .int .i64 0, .int .i64 0, .slc none 0, .slc none 0, .slc none 0, .slc none 0, .slc none 0, .slc none 0, .bool false, .int .i64 0, .int .i64 0]⟩ := by kernel_rfl
@[simp] theorem axW : C.ty 86 = ⟨.slice 233, 1, 24, [.slc none 0]⟩ := by kernel_rfl
@[simp] theorem aC0 : C.ty 88 = ⟨.struct [(0, 2), (1, 2), (2, 86)], 3, 40, [.int .i64 0, .int .i64 0, .slc none 0]⟩ := by kernel_rfl
@[simp] theorem aCV : C.ty 90 = ⟨.struct [(0, 43), (6, 88), (9, 60), (15, 2), (16, 2)], 17, 304, [.slc none 0, .slc none 0, .slc none 0, .int .i64 0, .slc none 0, .str [], .int .i64 0, .int .i64 0, .slc none 0, .slc none 0, .slc none 0, .slc none 0, .slc none 0, .slc none 0, .bool false, .int .i64 0, .int .i64 0]⟩ := by kernel_rfl
@[simp] theorem aCW : C.ty 99 = ⟨.func, 1, 8, [.nilfn]⟩ := by kernel_rfl
@[simp] theorem aCH : C.ty 116 = ⟨.ptr, 1, 8, [.ptr none]⟩ := by kernel_rfl
@[simp] theorem aCP : C.ty 148 = ⟨.slice 9, 1, 24, [.slc none 0]⟩ := by kernel_rfl
@[simp] theorem al2 : C.ty 150 = ⟨.struct [(0, 9), (1, 47), (2, 148), (3, 2), (4, 4)], 5, 80, [.str [], .slc none 0, .slc none 0, .int .i64 0, .bool false]⟩ := by kernel_rfl
@[simp] theorem atj : C.ty 153 = ⟨.slice 249, 1, 24, [.slc none 0]⟩ := by kernel_rfl
@[simp] theorem aoh : C.ty 155 = ⟨.struct [(0, 56), (1, 153)], 2, 48, [.slc none 0, .slc none 0]⟩ := by kernel_rfl
@[simp] theorem aCQ : C.ty 156 = ⟨.func, 1, 8, [.nilfn]⟩ := by kernel_rfl
@[simp] theorem aCG : C.ty 160 = ⟨.func, 1, 8, [.nilfn]⟩ := by kernel_rfl
@[simp] theorem ao7 : C.ty 162 = ⟨.struct [(0, 9), (1, 56), (2, 148), (3, 2), (4, 4)], 5, 80, [.str [], .slc none 0, .slc none 0, .int .i64 0, .bool false]⟩ := by kernel_rfl
@[simp] theorem apa : C.ty 164 = ⟨.struct [(0, 2), (1, 2), (2, 9), (3, 155)], 5, 80, [.int .i64 0, .int .i64 0, .str [], .slc none 0, .slc none 0]⟩ := by kernel_rfl
@[simp] theorem amb : C.ty 180 = ⟨.struct [(0, 9), (1, 9)], 2, 32, [.str [], .str []]⟩ := by kernel_rfl
@[simp] theorem ama : C.ty 183 = ⟨.struct [(0, 2), (1, 9), (2, 9), (3, 2)], 4, 48, [.int .i64 0, .str [], .str [], .int .i64 0]⟩ := by kernel_rfl
@[simp] theorem al4 : C.ty 186 = ⟨.struct [(0, 2), (1, 9), (2, 2)], 3, 32, [.int .i64 0, .str [], .int .i64 0]⟩ := by kernel_rfl
@[simp] theorem alZ : C.ty 189 = ⟨.struct [(0, 9), (1, 148), (2, 148), (3, 148)], 4, 88, [.str [], .slc none 0, .slc none 0, .slc none 0]⟩ := by kernel_rfl
@[simp] theorem atM : C.ty 191 = ⟨.slice 323, 1, 24, [.slc none 0]⟩ := by kernel_rfl
@[simp] theorem al3 : C.ty 193 = ⟨.struct [(0, 47), (1, 191)], 2, 48, [.slc none 0, .slc none 0]⟩ := by kernel_rfl
@[simp] theorem amS : C.ty 202 = ⟨.struct [(0, 9), (1, 9)], 2, 32, [.str [], .str []]⟩ := by kernel_rfl
@[simp] theorem aoC : C.ty 204 = ⟨.struct [(0, 2), (1, 9), (2, 9), (3, 2)], 4, 48, [.int .i64 0, .str [], .str [], .int .i64 0]⟩ := by kernel_rfl
@[simp] theorem aoz : C.ty 206 = ⟨.struct [(0, 2), (1, 9), (2, 2)], 3, 32, [.int .i64 0, .str [], .int .i64 0]⟩ := by kernel_rfl
@[simp] theorem aoc : C.ty 208 = ⟨.struct [(0, 9), (1, 148), (2, 148), (3, 148)], 4, 88, [.str [], .slc none 0, .slc none 0, .slc none 0]⟩ := by kernel_rfl
@[simp] theorem aCR : C.ty 212 = ⟨.ptr, 1, 8, [.ptr none]⟩ := by kernel_rfl
@[simp] theorem axL : C.ty 222 = ⟨.slice 5, 1, 24, [.slc none 0]⟩ := by kernel_rfl
@[simp] theorem ao0 : C.ty 233 = ⟨.struct [(0, 2), (1, 9), (2, 9), (3, 9), (4, 4), (5, 2), (6, 4)], 7, 80, [.int .i64 0, .str [], .str [], .str [], .bool false, .int .i64 0, .bool false]⟩ := by kernel_rfl
@[simp] theorem al7 : C.ty 241 = ⟨.struct [(0, 2), (1, 2), (2, 9), (3, 193)], 5, 80, [.int .i64 0, .int .i64 0, .str [], .slc none 0, .slc none 0]⟩ := by kernel_rfl
@[simp] theorem aCD : C.ty 242 = ⟨.func, 1, 8, [.nilfn]⟩ := by kernel_rfl
@[simp] theorem aCy : C.ty 247 = ⟨.func, 1, 8, [.nilfn]⟩ := by kernel_rfl
@[simp] theorem aoM : C.ty 249 = ⟨.struct [(0, 9), (1, 148)], 2, 40, [.str [], .slc none 0]⟩ := by kernel_rfl
@[simp] theorem aCN : C.ty 268 = ⟨.array 256 4, 256, 256, List.replicate 256 (.bool false)⟩ := by kernel_rfl
@[simp] theorem aCS : C.ty 272 = ⟨.ptr, 1, 8, [.ptr none]⟩ := by kernel_rfl
@[simp] theorem aCI : C.ty 286 = ⟨.func, 1, 8, [.nilfn]⟩ := by kernel_rfl
@[simp] theorem aCJ : C.ty 291 = ⟨.slice 148, 1, 24, [.slc none 0]⟩ := by kernel_rfl
@[simp] theorem alW : C.ty 305 = ⟨.struct [(0, 2), (1, 9), (2, 9), (3, 9), (4, 4), (5, 2), (6, 4)], 7, 80, [.int .i64 0, .str [], .str [], .str [], .bool false, .int .i64 0, .bool false]⟩ := by kernel_rfl
@[simp] theorem al5 : C.ty 323 = ⟨.struct [(0, 9), (1, 148)], 2, 40, [.str [], .slc none 0]⟩ := by kernel_rfl
@[simp] theorem aCF : C.ty 349 = ⟨.int .u64, 1, 8, [.int .u64 0]⟩ := by kernel_rfl
@[simp] theorem aCA : C.ty 360 = ⟨.array 256 5, 256, 256, List.replicate 256 (.int .u8 0)⟩ := by kernel_rfl
@[simp] theorem aCE : C.ty 362 = ⟨.struct [(0, 5), (1, 5)], 2, 2, [.int .u8 0, .int .u8 0]⟩ := by kernel_rfl
@[simp] theorem aCO : C.ty 363 = ⟨.array 16 362, 32, 32, List.replicate 32 (.int .u8 0)⟩ := by kernel_rfl
@[simp] theorem aCB : C.ty 378 = ⟨.func, 1, 8, [.nilfn]⟩ := by kernel_rfl
noncomputable def aqV := Tryz.f3.body.getD .skip
theorem op3 : Ret C 3 a H R ↔ WP C 3 aqV ⟨initRegs a, 0, H⟩ (finQ C Tryz.f3 H R) := Ret_fn rfl (by kernel_rfl) Tryz.func3 rfl
@[simp] theorem aCL : C.locs 3 = [1, 5] := by kernel_rfl
noncomputable def aqZ := Tryz.f6.body.getD .skip
theorem op6 : Ret C 6 a H R ↔ WP C 6 aqZ ⟨initRegs a, 0, H⟩ (finQ C Tryz.f6 H R) := Ret_fn rfl (by kernel_rfl) Tryz.func6 rfl
@[simp] theorem aCK : C.locs 6 = [1, 5] := by kernel_rfl
noncomputable def ary := Tryz.f7.body.getD .skip
theorem op7 : Ret C 7 a H R ↔ WP C 7 ary ⟨initRegs a, 0, H⟩ (finQ C Tryz.f7 H R) := Ret_fn rfl (by kernel_rfl) Tryz.func7 rfl
@[simp] theorem aCC : C.locs 7 = [1, 5] := by kernel_rfl
noncomputable def alU := Tryz.f8.body.getD .skip
theorem op8 : Ret C 8 a H R ↔ WP C 8 alU ⟨initRegs a, 0, H⟩ (finQ C Tryz.f8 H R) := Ret_fn rfl (by kernel_rfl) Tryz.func8 rfl
@[simp] theorem aCM : C.locs 8 = [2] := by kernel_rfl
noncomputable def al9 := Tryz.f9.body.getD .skip
theorem op9 : Ret C 9 a H R ↔ WP C 9 al9 ⟨initRegs a, 0, H⟩ (finQ C Tryz.f9 H R) := Ret_fn rfl (by kernel_rfl) Tryz.func9 rfl
@[simp] theorem aCz : C.locs 9 = [1] := by kernel_rfl
noncomputable def aqS := Tryz.f10.body.getD .skip
theorem aBt : Ret C 10 a H R ↔ WP C 10 aqS ⟨initRegs a, 0, H⟩ (finQ C Tryz.f10 H R) := Ret_fn rfl (by kernel_rfl) Tryz.func10 rfl
@[simp] theorem aBK : C.locs 10 = [1, 2, 3] := by kernel_rfl
noncomputable def akx := Tryz.f11.body.getD .skip
theorem aBP : Ret C 11 a H R ↔ WP C 11 akx ⟨initRegs a, 0, H⟩ (finQ C Tryz.f11 H R) := Ret_fn rfl (by kernel_rfl) Tryz.func11 rfl
@[simp] theorem aBM : C.locs 11 = [1] := by kernel_rfl
noncomputable def aky := Tryz.f12.body.getD .skip
theorem apZ : Ret C 12 a H R ↔ WP C 12 aky ⟨initRegs a, 0, H⟩ (finQ C Tryz.f12 H R) := Ret_fn rfl (by kernel_rfl) Tryz.func12 rfl
@[simp] theorem aAT : C.locs 12 = [2, 3] := by kernel_rfl
noncomputable def ajZ := Tryz.f13.body.getD .skip
theorem apO : Ret C 13 a H R ↔ WP C 13 ajZ ⟨initRegs a, 0, H⟩ (finQ C Tryz.f13 H R) := Ret_fn rfl (by kernel_rfl) Tryz.func13 rfl
@[simp] theorem aBp : C.locs 13 = [2] := by kernel_rfl
noncomputable def amF := Tryz.f14.body.getD .skip
theorem aup : Ret C 14 a H R ↔ WP C 14 amF ⟨initRegs a, 0, H⟩ (finQ C Tryz.f14 H R) := Ret_fn rfl (by kernel_rfl) Tryz.func14 rfl
@[simp] theorem aBj : C.locs 14 = [2] := by kernel_rfl
noncomputable def arp := Tryz.f16.body.getD .skip
theorem aBX : Ret C 16 a H R ↔ WP C 16 arp ⟨initRegs a, 0, H⟩ (finQ C Tryz.f16 H R) := Ret_fn rfl (by kernel_rfl) Tryz.func16 rfl
@[simp] theorem aBV : C.locs 16 = [1, 2, 3] := by kernel_rfl
noncomputable def aqN := Tryz.f17.body.getD .skip
theorem aCg : Ret C 17 a H R ↔ WP C 17 aqN ⟨initRegs a, 0, H⟩ (finQ C Tryz.f17 H R) := Ret_fn rfl (by kernel_rfl) Tryz.func17 rfl
@[simp] theorem aCh : C.locs 17 = [1, 2, 3] := by kernel_rfl
noncomputable def ajB := Tryz.f20.body.getD .skip
theorem anC : Ret C 20 a H R ↔ WP C 20 ajB ⟨initRegs a, 0, H⟩ (finQ C Tryz.f20 H R) := Ret_fn rfl (by kernel_rfl) Tryz.func20 rfl
@[simp] theorem aBJ : C.locs 20 = [2, 3] := by kernel_rfl
noncomputable def amQ := Tryz.f21.body.getD .skip
theorem auC : Ret C 21 a H R ↔ WP C 21 amQ ⟨initRegs a, 0, H⟩ (finQ C Tryz.f21 H R) := Ret_fn rfl (by kernel_rfl) Tryz.func21 rfl
@[simp] theorem aBv : C.locs 21 = [2, 3] := by kernel_rfl
noncomputable def alr := Tryz.f32.body.getD .skip
theorem ar0 : Ret C 32 a H R ↔ WP C 32 alr ⟨initRegs a, 0, H⟩ (finQ C Tryz.f32 H R) := Ret_fn rfl (by kernel_rfl) Tryz.func32 rfl
@[simp] theorem aB5 : C.locs 32 = [2] := by kernel_rfl
noncomputable def aj0 := Tryz.f33.body.getD .skip
theorem aBD : Ret C 33 a H R ↔ WP C 33 aj0 ⟨initRegs a, 0, H⟩ (finQ C Tryz.f33 H R) := Ret_fn rfl (by kernel_rfl) Tryz.func33 rfl
@[simp] theorem aBh : C.locs 33 = [1] := by kernel_rfl
noncomputable def aqo := Tryz.f34.body.getD .skip
theorem aBq : Ret C 34 a H R ↔ WP C 34 aqo ⟨initRegs a, 0, H⟩ (finQ C Tryz.f34 H R) := Ret_fn rfl (by kernel_rfl) Tryz.func34 rfl
@[simp] theorem aAW : C.locs 34 = [1, 2, 3] := by kernel_rfl
noncomputable def aj1 := Tryz.f35.body.getD .skip
theorem aB8 : Ret C 35 a H R ↔ WP C 35 aj1 ⟨initRegs a, 0, H⟩ (finQ C Tryz.f35 H R) := Ret_fn rfl (by kernel_rfl) Tryz.func35 rfl
@[simp] theorem aBs : C.locs 35 = [1] := by kernel_rfl
noncomputable def aj3 := Tryz.f36.body.getD .skip
theorem apx : Ret C 36 a H R ↔ WP C 36 aj3 ⟨initRegs a, 0, H⟩ (finQ C Tryz.f36 H R) := Ret_fn rfl (by kernel_rfl) Tryz.func36 rfl
@[simp] theorem aBN : C.locs 36 = [2, 3] := by kernel_rfl
noncomputable def amB := Tryz.f37.body.getD .skip
theorem aBa : Ret C 37 a H R ↔ WP C 37 amB ⟨initRegs a, 0, H⟩ (finQ C Tryz.f37 H R) := Ret_fn rfl (by kernel_rfl) Tryz.func37 rfl
@[simp] theorem aBC : C.locs 37 = [1] := by kernel_rfl
noncomputable def amr := Tryz.f38.body.getD .skip
theorem aCl : Ret C 38 a H R ↔ WP C 38 amr ⟨initRegs a, 0, H⟩ (finQ C Tryz.f38 H R) := Ret_fn rfl (by kernel_rfl) Tryz.func38 rfl
@[simp] theorem aB1 : C.locs 38 = [] := by kernel_rfl
noncomputable def aqF := Tryz.f39.body.getD .skip
theorem aBO : Ret C 39 a H R ↔ WP C 39 aqF ⟨initRegs a, 0, H⟩ (finQ C Tryz.f39 H R) := Ret_fn rfl (by kernel_rfl) Tryz.func39 rfl
@[simp] theorem aAX : C.locs 39 = [] := by kernel_rfl
noncomputable def anw := Tryz.f40.body.getD .skip
theorem avC : Ret C 40 a H R ↔ WP C 40 anw ⟨initRegs a, 0, H⟩ (finQ C Tryz.f40 H R) := Ret_fn rfl (by kernel_rfl) Tryz.func40 rfl
@[simp] theorem aA3 : C.locs 40 = [2] := by kernel_rfl
noncomputable def amG := Tryz.f41.body.getD .skip
theorem aBU : Ret C 41 a H R ↔ WP C 41 amG ⟨initRegs a, 0, H⟩ (finQ C Tryz.f41 H R) := Ret_fn rfl (by kernel_rfl) Tryz.func41 rfl
@[simp] theorem aBe : C.locs 41 = [1, 4] := by kernel_rfl
noncomputable def aqh := Tryz.f42.body.getD .skip
theorem aBB : Ret C 42 a H R ↔ WP C 42 aqh ⟨initRegs a, 0, H⟩ (finQ C Tryz.f42 H R) := Ret_fn rfl (by kernel_rfl) Tryz.func42 rfl
@[simp] theorem aB2 : C.locs 42 = [] := by kernel_rfl
noncomputable def amo := Tryz.f43.body.getD .skip
theorem aCi : Ret C 43 a H R ↔ WP C 43 amo ⟨initRegs a, 0, H⟩ (finQ C Tryz.f43 H R) := Ret_fn rfl (by kernel_rfl) Tryz.func43 rfl
@[simp] theorem aB0 : C.locs 43 = [1, 4] := by kernel_rfl
noncomputable def aiV := Tryz.f44.body.getD .skip
theorem au0 : C.fids 44 = true := by kernel_rfl
theorem aw6 : Tryz.f44.body = some aiV := rfl
theorem awN : C.prim 44 = none := rfl
theorem auX : C.funcs 44 = some Tryz.f44 := Tryz.func44
theorem aux : Ret C 44 a H R ↔ WP C 44 aiV ⟨initRegs a, 0, H⟩ (finQ C Tryz.f44 H R) := Ret_fn rfl (by kernel_rfl) Tryz.func44 rfl
@[simp] theorem aut : C.locs 44 = [] := by kernel_rfl
noncomputable def ap6 := Tryz.f45.body.getD .skip
theorem aCf : Ret C 45 a H R ↔ WP C 45 ap6 ⟨initRegs a, 0, H⟩ (finQ C Tryz.f45 H R) := Ret_fn rfl (by kernel_rfl) Tryz.func45 rfl
@[simp] theorem aCp : C.locs 45 = [] := by kernel_rfl
noncomputable def aqB := Tryz.f46.body.getD .skip
theorem aAU : Ret C 46 a H R ↔ WP C 46 aqB ⟨initRegs a, 0, H⟩ (finQ C Tryz.f46 H R) := Ret_fn rfl (by kernel_rfl) Tryz.func46 rfl
@[simp] theorem aA4 : C.locs 46 = [1, 2, 3] := by kernel_rfl
noncomputable def aml := Tryz.f47.body.getD .skip
theorem aA1 : Ret C 47 a H R ↔ WP C 47 aml ⟨initRegs a, 0, H⟩ (finQ C Tryz.f47 H R) := Ret_fn rfl (by kernel_rfl) Tryz.func47 rfl
@[simp] theorem aAY : C.locs 47 = [4] := by kernel_rfl
noncomputable def amL := Tryz.f48.body.getD .skip
theorem aCs : Ret C 48 a H R ↔ WP C 48 amL ⟨initRegs a, 0, H⟩ (finQ C Tryz.f48 H R) := Ret_fn rfl (by kernel_rfl) Tryz.func48 rfl
@[simp] theorem aBH : C.locs 48 = [] := by kernel_rfl
noncomputable def ali := Tryz.f49.body.getD .skip
theorem aCo : Ret C 49 a H R ↔ WP C 49 ali ⟨initRegs a, 0, H⟩ (finQ C Tryz.f49 H R) := Ret_fn rfl (by kernel_rfl) Tryz.func49 rfl
@[simp] theorem aCx : C.locs 49 = [1, 5] := by kernel_rfl
noncomputable def ajX := Tryz.f50.body.getD .skip
theorem aBm : Ret C 50 a H R ↔ WP C 50 ajX ⟨initRegs a, 0, H⟩ (finQ C Tryz.f50 H R) := Ret_fn rfl (by kernel_rfl) Tryz.func50 rfl
@[simp] theorem aBw : C.locs 50 = [] := by kernel_rfl
noncomputable def aq5 := Tryz.f51.body.getD .skip
theorem aBG : Ret C 51 a H R ↔ WP C 51 aq5 ⟨initRegs a, 0, H⟩ (finQ C Tryz.f51 H R) := Ret_fn rfl (by kernel_rfl) Tryz.func51 rfl
@[simp] theorem aB3 : C.locs 51 = [] := by kernel_rfl
noncomputable def amw := Tryz.f52.body.getD .skip
theorem auy : Ret C 52 a H R ↔ WP C 52 amw ⟨initRegs a, 0, H⟩ (finQ C Tryz.f52 H R) := Ret_fn rfl (by kernel_rfl) Tryz.func52 rfl
@[simp] theorem aAV : C.locs 52 = [2, 3] := by kernel_rfl
noncomputable def alD := Tryz.f53.body.getD .skip
theorem aBL : Ret C 53 a H R ↔ WP C 53 alD ⟨initRegs a, 0, H⟩ (finQ C Tryz.f53 H R) := Ret_fn rfl (by kernel_rfl) Tryz.func53 rfl
@[simp] theorem aA9 : C.locs 53 = [] := by kernel_rfl
noncomputable def aqD := Tryz.f54.body.getD .skip
theorem aA6 : Ret C 54 a H R ↔ WP C 54 aqD ⟨initRegs a, 0, H⟩ (finQ C Tryz.f54 H R) := Ret_fn rfl (by kernel_rfl) Tryz.func54 rfl
@[simp] theorem aBu : C.locs 54 = [] := by kernel_rfl
noncomputable def aqi := Tryz.f55.body.getD .skip
theorem aBQ : Ret C 55 a H R ↔ WP C 55 aqi ⟨initRegs a, 0, H⟩ (finQ C Tryz.f55 H R) := Ret_fn rfl (by kernel_rfl) Tryz.func55 rfl
@[simp] theorem aCr : C.locs 55 = [] := by kernel_rfl
noncomputable def arK := Tryz.f56.body.getD .skip
theorem aB4 : Ret C 56 a H R ↔ WP C 56 arK ⟨initRegs a, 0, H⟩ (finQ C Tryz.f56 H R) := Ret_fn rfl (by kernel_rfl) Tryz.func56 rfl
@[simp] theorem aBS : C.locs 56 = [] := by kernel_rfl
noncomputable def ap0 := Tryz.f57.body.getD .skip
theorem aBl : Ret C 57 a H R ↔ WP C 57 ap0 ⟨initRegs a, 0, H⟩ (finQ C Tryz.f57 H R) := Ret_fn rfl (by kernel_rfl) Tryz.func57 rfl
@[simp] theorem aBc : C.locs 57 = [] := by kernel_rfl
noncomputable def aiU := Tryz.f58.body.getD .skip
theorem aBW : Ret C 58 a H R ↔ WP C 58 aiU ⟨initRegs a, 0, H⟩ (finQ C Tryz.f58 H R) := Ret_fn rfl (by kernel_rfl) Tryz.func58 rfl
@[simp] theorem aCw : C.locs 58 = [1] := by kernel_rfl
noncomputable def amn := Tryz.f60.body.getD .skip
theorem aBA : Ret C 60 a H R ↔ WP C 60 amn ⟨initRegs a, 0, H⟩ (finQ C Tryz.f60 H R) := Ret_fn rfl (by kernel_rfl) Tryz.func60 rfl
@[simp] theorem aBz : C.locs 60 = [] := by kernel_rfl
noncomputable def arQ := Tryz.f61.body.getD .skip
theorem aCu : Ret C 61 a H R ↔ WP C 61 arQ ⟨initRegs a, 0, H⟩ (finQ C Tryz.f61 H R) := Ret_fn rfl (by kernel_rfl) Tryz.func61 rfl
@[simp] theorem aB7 : C.locs 61 = [] := by kernel_rfl
noncomputable def aq0 := Tryz.f62.body.getD .skip
theorem aBR : Ret C 62 a H R ↔ WP C 62 aq0 ⟨initRegs a, 0, H⟩ (finQ C Tryz.f62 H R) := Ret_fn rfl (by kernel_rfl) Tryz.func62 rfl
@[simp] theorem aCn : C.locs 62 = [] := by kernel_rfl
noncomputable def arB := Tryz.f63.body.getD .skip
theorem aCk : Ret C 63 a H R ↔ WP C 63 arB ⟨initRegs a, 0, H⟩ (finQ C Tryz.f63 H R) := Ret_fn rfl (by kernel_rfl) Tryz.func63 rfl
@[simp] theorem aBr : C.locs 63 = [] := by kernel_rfl
noncomputable def aqu := Tryz.f64.body.getD .skip
theorem aBk : Ret C 64 a H R ↔ WP C 64 aqu ⟨initRegs a, 0, H⟩ (finQ C Tryz.f64 H R) := Ret_fn rfl (by kernel_rfl) Tryz.func64 rfl
@[simp] theorem aBx : C.locs 64 = [] := by kernel_rfl
noncomputable def ajf := Tryz.f65.body.getD .skip
theorem aA2 : Ret C 65 a H R ↔ WP C 65 ajf ⟨initRegs a, 0, H⟩ (finQ C Tryz.f65 H R) := Ret_fn rfl (by kernel_rfl) Tryz.func65 rfl
@[simp] theorem aCd : C.locs 65 = [1] := by kernel_rfl
noncomputable def aly := Tryz.f68.body.getD .skip
theorem aBb : Ret C 68 a H R ↔ WP C 68 aly ⟨initRegs a, 0, H⟩ (finQ C Tryz.f68 H R) := Ret_fn rfl (by kernel_rfl) Tryz.func68 rfl
@[simp] theorem aBy : C.locs 68 = [] := by kernel_rfl
noncomputable def aqP := Tryz.f69.body.getD .skip
theorem aA8 : Ret C 69 a H R ↔ WP C 69 aqP ⟨initRegs a, 0, H⟩ (finQ C Tryz.f69 H R) := Ret_fn rfl (by kernel_rfl) Tryz.func69 rfl
@[simp] theorem aBI : C.locs 69 = [] := by kernel_rfl
noncomputable def arF := Tryz.f70.body.getD .skip
theorem aBd : Ret C 70 a H R ↔ WP C 70 arF ⟨initRegs a, 0, H⟩ (finQ C Tryz.f70 H R) := Ret_fn rfl (by kernel_rfl) Tryz.func70 rfl
@[simp] theorem aCj : C.locs 70 = [] := by kernel_rfl
noncomputable def aqt := Tryz.f71.body.getD .skip
theorem aBn : Ret C 71 a H R ↔ WP C 71 aqt ⟨initRegs a, 0, H⟩ (finQ C Tryz.f71 H R) := Ret_fn rfl (by kernel_rfl) Tryz.func71 rfl
@[simp] theorem aBE : C.locs 71 = [] := by kernel_rfl
noncomputable def ara := Tryz.f72.body.getD .skip
theorem aA5 : Ret C 72 a H R ↔ WP C 72 ara ⟨initRegs a, 0, H⟩ (finQ C Tryz.f72 H R) := Ret_fn rfl (by kernel_rfl) Tryz.func72 rfl
@[simp] theorem aBF : C.locs 72 = [] := by kernel_rfl
noncomputable def anJ := Tryz.f89.body.getD .skip
theorem axJ : Ret C 89 a H R ↔ WP C 89 anJ ⟨initRegs a, 0, H⟩ (finQ C Tryz.f89 H R) := Ret_fn rfl (by kernel_rfl) Tryz.func89 rfl
@[simp] theorem aCc : C.locs 89 = [2] := by kernel_rfl
noncomputable def als := Tryz.f90.body.getD .skip
theorem aCe : Ret C 90 a H R ↔ WP C 90 als ⟨initRegs a, 0, H⟩ (finQ C Tryz.f90 H R) := Ret_fn rfl (by kernel_rfl) Tryz.func90 rfl
@[simp] theorem aCt : C.locs 90 = [1, 4] := by kernel_rfl
noncomputable def amx := Tryz.f91.body.getD .skip
theorem aB6 : Ret C 91 a H R ↔ WP C 91 amx ⟨initRegs a, 0, H⟩ (finQ C Tryz.f91 H R) := Ret_fn rfl (by kernel_rfl) Tryz.func91 rfl
@[simp] theorem aBT : C.locs 91 = [] := by kernel_rfl
noncomputable def aqM := Tryz.f92.body.getD .skip
theorem aBZ : Ret C 92 a H R ↔ WP C 92 aqM ⟨initRegs a, 0, H⟩ (finQ C Tryz.f92 H R) := Ret_fn rfl (by kernel_rfl) Tryz.func92 rfl
@[simp] theorem aCq : C.locs 92 = [1, 2, 3] := by kernel_rfl
noncomputable def alk := Tryz.f93.body.getD .skip
theorem aB9 : Ret C 93 a H R ↔ WP C 93 alk ⟨initRegs a, 0, H⟩ (finQ C Tryz.f93 H R) := Ret_fn rfl (by kernel_rfl) Tryz.func93 rfl
@[simp] theorem aBY : C.locs 93 = [1, 4, 6] := by kernel_rfl
noncomputable def akA := Tryz.f94.body.getD .skip
theorem awp : Ret C 94 a H R ↔ WP C 94 akA ⟨initRegs a, 0, H⟩ (finQ C Tryz.f94 H R) := Ret_fn rfl (by kernel_rfl) Tryz.func94 rfl
@[simp] theorem aA0 : C.locs 94 = [] := by kernel_rfl
noncomputable def alG := Tryz.f95.body.getD .skip
theorem asy : Ret C 95 a H R ↔ WP C 95 alG ⟨initRegs a, 0, H⟩ (finQ C Tryz.f95 H R) := Ret_fn rfl (by kernel_rfl) Tryz.func95 rfl
@[simp] theorem aBi : C.locs 95 = [2, 3] := by kernel_rfl
noncomputable def arJ := Tryz.f96.body.getD .skip
theorem aCa : Ret C 96 a H R ↔ WP C 96 arJ ⟨initRegs a, 0, H⟩ (finQ C Tryz.f96 H R) := Ret_fn rfl (by kernel_rfl) Tryz.func96 rfl
@[simp] theorem aCm : C.locs 96 = [1] := by kernel_rfl
noncomputable def aqg := Tryz.f97.body.getD .skip
theorem aCb : Ret C 97 a H R ↔ WP C 97 aqg ⟨initRegs a, 0, H⟩ (finQ C Tryz.f97 H R) := Ret_fn rfl (by kernel_rfl) Tryz.func97 rfl
@[simp] theorem aA7 : C.locs 97 = [] := by kernel_rfl
noncomputable def alv := Tryz.f98.body.getD .skip
theorem arT : Ret C 98 a H R ↔ WP C 98 alv ⟨initRegs a, 0, H⟩ (finQ C Tryz.f98 H R) := Ret_fn rfl (by kernel_rfl) Tryz.func98 rfl
@[simp] theorem aBg : C.locs 98 = [2] := by kernel_rfl
noncomputable def aro := Tryz.f99.body.getD .skip
theorem aAZ : Ret C 99 a H R ↔ WP C 99 aro ⟨initRegs a, 0, H⟩ (finQ C Tryz.f99 H R) := Ret_fn rfl (by kernel_rfl) Tryz.func99 rfl
@[simp] theorem aCv : C.locs 99 = [] := by kernel_rfl
noncomputable def aoA := Tryz.f100.body.getD .skip
theorem avP : Ret C 100 a H R ↔ WP C 100 aoA ⟨initRegs a, 0, H⟩ (finQ C Tryz.f100 H R) := Ret_fn rfl (by kernel_rfl) Tryz.func100 rfl
@[simp] theorem azI : C.locs 100 = [] := by kernel_rfl
noncomputable def akm := Tryz.f101.body.getD .skip
theorem av1 : Ret C 101 a H R ↔ WP C 101 akm ⟨initRegs a, 0, H⟩ (finQ C Tryz.f101 H R) := Ret_fn rfl (by kernel_rfl) Tryz.func101 rfl
@[simp] theorem aAs : C.locs 101 = [1] := by kernel_rfl
noncomputable def akU := Tryz.f102.body.getD .skip
theorem awC : Ret C 102 a H R ↔ WP C 102 akU ⟨initRegs a, 0, H⟩ (finQ C Tryz.f102 H R) := Ret_fn rfl (by kernel_rfl) Tryz.func102 rfl
@[simp] theorem ayq : C.locs 102 = [3, 5, 9] := by kernel_rfl
noncomputable def aoY := Tryz.f103.body.getD .skip
theorem au4 : Ret C 103 a H R ↔ WP C 103 aoY ⟨initRegs a, 0, H⟩ (finQ C Tryz.f103 H R) := Ret_fn rfl (by kernel_rfl) Tryz.func103 rfl
@[simp] theorem azR : C.locs 103 = [] := by kernel_rfl
noncomputable def aoS := Tryz.f104.body.getD .skip
theorem axp : Ret C 104 a H R ↔ WP C 104 aoS ⟨initRegs a, 0, H⟩ (finQ C Tryz.f104 H R) := Ret_fn rfl (by kernel_rfl) Tryz.func104 rfl
@[simp] theorem ayF : C.locs 104 = [2] := by kernel_rfl
noncomputable def aiy := Tryz.f105.body.getD .skip
theorem axG : Ret C 105 a H R ↔ WP C 105 aiy ⟨initRegs a, 0, H⟩ (finQ C Tryz.f105 H R) := Ret_fn rfl (by kernel_rfl) Tryz.func105 rfl
@[simp] theorem aAn : C.locs 105 = [1] := by kernel_rfl
noncomputable def amj := Tryz.f106.body.getD .skip
theorem awT : Ret C 106 a H R ↔ WP C 106 amj ⟨initRegs a, 0, H⟩ (finQ C Tryz.f106 H R) := Ret_fn rfl (by kernel_rfl) Tryz.func106 rfl
@[simp] theorem aAt : C.locs 106 = [] := by kernel_rfl
noncomputable def ai7 := Tryz.f107.body.getD .skip
theorem avR : Ret C 107 a H R ↔ WP C 107 ai7 ⟨initRegs a, 0, H⟩ (finQ C Tryz.f107 H R) := Ret_fn rfl (by kernel_rfl) Tryz.func107 rfl
@[simp] theorem ay8 : C.locs 107 = [5] := by kernel_rfl
noncomputable def anY := Tryz.f108.body.getD .skip
theorem avu : Ret C 108 a H R ↔ WP C 108 anY ⟨initRegs a, 0, H⟩ (finQ C Tryz.f108 H R) := Ret_fn rfl (by kernel_rfl) Tryz.func108 rfl
@[simp] theorem ayv : C.locs 108 = [1, 2, 3] := by kernel_rfl
noncomputable def aoB := Tryz.f109.body.getD .skip
theorem awy : Ret C 109 a H R ↔ WP C 109 aoB ⟨initRegs a, 0, H⟩ (finQ C Tryz.f109 H R) := Ret_fn rfl (by kernel_rfl) Tryz.func109 rfl
@[simp] theorem azS : C.locs 109 = [] := by kernel_rfl
noncomputable def ams := Tryz.f110.body.getD .skip
theorem avv : Ret C 110 a H R ↔ WP C 110 ams ⟨initRegs a, 0, H⟩ (finQ C Tryz.f110 H R) := Ret_fn rfl (by kernel_rfl) Tryz.func110 rfl
@[simp] theorem aAw : C.locs 110 = [4] := by kernel_rfl
noncomputable def akO := Tryz.f111.body.getD .skip
theorem axR : Ret C 111 a H R ↔ WP C 111 akO ⟨initRegs a, 0, H⟩ (finQ C Tryz.f111 H R) := Ret_fn rfl (by kernel_rfl) Tryz.func111 rfl
@[simp] theorem ayu : C.locs 111 = [] := by kernel_rfl
noncomputable def amN := Tryz.f113.body.getD .skip
theorem avo : Ret C 113 a H R ↔ WP C 113 amN ⟨initRegs a, 0, H⟩ (finQ C Tryz.f113 H R) := Ret_fn rfl (by kernel_rfl) Tryz.func113 rfl
@[simp] theorem ay0 : C.locs 113 = [] := by kernel_rfl
noncomputable def an7 := Tryz.f114.body.getD .skip
theorem avi : Ret C 114 a H R ↔ WP C 114 an7 ⟨initRegs a, 0, H⟩ (finQ C Tryz.f114 H R) := Ret_fn rfl (by kernel_rfl) Tryz.func114 rfl
@[simp] theorem aAQ : C.locs 114 = [2] := by kernel_rfl
noncomputable def ale := Tryz.f115.body.getD .skip
theorem axa : Ret C 115 a H R ↔ WP C 115 ale ⟨initRegs a, 0, H⟩ (finQ C Tryz.f115 H R) := Ret_fn rfl (by kernel_rfl) Tryz.func115 rfl
@[simp] theorem ayy : C.locs 115 = [] := by kernel_rfl
noncomputable def amM := Tryz.f116.body.getD .skip
theorem axP : Ret C 116 a H R ↔ WP C 116 amM ⟨initRegs a, 0, H⟩ (finQ C Tryz.f116 H R) := Ret_fn rfl (by kernel_rfl) Tryz.func116 rfl
@[simp] theorem azg : C.locs 116 = [] := by kernel_rfl
noncomputable def aow := Tryz.f117.body.getD .skip
theorem axn : Ret C 117 a H R ↔ WP C 117 aow ⟨initRegs a, 0, H⟩ (finQ C Tryz.f117 H R) := Ret_fn rfl (by kernel_rfl) Tryz.func117 rfl
@[simp] theorem ayx : C.locs 117 = [1] := by kernel_rfl
noncomputable def aiz := Tryz.f118.body.getD .skip
theorem av2 : Ret C 118 a H R ↔ WP C 118 aiz ⟨initRegs a, 0, H⟩ (finQ C Tryz.f118 H R) := Ret_fn rfl (by kernel_rfl) Tryz.func118 rfl
@[simp] theorem aAl : C.locs 118 = [1] := by kernel_rfl
noncomputable def ao1 := Tryz.f119.body.getD .skip
theorem aw5 : Ret C 119 a H R ↔ WP C 119 ao1 ⟨initRegs a, 0, H⟩ (finQ C Tryz.f119 H R) := Ret_fn rfl (by kernel_rfl) Tryz.func119 rfl
@[simp] theorem aya : C.locs 119 = [] := by kernel_rfl
noncomputable def akS := Tryz.f120.body.getD .skip
theorem axO : Ret C 120 a H R ↔ WP C 120 akS ⟨initRegs a, 0, H⟩ (finQ C Tryz.f120 H R) := Ret_fn rfl (by kernel_rfl) Tryz.func120 rfl
@[simp] theorem aza : C.locs 120 = [1] := by kernel_rfl
noncomputable def aoG := Tryz.f121.body.getD .skip
theorem avS : Ret C 121 a H R ↔ WP C 121 aoG ⟨initRegs a, 0, H⟩ (finQ C Tryz.f121 H R) := Ret_fn rfl (by kernel_rfl) Tryz.func121 rfl
@[simp] theorem aAS : C.locs 121 = [] := by kernel_rfl
noncomputable def ajm := Tryz.f122.body.getD .skip
theorem alT : Ret C 122 a H R ↔ WP C 122 ajm ⟨initRegs a, 0, H⟩ (finQ C Tryz.f122 H R) := Ret_fn rfl (by kernel_rfl) Tryz.func122 rfl
@[simp] theorem ayI : C.locs 122 = [2, 3] := by kernel_rfl
noncomputable def ao5 := Tryz.f123.body.getD .skip
theorem axf : Ret C 123 a H R ↔ WP C 123 ao5 ⟨initRegs a, 0, H⟩ (finQ C Tryz.f123 H R) := Ret_fn rfl (by kernel_rfl) Tryz.func123 rfl
@[simp] theorem azO : C.locs 123 = [] := by kernel_rfl
noncomputable def ak7 := Tryz.f124.body.getD .skip
theorem aqU : Ret C 124 a H R ↔ WP C 124 ak7 ⟨initRegs a, 0, H⟩ (finQ C Tryz.f124 H R) := Ret_fn rfl (by kernel_rfl) Tryz.func124 rfl
@[simp] theorem azC : C.locs 124 = [2] := by kernel_rfl
noncomputable def ak6 := Tryz.f125.body.getD .skip
theorem arh : Ret C 125 a H R ↔ WP C 125 ak6 ⟨initRegs a, 0, H⟩ (finQ C Tryz.f125 H R) := Ret_fn rfl (by kernel_rfl) Tryz.func125 rfl
@[simp] theorem aAO : C.locs 125 = [2] := by kernel_rfl
noncomputable def amD := Tryz.f126.body.getD .skip
theorem atG : Ret C 126 a H R ↔ WP C 126 amD ⟨initRegs a, 0, H⟩ (finQ C Tryz.f126 H R) := Ret_fn rfl (by kernel_rfl) Tryz.func126 rfl
@[simp] theorem aAa : C.locs 126 = [2] := by kernel_rfl
noncomputable def ajL := Tryz.f127.body.getD .skip
theorem anm : Ret C 127 a H R ↔ WP C 127 ajL ⟨initRegs a, 0, H⟩ (finQ C Tryz.f127 H R) := Ret_fn rfl (by kernel_rfl) Tryz.func127 rfl
@[simp] theorem ay6 : C.locs 127 = [2] := by kernel_rfl
noncomputable def akN := Tryz.f128.body.getD .skip
theorem aq9 : Ret C 128 a H R ↔ WP C 128 akN ⟨initRegs a, 0, H⟩ (finQ C Tryz.f128 H R) := Ret_fn rfl (by kernel_rfl) Tryz.func128 rfl
@[simp] theorem ayk : C.locs 128 = [2] := by kernel_rfl
noncomputable def ao6 := Tryz.f129.body.getD .skip
theorem axm : Ret C 129 a H R ↔ WP C 129 ao6 ⟨initRegs a, 0, H⟩ (finQ C Tryz.f129 H R) := Ret_fn rfl (by kernel_rfl) Tryz.func129 rfl
@[simp] theorem azE : C.locs 129 = [] := by kernel_rfl
noncomputable def akq := Tryz.f130.body.getD .skip
theorem axg : Ret C 130 a H R ↔ WP C 130 akq ⟨initRegs a, 0, H⟩ (finQ C Tryz.f130 H R) := Ret_fn rfl (by kernel_rfl) Tryz.func130 rfl
@[simp] theorem ayZ : C.locs 130 = [] := by kernel_rfl
noncomputable def ako := Tryz.f131.body.getD .skip
theorem axw : Ret C 131 a H R ↔ WP C 131 ako ⟨initRegs a, 0, H⟩ (finQ C Tryz.f131 H R) := Ret_fn rfl (by kernel_rfl) Tryz.func131 rfl
@[simp] theorem azh : C.locs 131 = [] := by kernel_rfl
noncomputable def aoy := Tryz.f132.body.getD .skip
theorem awx : Ret C 132 a H R ↔ WP C 132 aoy ⟨initRegs a, 0, H⟩ (finQ C Tryz.f132 H R) := Ret_fn rfl (by kernel_rfl) Tryz.func132 rfl
@[simp] theorem ax4 : C.locs 132 = [] := by kernel_rfl
noncomputable def aoV := Tryz.f133.body.getD .skip
theorem axI : Ret C 133 a H R ↔ WP C 133 aoV ⟨initRegs a, 0, H⟩ (finQ C Tryz.f133 H R) := Ret_fn rfl (by kernel_rfl) Tryz.func133 rfl
@[simp] theorem azZ : C.locs 133 = [] := by kernel_rfl
noncomputable def apo := Tryz.f134.body.getD .skip
theorem avQ : Ret C 134 a H R ↔ WP C 134 apo ⟨initRegs a, 0, H⟩ (finQ C Tryz.f134 H R) := Ret_fn rfl (by kernel_rfl) Tryz.func134 rfl
@[simp] theorem azw : C.locs 134 = [] := by kernel_rfl
noncomputable def aon := Tryz.f138.body.getD .skip
theorem au3 : Ret C 138 a H R ↔ WP C 138 aon ⟨initRegs a, 0, H⟩ (finQ C Tryz.f138 H R) := Ret_fn rfl (by kernel_rfl) Tryz.func138 rfl
@[simp] theorem ayH : C.locs 138 = [1, 2, 3] := by kernel_rfl
noncomputable def an5 := Tryz.f139.body.getD .skip
theorem axk : Ret C 139 a H R ↔ WP C 139 an5 ⟨initRegs a, 0, H⟩ (finQ C Tryz.f139 H R) := Ret_fn rfl (by kernel_rfl) Tryz.func139 rfl
@[simp] theorem ay1 : C.locs 139 = [1, 2, 3] := by kernel_rfl
noncomputable def aoT := Tryz.f140.body.getD .skip
theorem axh : Ret C 140 a H R ↔ WP C 140 aoT ⟨initRegs a, 0, H⟩ (finQ C Tryz.f140 H R) := Ret_fn rfl (by kernel_rfl) Tryz.func140 rfl
@[simp] theorem ayh : C.locs 140 = [1, 2, 3] := by kernel_rfl
noncomputable def aoK := Tryz.f141.body.getD .skip
theorem awt : Ret C 141 a H R ↔ WP C 141 aoK ⟨initRegs a, 0, H⟩ (finQ C Tryz.f141 H R) := Ret_fn rfl (by kernel_rfl) Tryz.func141 rfl
@[simp] theorem aAH : C.locs 141 = [1, 2, 3] := by kernel_rfl
noncomputable def an9 := Tryz.f142.body.getD .skip
theorem auS : Ret C 142 a H R ↔ WP C 142 an9 ⟨initRegs a, 0, H⟩ (finQ C Tryz.f142 H R) := Ret_fn rfl (by kernel_rfl) Tryz.func142 rfl
@[simp] theorem ayP : C.locs 142 = [1, 2, 3] := by kernel_rfl
noncomputable def ak1 := Tryz.f143.body.getD .skip
theorem axV : Ret C 143 a H R ↔ WP C 143 ak1 ⟨initRegs a, 0, H⟩ (finQ C Tryz.f143 H R) := Ret_fn rfl (by kernel_rfl) Tryz.func143 rfl
@[simp] theorem ayA : C.locs 143 = [] := by kernel_rfl
noncomputable def ajJ := Tryz.f144.body.getD .skip
theorem axE : Ret C 144 a H R ↔ WP C 144 ajJ ⟨initRegs a, 0, H⟩ (finQ C Tryz.f144 H R) := Ret_fn rfl (by kernel_rfl) Tryz.func144 rfl
@[simp] theorem azM : C.locs 144 = [] := by kernel_rfl
noncomputable def ajE := Tryz.f145.body.getD .skip
theorem axT : Ret C 145 a H R ↔ WP C 145 ajE ⟨initRegs a, 0, H⟩ (finQ C Tryz.f145 H R) := Ret_fn rfl (by kernel_rfl) Tryz.func145 rfl
@[simp] theorem ayd : C.locs 145 = [] := by kernel_rfl
noncomputable def ame := Tryz.f146.body.getD .skip
theorem axy : Ret C 146 a H R ↔ WP C 146 ame ⟨initRegs a, 0, H⟩ (finQ C Tryz.f146 H R) := Ret_fn rfl (by kernel_rfl) Tryz.func146 rfl
@[simp] theorem azF : C.locs 146 = [] := by kernel_rfl
noncomputable def apd := Tryz.f147.body.getD .skip
theorem av7 : Ret C 147 a H R ↔ WP C 147 apd ⟨initRegs a, 0, H⟩ (finQ C Tryz.f147 H R) := Ret_fn rfl (by kernel_rfl) Tryz.func147 rfl
@[simp] theorem azK : C.locs 147 = [] := by kernel_rfl
noncomputable def aoE := Tryz.f148.body.getD .skip
theorem avk : Ret C 148 a H R ↔ WP C 148 aoE ⟨initRegs a, 0, H⟩ (finQ C Tryz.f148 H R) := Ret_fn rfl (by kernel_rfl) Tryz.func148 rfl
@[simp] theorem aAN : C.locs 148 = [5] := by kernel_rfl
noncomputable def apq := Tryz.f149.body.getD .skip
theorem axb : Ret C 149 a H R ↔ WP C 149 apq ⟨initRegs a, 0, H⟩ (finQ C Tryz.f149 H R) := Ret_fn rfl (by kernel_rfl) Tryz.func149 rfl
@[simp] theorem azu : C.locs 149 = [5] := by kernel_rfl
noncomputable def akT := Tryz.f153.body.getD .skip
theorem aq3 : Ret C 153 a H R ↔ WP C 153 akT ⟨initRegs a, 0, H⟩ (finQ C Tryz.f153 H R) := Ret_fn rfl (by kernel_rfl) Tryz.func153 rfl
@[simp] theorem aAy : C.locs 153 = [2, 3] := by kernel_rfl
noncomputable def ajH := Tryz.f154.body.getD .skip
theorem ann : Ret C 154 a H R ↔ WP C 154 ajH ⟨initRegs a, 0, H⟩ (finQ C Tryz.f154 H R) := Ret_fn rfl (by kernel_rfl) Tryz.func154 rfl
@[simp] theorem ay2 : C.locs 154 = [2, 3] := by kernel_rfl
noncomputable def aka := Tryz.f155.body.getD .skip
theorem aor : Ret C 155 a H R ↔ WP C 155 aka ⟨initRegs a, 0, H⟩ (finQ C Tryz.f155 H R) := Ret_fn rfl (by kernel_rfl) Tryz.func155 rfl
@[simp] theorem az8 : C.locs 155 = [2, 3] := by kernel_rfl
noncomputable def ajI := Tryz.f156.body.getD .skip
theorem am5 : Ret C 156 a H R ↔ WP C 156 ajI ⟨initRegs a, 0, H⟩ (finQ C Tryz.f156 H R) := Ret_fn rfl (by kernel_rfl) Tryz.func156 rfl
@[simp] theorem azb : C.locs 156 = [2, 3] := by kernel_rfl
noncomputable def ak2 := Tryz.f157.body.getD .skip
theorem arj : Ret C 157 a H R ↔ WP C 157 ak2 ⟨initRegs a, 0, H⟩ (finQ C Tryz.f157 H R) := Ret_fn rfl (by kernel_rfl) Tryz.func157 rfl
@[simp] theorem aAv : C.locs 157 = [2, 3] := by kernel_rfl
noncomputable def aod := Tryz.f174.body.getD .skip
theorem avZ : Ret C 174 a H R ↔ WP C 174 aod ⟨initRegs a, 0, H⟩ (finQ C Tryz.f174 H R) := Ret_fn rfl (by kernel_rfl) Tryz.func174 rfl
@[simp] theorem az7 : C.locs 174 = [] := by kernel_rfl
noncomputable def aiP := Tryz.f175.body.getD .skip
theorem avp : Ret C 175 a H R ↔ WP C 175 aiP ⟨initRegs a, 0, H⟩ (finQ C Tryz.f175 H R) := Ret_fn rfl (by kernel_rfl) Tryz.func175 rfl
@[simp] theorem az5 : C.locs 175 = [1] := by kernel_rfl
noncomputable def aoP := Tryz.f176.body.getD .skip
theorem avr : Ret C 176 a H R ↔ WP C 176 aoP ⟨initRegs a, 0, H⟩ (finQ C Tryz.f176 H R) := Ret_fn rfl (by kernel_rfl) Tryz.func176 rfl
@[simp] theorem azT : C.locs 176 = [] := by kernel_rfl
noncomputable def aiF := Tryz.f177.body.getD .skip
theorem awh : Ret C 177 a H R ↔ WP C 177 aiF ⟨initRegs a, 0, H⟩ (finQ C Tryz.f177 H R) := Ret_fn rfl (by kernel_rfl) Tryz.func177 rfl
@[simp] theorem azk : C.locs 177 = [3] := by kernel_rfl
noncomputable def an4 := Tryz.f178.body.getD .skip
theorem avn : Ret C 178 a H R ↔ WP C 178 an4 ⟨initRegs a, 0, H⟩ (finQ C Tryz.f178 H R) := Ret_fn rfl (by kernel_rfl) Tryz.func178 rfl
@[simp] theorem az1 : C.locs 178 = [] := by kernel_rfl
noncomputable def amP := Tryz.f179.body.getD .skip
theorem auU : Ret C 179 a H R ↔ WP C 179 amP ⟨initRegs a, 0, H⟩ (finQ C Tryz.f179 H R) := Ret_fn rfl (by kernel_rfl) Tryz.func179 rfl
@[simp] theorem azd : C.locs 179 = [] := by kernel_rfl
noncomputable def ak3 := Tryz.f180.body.getD .skip
theorem ark : Ret C 180 a H R ↔ WP C 180 ak3 ⟨initRegs a, 0, H⟩ (finQ C Tryz.f180 H R) := Ret_fn rfl (by kernel_rfl) Tryz.func180 rfl
@[simp] theorem ayC : C.locs 180 = [2] := by kernel_rfl
noncomputable def aiO := Tryz.f181.body.getD .skip
theorem avY : Ret C 181 a H R ↔ WP C 181 aiO ⟨initRegs a, 0, H⟩ (finQ C Tryz.f181 H R) := Ret_fn rfl (by kernel_rfl) Tryz.func181 rfl
@[simp] theorem az0 : C.locs 181 = [1] := by kernel_rfl
noncomputable def an1 := Tryz.f182.body.getD .skip
theorem avV : Ret C 182 a H R ↔ WP C 182 an1 ⟨initRegs a, 0, H⟩ (finQ C Tryz.f182 H R) := Ret_fn rfl (by kernel_rfl) Tryz.func182 rfl
@[simp] theorem ax8 : C.locs 182 = [] := by kernel_rfl
noncomputable def akP := Tryz.f183.body.getD .skip
theorem awV : Ret C 183 a H R ↔ WP C 183 akP ⟨initRegs a, 0, H⟩ (finQ C Tryz.f183 H R) := Ret_fn rfl (by kernel_rfl) Tryz.func183 rfl
@[simp] theorem ayo : C.locs 183 = [3, 4] := by kernel_rfl
noncomputable def alg := Tryz.f184.body.getD .skip
theorem avh : Ret C 184 a H R ↔ WP C 184 alg ⟨initRegs a, 0, H⟩ (finQ C Tryz.f184 H R) := Ret_fn rfl (by kernel_rfl) Tryz.func184 rfl
@[simp] theorem azj : C.locs 184 = [3] := by kernel_rfl
noncomputable def aou := Tryz.f185.body.getD .skip
theorem awD : Ret C 185 a H R ↔ WP C 185 aou ⟨initRegs a, 0, H⟩ (finQ C Tryz.f185 H R) := Ret_fn rfl (by kernel_rfl) Tryz.func185 rfl
@[simp] theorem aAC : C.locs 185 = [2] := by kernel_rfl
noncomputable def aiE := Tryz.f186.body.getD .skip
theorem atZ : C.fids 186 = true := by kernel_rfl
theorem atC : Tryz.f186.body = some aiE := rfl
theorem atO : C.prim 186 = none := rfl
theorem atc : C.funcs 186 = some Tryz.f186 := Tryz.func186
theorem aqc : Ret C 186 a H R ↔ WP C 186 aiE ⟨initRegs a, 0, H⟩ (finQ C Tryz.f186 H R) := Ret_fn rfl (by kernel_rfl) Tryz.func186 rfl
@[simp] theorem asq : C.locs 186 = [] := by kernel_rfl
noncomputable def aoQ := Tryz.f187.body.getD .skip
theorem axC : Ret C 187 a H R ↔ WP C 187 aoQ ⟨initRegs a, 0, H⟩ (finQ C Tryz.f187 H R) := Ret_fn rfl (by kernel_rfl) Tryz.func187 rfl
@[simp] theorem aAg : C.locs 187 = [] := by kernel_rfl
noncomputable def aob := Tryz.f188.body.getD .skip
theorem axD : Ret C 188 a H R ↔ WP C 188 aob ⟨initRegs a, 0, H⟩ (finQ C Tryz.f188 H R) := Ret_fn rfl (by kernel_rfl) Tryz.func188 rfl
@[simp] theorem ayU : C.locs 188 = [] := by kernel_rfl
noncomputable def aos := Tryz.f189.body.getD .skip
theorem awg : Ret C 189 a H R ↔ WP C 189 aos ⟨initRegs a, 0, H⟩ (finQ C Tryz.f189 H R) := Ret_fn rfl (by kernel_rfl) Tryz.func189 rfl
@[simp] theorem ayl : C.locs 189 = [2] := by kernel_rfl
noncomputable def akQ := Tryz.f190.body.getD .skip
theorem axj : Ret C 190 a H R ↔ WP C 190 akQ ⟨initRegs a, 0, H⟩ (finQ C Tryz.f190 H R) := Ret_fn rfl (by kernel_rfl) Tryz.func190 rfl
@[simp] theorem az2 : C.locs 190 = [] := by kernel_rfl
noncomputable def aoR := Tryz.f191.body.getD .skip
theorem avb : Ret C 191 a H R ↔ WP C 191 aoR ⟨initRegs a, 0, H⟩ (finQ C Tryz.f191 H R) := Ret_fn rfl (by kernel_rfl) Tryz.func191 rfl
@[simp] theorem ay3 : C.locs 191 = [1] := by kernel_rfl
noncomputable def anV := Tryz.f192.body.getD .skip
theorem auV : Ret C 192 a H R ↔ WP C 192 anV ⟨initRegs a, 0, H⟩ (finQ C Tryz.f192 H R) := Ret_fn rfl (by kernel_rfl) Tryz.func192 rfl
@[simp] theorem aAB : C.locs 192 = [] := by kernel_rfl
noncomputable def anZ := Tryz.f193.body.getD .skip
theorem aw2 : Ret C 193 a H R ↔ WP C 193 anZ ⟨initRegs a, 0, H⟩ (finQ C Tryz.f193 H R) := Ret_fn rfl (by kernel_rfl) Tryz.func193 rfl
@[simp] theorem aAq : C.locs 193 = [1, 2, 3] := by kernel_rfl
noncomputable def anT := Tryz.f194.body.getD .skip
theorem awo : Ret C 194 a H R ↔ WP C 194 anT ⟨initRegs a, 0, H⟩ (finQ C Tryz.f194 H R) := Ret_fn rfl (by kernel_rfl) Tryz.func194 rfl
@[simp] theorem aye : C.locs 194 = [1] := by kernel_rfl
noncomputable def aoX := Tryz.f195.body.getD .skip
theorem aw4 : Ret C 195 a H R ↔ WP C 195 aoX ⟨initRegs a, 0, H⟩ (finQ C Tryz.f195 H R) := Ret_fn rfl (by kernel_rfl) Tryz.func195 rfl
@[simp] theorem ax5 : C.locs 195 = [] := by kernel_rfl
noncomputable def akg := Tryz.f196.body.getD .skip
theorem aw8 : Ret C 196 a H R ↔ WP C 196 akg ⟨initRegs a, 0, H⟩ (finQ C Tryz.f196 H R) := Ret_fn rfl (by kernel_rfl) Tryz.func196 rfl
@[simp] theorem ayt : C.locs 196 = [1, 4] := by kernel_rfl
noncomputable def ak5 := Tryz.f197.body.getD .skip
theorem axS : Ret C 197 a H R ↔ WP C 197 ak5 ⟨initRegs a, 0, H⟩ (finQ C Tryz.f197 H R) := Ret_fn rfl (by kernel_rfl) Tryz.func197 rfl
@[simp] theorem aAJ : C.locs 197 = [5, 8] := by kernel_rfl
noncomputable def aiA := Tryz.f199.body.getD .skip
theorem atT : C.fids 199 = true := by kernel_rfl
theorem atq : Tryz.f199.body = some aiA := rfl
theorem atg : C.prim 199 = none := rfl
theorem as7 : C.funcs 199 = some Tryz.f199 := Tryz.func199
theorem aqT : Ret C 199 a H R ↔ WP C 199 aiA ⟨initRegs a, 0, H⟩ (finQ C Tryz.f199 H R) := Ret_fn rfl (by kernel_rfl) Tryz.func199 rfl
@[simp] theorem arW : C.locs 199 = [] := by kernel_rfl
noncomputable def aoe := Tryz.f200.body.getD .skip
theorem avt : Ret C 200 a H R ↔ WP C 200 aoe ⟨initRegs a, 0, H⟩ (finQ C Tryz.f200 H R) := Ret_fn rfl (by kernel_rfl) Tryz.func200 rfl
@[simp] theorem azr : C.locs 200 = [] := by kernel_rfl
noncomputable def aoU := Tryz.f201.body.getD .skip
theorem av6 : Ret C 201 a H R ↔ WP C 201 aoU ⟨initRegs a, 0, H⟩ (finQ C Tryz.f201 H R) := Ret_fn rfl (by kernel_rfl) Tryz.func201 rfl
@[simp] theorem ayS : C.locs 201 = [] := by kernel_rfl
noncomputable def aoI := Tryz.f202.body.getD .skip
theorem avs : Ret C 202 a H R ↔ WP C 202 aoI ⟨initRegs a, 0, H⟩ (finQ C Tryz.f202 H R) := Ret_fn rfl (by kernel_rfl) Tryz.func202 rfl
@[simp] theorem aAc : C.locs 202 = [] := by kernel_rfl
noncomputable def ao2 := Tryz.f203.body.getD .skip
theorem auY : Ret C 203 a H R ↔ WP C 203 ao2 ⟨initRegs a, 0, H⟩ (finQ C Tryz.f203 H R) := Ret_fn rfl (by kernel_rfl) Tryz.func203 rfl
@[simp] theorem azQ : C.locs 203 = [] := by kernel_rfl
noncomputable def aot := Tryz.f204.body.getD .skip
theorem au9 : Ret C 204 a H R ↔ WP C 204 aot ⟨initRegs a, 0, H⟩ (finQ C Tryz.f204 H R) := Ret_fn rfl (by kernel_rfl) Tryz.func204 rfl
@[simp] theorem aAL : C.locs 204 = [] := by kernel_rfl
noncomputable def akn := Tryz.f205.body.getD .skip
theorem avW : Ret C 205 a H R ↔ WP C 205 akn ⟨initRegs a, 0, H⟩ (finQ C Tryz.f205 H R) := Ret_fn rfl (by kernel_rfl) Tryz.func205 rfl
@[simp] theorem az6 : C.locs 205 = [] := by kernel_rfl
noncomputable def ajP := Tryz.f206.body.getD .skip
theorem avT : Ret C 206 a H R ↔ WP C 206 ajP ⟨initRegs a, 0, H⟩ (finQ C Tryz.f206 H R) := Ret_fn rfl (by kernel_rfl) Tryz.func206 rfl
@[simp] theorem ayb : C.locs 206 = [3] := by kernel_rfl
@[simp] theorem aAu : C.locs 207 = [] := by kernel_rfl
@[simp] theorem az3 : C.locs 208 = [] := by kernel_rfl
noncomputable def an2 := Tryz.f209.body.getD .skip
theorem axr : Ret C 209 a H R ↔ WP C 209 an2 ⟨initRegs a, 0, H⟩ (finQ C Tryz.f209 H R) := Ret_fn rfl (by kernel_rfl) Tryz.func209 rfl
@[simp] theorem aAf : C.locs 209 = [2] := by kernel_rfl
noncomputable def apg := Tryz.f210.body.getD .skip
theorem av9 : Ret C 210 a H R ↔ WP C 210 apg ⟨initRegs a, 0, H⟩ (finQ C Tryz.f210 H R) := Ret_fn rfl (by kernel_rfl) Tryz.func210 rfl
@[simp] theorem aAp : C.locs 210 = [] := by kernel_rfl
noncomputable def apl := Tryz.f211.body.getD .skip
theorem awl : Ret C 211 a H R ↔ WP C 211 apl ⟨initRegs a, 0, H⟩ (finQ C Tryz.f211 H R) := Ret_fn rfl (by kernel_rfl) Tryz.func211 rfl
@[simp] theorem aAM : C.locs 211 = [] := by kernel_rfl
@[simp] theorem aAb : C.locs 212 = [] := by kernel_rfl
@[simp] theorem ayJ : C.locs 213 = [] := by kernel_rfl
noncomputable def ami := Tryz.f214.body.getD .skip
theorem awU : Ret C 214 a H R ↔ WP C 214 ami ⟨initRegs a, 0, H⟩ (finQ C Tryz.f214 H R) := Ret_fn rfl (by kernel_rfl) Tryz.func214 rfl
@[simp] theorem azY : C.locs 214 = [] := by kernel_rfl
noncomputable def ajO := Tryz.f215.body.getD .skip
theorem amT : Ret C 215 a H R ↔ WP C 215 ajO ⟨initRegs a, 0, H⟩ (finQ C Tryz.f215 H R) := Ret_fn rfl (by kernel_rfl) Tryz.func215 rfl
@[simp] theorem ay7 : C.locs 215 = [2, 3] := by kernel_rfl
noncomputable def apb := Tryz.f216.body.getD .skip
theorem ax1 : Ret C 216 a H R ↔ WP C 216 apb ⟨initRegs a, 0, H⟩ (finQ C Tryz.f216 H R) := Ret_fn rfl (by kernel_rfl) Tryz.func216 rfl
@[simp] theorem azW : C.locs 216 = [] := by kernel_rfl
noncomputable def aiu := Tryz.f217.body.getD .skip
theorem atb : C.fids 217 = true := by kernel_rfl
theorem atD : Tryz.f217.body = some aiu := rfl
theorem as1 : C.prim 217 = none := rfl
theorem atX : C.funcs 217 = some Tryz.f217 := Tryz.func217
theorem arw : Ret C 217 a H R ↔ WP C 217 aiu ⟨initRegs a, 0, H⟩ (finQ C Tryz.f217 H R) := Ret_fn rfl (by kernel_rfl) Tryz.func217 rfl
@[simp] theorem asM : C.locs 217 = [] := by kernel_rfl
noncomputable def ajN := Tryz.f218.body.getD .skip
theorem atY : Ret C 218 a H R ↔ WP C 218 ajN ⟨initRegs a, 0, H⟩ (finQ C Tryz.f218 H R) := Ret_fn rfl (by kernel_rfl) Tryz.func218 rfl
@[simp] theorem ayR : C.locs 218 = [] := by kernel_rfl
noncomputable def ajF := Tryz.f219.body.getD .skip
theorem as4 : Ret C 219 a H R ↔ WP C 219 ajF ⟨initRegs a, 0, H⟩ (finQ C Tryz.f219 H R) := Ret_fn rfl (by kernel_rfl) Tryz.func219 rfl
@[simp] theorem aAG : C.locs 219 = [] := by kernel_rfl
noncomputable def ake := Tryz.f220.body.getD .skip
theorem avA : Ret C 220 a H R ↔ WP C 220 ake ⟨initRegs a, 0, H⟩ (finQ C Tryz.f220 H R) := Ret_fn rfl (by kernel_rfl) Tryz.func220 rfl
@[simp] theorem aAk : C.locs 220 = [1] := by kernel_rfl
noncomputable def apm := Tryz.f221.body.getD .skip
theorem awf : Ret C 221 a H R ↔ WP C 221 apm ⟨initRegs a, 0, H⟩ (finQ C Tryz.f221 H R) := Ret_fn rfl (by kernel_rfl) Tryz.func221 rfl
@[simp] theorem ayN : C.locs 221 = [] := by kernel_rfl
noncomputable def anW := Tryz.f224.body.getD .skip
theorem ax2 : Ret C 224 a H R ↔ WP C 224 anW ⟨initRegs a, 0, H⟩ (finQ C Tryz.f224 H R) := Ret_fn rfl (by kernel_rfl) Tryz.func224 rfl
@[simp] theorem aAd : C.locs 224 = [] := by kernel_rfl
noncomputable def ak8 := Tryz.f226.body.getD .skip
theorem aw1 : Ret C 226 a H R ↔ WP C 226 ak8 ⟨initRegs a, 0, H⟩ (finQ C Tryz.f226 H R) := Ret_fn rfl (by kernel_rfl) Tryz.func226 rfl
@[simp] theorem ayp : C.locs 226 = [] := by kernel_rfl
noncomputable def apf := Tryz.f227.body.getD .skip
theorem avF : Ret C 227 a H R ↔ WP C 227 apf ⟨initRegs a, 0, H⟩ (finQ C Tryz.f227 H R) := Ret_fn rfl (by kernel_rfl) Tryz.func227 rfl
@[simp] theorem azy : C.locs 227 = [] := by kernel_rfl
noncomputable def anX := Tryz.f228.body.getD .skip
theorem axs : Ret C 228 a H R ↔ WP C 228 anX ⟨initRegs a, 0, H⟩ (finQ C Tryz.f228 H R) := Ret_fn rfl (by kernel_rfl) Tryz.func228 rfl
@[simp] theorem ayW : C.locs 228 = [] := by kernel_rfl
noncomputable def aom := Tryz.f229.body.getD .skip
theorem avG : Ret C 229 a H R ↔ WP C 229 aom ⟨initRegs a, 0, H⟩ (finQ C Tryz.f229 H R) := Ret_fn rfl (by kernel_rfl) Tryz.func229 rfl
@[simp] theorem ay9 : C.locs 229 = [1] := by kernel_rfl
noncomputable def akV := Tryz.f230.body.getD .skip
theorem axM : Ret C 230 a H R ↔ WP C 230 akV ⟨initRegs a, 0, H⟩ (finQ C Tryz.f230 H R) := Ret_fn rfl (by kernel_rfl) Tryz.func230 rfl
@[simp] theorem aAo : C.locs 230 = [1] := by kernel_rfl
noncomputable def aae := Tryz.f231.body.getD .skip
theorem alY : Ret C 231 a H R ↔ WP C 231 aae ⟨initRegs a, 0, H⟩ (finQ C Tryz.f231 H R) := Ret_fn rfl (by kernel_rfl) Tryz.func231 rfl
@[simp] theorem ayG : C.locs 231 = [4] := by kernel_rfl
noncomputable def aj6 := Tryz.f232.body.getD .skip
theorem at7 : Ret C 232 a H R ↔ WP C 232 aj6 ⟨initRegs a, 0, H⟩ (finQ C Tryz.f232 H R) := Ret_fn rfl (by kernel_rfl) Tryz.func232 rfl
@[simp] theorem aAD : C.locs 232 = [] := by kernel_rfl
noncomputable def aof := Tryz.f233.body.getD .skip
theorem avw : Ret C 233 a H R ↔ WP C 233 aof ⟨initRegs a, 0, H⟩ (finQ C Tryz.f233 H R) := Ret_fn rfl (by kernel_rfl) Tryz.func233 rfl
@[simp] theorem azz : C.locs 233 = [] := by kernel_rfl
noncomputable def amk := Tryz.f234.body.getD .skip
theorem as3 : Ret C 234 a H R ↔ WP C 234 amk ⟨initRegs a, 0, H⟩ (finQ C Tryz.f234 H R) := Ret_fn rfl (by kernel_rfl) Tryz.func234 rfl
@[simp] theorem aAA : C.locs 234 = [] := by kernel_rfl
noncomputable def akW := Tryz.f235.body.getD .skip
theorem awJ : Ret C 235 a H R ↔ WP C 235 akW ⟨initRegs a, 0, H⟩ (finQ C Tryz.f235 H R) := Ret_fn rfl (by kernel_rfl) Tryz.func235 rfl
@[simp] theorem ay5 : C.locs 235 = [] := by kernel_rfl
noncomputable def ao4 := Tryz.f239.body.getD .skip
theorem aw3 : Ret C 239 a H R ↔ WP C 239 ao4 ⟨initRegs a, 0, H⟩ (finQ C Tryz.f239 H R) := Ret_fn rfl (by kernel_rfl) Tryz.func239 rfl
@[simp] theorem azV : C.locs 239 = [5] := by kernel_rfl
noncomputable def akY := Tryz.f240.body.getD .skip
theorem awc : Ret C 240 a H R ↔ WP C 240 akY ⟨initRegs a, 0, H⟩ (finQ C Tryz.f240 H R) := Ret_fn rfl (by kernel_rfl) Tryz.func240 rfl
@[simp] theorem ayz : C.locs 240 = [] := by kernel_rfl
noncomputable def aoq := Tryz.f241.body.getD .skip
theorem axd : Ret C 241 a H R ↔ WP C 241 aoq ⟨initRegs a, 0, H⟩ (finQ C Tryz.f241 H R) := Ret_fn rfl (by kernel_rfl) Tryz.func241 rfl
@[simp] theorem ayL : C.locs 241 = [] := by kernel_rfl
noncomputable def ald := Tryz.f248.body.getD .skip
theorem aws : Ret C 248 a H R ↔ WP C 248 ald ⟨initRegs a, 0, H⟩ (finQ C Tryz.f248 H R) := Ret_fn rfl (by kernel_rfl) Tryz.func248 rfl
@[simp] theorem az9 : C.locs 248 = [] := by kernel_rfl
noncomputable def akr := Tryz.f256.body.getD .skip
theorem aoN : Ret C 256 a H R ↔ WP C 256 akr ⟨initRegs a, 0, H⟩ (finQ C Tryz.f256 H R) := Ret_fn rfl (by kernel_rfl) Tryz.func256 rfl
@[simp] theorem ayw : C.locs 256 = [2] := by kernel_rfl
noncomputable def aoH := Tryz.f257.body.getD .skip
theorem avX : Ret C 257 a H R ↔ WP C 257 aoH ⟨initRegs a, 0, H⟩ (finQ C Tryz.f257 H R) := Ret_fn rfl (by kernel_rfl) Tryz.func257 rfl
@[simp] theorem aze : C.locs 257 = [1, 2, 3] := by kernel_rfl
noncomputable def aiS := Tryz.f258.body.getD .skip
theorem akF : Ret C 258 a H R ↔ WP C 258 aiS ⟨initRegs a, 0, H⟩ (finQ C Tryz.f258 H R) := Ret_fn rfl (by kernel_rfl) Tryz.func258 rfl
@[simp] theorem azt : C.locs 258 = [2, 3] := by kernel_rfl
noncomputable def aox := Tryz.f259.body.getD .skip
theorem axQ : Ret C 259 a H R ↔ WP C 259 aox ⟨initRegs a, 0, H⟩ (finQ C Tryz.f259 H R) := Ret_fn rfl (by kernel_rfl) Tryz.func259 rfl
@[simp] theorem ays : C.locs 259 = [] := by kernel_rfl
noncomputable def amq := Tryz.f260.body.getD .skip
theorem axY : Ret C 260 a H R ↔ WP C 260 amq ⟨initRegs a, 0, H⟩ (finQ C Tryz.f260 H R) := Ret_fn rfl (by kernel_rfl) Tryz.func260 rfl
@[simp] theorem aAi : C.locs 260 = [2] := by kernel_rfl
noncomputable def apn := Tryz.f261.body.getD .skip
theorem aww : Ret C 261 a H R ↔ WP C 261 apn ⟨initRegs a, 0, H⟩ (finQ C Tryz.f261 H R) := Ret_fn rfl (by kernel_rfl) Tryz.func261 rfl
@[simp] theorem ax6 : C.locs 261 = [] := by kernel_rfl
noncomputable def apk := Tryz.f262.body.getD .skip
theorem awL : Ret C 262 a H R ↔ WP C 262 apk ⟨initRegs a, 0, H⟩ (finQ C Tryz.f262 H R) := Ret_fn rfl (by kernel_rfl) Tryz.func262 rfl
@[simp] theorem azH : C.locs 262 = [] := by kernel_rfl
noncomputable def ajj := Tryz.f263.body.getD .skip
theorem as6 : C.fids 263 = true := by kernel_rfl
theorem atK : Tryz.f263.body = some ajj := rfl
theorem atw : C.prim 263 = none := rfl
theorem at6 : C.funcs 263 = some Tryz.f263 := Tryz.func263
theorem arM : Ret C 263 a H R ↔ WP C 263 ajj ⟨initRegs a, 0, H⟩ (finQ C Tryz.f263 H R) := Ret_fn rfl (by kernel_rfl) Tryz.func263 rfl
@[simp] theorem asf : C.locs 263 = [] := by kernel_rfl
noncomputable def amd := Tryz.f264.body.getD .skip
theorem axx : Ret C 264 a H R ↔ WP C 264 amd ⟨initRegs a, 0, H⟩ (finQ C Tryz.f264 H R) := Ret_fn rfl (by kernel_rfl) Tryz.func264 rfl
@[simp] theorem ax7 : C.locs 264 = [] := by kernel_rfl
noncomputable def aoo := Tryz.f265.body.getD .skip
theorem avy : Ret C 265 a H R ↔ WP C 265 aoo ⟨initRegs a, 0, H⟩ (finQ C Tryz.f265 H R) := Ret_fn rfl (by kernel_rfl) Tryz.func265 rfl
@[simp] theorem aAR : C.locs 265 = [] := by kernel_rfl
noncomputable def ak9 := Tryz.f266.body.getD .skip
theorem au2 : Ret C 266 a H R ↔ WP C 266 ak9 ⟨initRegs a, 0, H⟩ (finQ C Tryz.f266 H R) := Ret_fn rfl (by kernel_rfl) Tryz.func266 rfl
@[simp] theorem aym : C.locs 266 = [1] := by kernel_rfl
noncomputable def amg := Tryz.f267.body.getD .skip
theorem awP : Ret C 267 a H R ↔ WP C 267 amg ⟨initRegs a, 0, H⟩ (finQ C Tryz.f267 H R) := Ret_fn rfl (by kernel_rfl) Tryz.func267 rfl
@[simp] theorem aAr : C.locs 267 = [4] := by kernel_rfl
noncomputable def amm := Tryz.f268.body.getD .skip
theorem av4 : Ret C 268 a H R ↔ WP C 268 amm ⟨initRegs a, 0, H⟩ (finQ C Tryz.f268 H R) := Ret_fn rfl (by kernel_rfl) Tryz.func268 rfl
@[simp] theorem ayc : C.locs 268 = [2] := by kernel_rfl
noncomputable def amK := Tryz.f269.body.getD .skip
theorem axz : Ret C 269 a H R ↔ WP C 269 amK ⟨initRegs a, 0, H⟩ (finQ C Tryz.f269 H R) := Ret_fn rfl (by kernel_rfl) Tryz.func269 rfl
@[simp] theorem azG : C.locs 269 = [] := by kernel_rfl
noncomputable def ajp := Tryz.f271.body.getD .skip
theorem att : C.fids 271 = true := by kernel_rfl
theorem atJ : Tryz.f271.body = some ajp := rfl
theorem atI : C.prim 271 = none := rfl
theorem atm : C.funcs 271 = some Tryz.f271 := Tryz.func271
theorem aqR : Ret C 271 a H R ↔ WP C 271 ajp ⟨initRegs a, 0, H⟩ (finQ C Tryz.f271 H R) := Ret_fn rfl (by kernel_rfl) Tryz.func271 rfl
@[simp] theorem asN : C.locs 271 = [] := by kernel_rfl
noncomputable def ajk := Tryz.f272.body.getD .skip
theorem ato : C.fids 272 = true := by kernel_rfl
theorem atn : Tryz.f272.body = some ajk := rfl
theorem aty : C.prim 272 = none := rfl
theorem atl : C.funcs 272 = some Tryz.f272 := Tryz.func272
theorem arN : Ret C 272 a H R ↔ WP C 272 ajk ⟨initRegs a, 0, H⟩ (finQ C Tryz.f272 H R) := Ret_fn rfl (by kernel_rfl) Tryz.func272 rfl
@[simp] theorem arX : C.locs 272 = [] := by kernel_rfl
noncomputable def an3 := Tryz.f273.body.getD .skip
theorem awu : Ret C 273 a H R ↔ WP C 273 an3 ⟨initRegs a, 0, H⟩ (finQ C Tryz.f273 H R) := Ret_fn rfl (by kernel_rfl) Tryz.func273 rfl
@[simp] theorem aAm : C.locs 273 = [] := by kernel_rfl
noncomputable def aog := Tryz.f274.body.getD .skip
theorem avg : Ret C 274 a H R ↔ WP C 274 aog ⟨initRegs a, 0, H⟩ (finQ C Tryz.f274 H R) := Ret_fn rfl (by kernel_rfl) Tryz.func274 rfl
@[simp] theorem ayT : C.locs 274 = [2] := by kernel_rfl
noncomputable def akR := Tryz.f275.body.getD .skip
theorem awr : Ret C 275 a H R ↔ WP C 275 akR ⟨initRegs a, 0, H⟩ (finQ C Tryz.f275 H R) := Ret_fn rfl (by kernel_rfl) Tryz.func275 rfl
@[simp] theorem ayV : C.locs 275 = [] := by kernel_rfl
noncomputable def amJ := Tryz.f276.body.getD .skip
theorem awz : Ret C 276 a H R ↔ WP C 276 amJ ⟨initRegs a, 0, H⟩ (finQ C Tryz.f276 H R) := Ret_fn rfl (by kernel_rfl) Tryz.func276 rfl
@[simp] theorem ayr : C.locs 276 = [5] := by kernel_rfl
noncomputable def apc := Tryz.f277.body.getD .skip
theorem auR : Ret C 277 a H R ↔ WP C 277 apc ⟨initRegs a, 0, H⟩ (finQ C Tryz.f277 H R) := Ret_fn rfl (by kernel_rfl) Tryz.func277 rfl
@[simp] theorem az4 : C.locs 277 = [1] := by kernel_rfl
noncomputable def aoi := Tryz.f278.body.getD .skip
theorem ax3 : Ret C 278 a H R ↔ WP C 278 aoi ⟨initRegs a, 0, H⟩ (finQ C Tryz.f278 H R) := Ret_fn rfl (by kernel_rfl) Tryz.func278 rfl
@[simp] theorem azx : C.locs 278 = [] := by kernel_rfl
@[simp] theorem aAE : C.locs 279 = [] := by kernel_rfl
@[simp] theorem aAz : C.locs 280 = [] := by kernel_rfl
@[simp] theorem ayX : C.locs 281 = [] := by kernel_rfl
noncomputable def alb := Tryz.f282.body.getD .skip
theorem aqG : Ret C 282 a H R ↔ WP C 282 alb ⟨initRegs a, 0, H⟩ (finQ C Tryz.f282 H R) := Ret_fn rfl (by kernel_rfl) Tryz.func282 rfl
@[simp] theorem azA : C.locs 282 = [2] := by kernel_rfl
noncomputable def ah0 := Tryz.f283.body.getD .skip
theorem au1 : Ret C 283 a H R ↔ WP C 283 ah0 ⟨initRegs a, 0, H⟩ (finQ C Tryz.f283 H R) := Ret_fn rfl (by kernel_rfl) Tryz.func283 rfl
@[simp] theorem azi : C.locs 283 = [1] := by kernel_rfl
noncomputable def aio := Tryz.f284.body.getD .skip
theorem axZ : Ret C 284 a H R ↔ WP C 284 aio ⟨initRegs a, 0, H⟩ (finQ C Tryz.f284 H R) := Ret_fn rfl (by kernel_rfl) Tryz.func284 rfl
@[simp] theorem azB : C.locs 284 = [1] := by kernel_rfl
noncomputable def aiT := Tryz.f285.body.getD .skip
theorem avK : Ret C 285 a H R ↔ WP C 285 aiT ⟨initRegs a, 0, H⟩ (finQ C Tryz.f285 H R) := Ret_fn rfl (by kernel_rfl) Tryz.func285 rfl
@[simp] theorem ayE : C.locs 285 = [] := by kernel_rfl
noncomputable def an8 := Tryz.f289.body.getD .skip
theorem awM : Ret C 289 a H R ↔ WP C 289 an8 ⟨initRegs a, 0, H⟩ (finQ C Tryz.f289 H R) := Ret_fn rfl (by kernel_rfl) Tryz.func289 rfl
@[simp] theorem ay4 : C.locs 289 = [] := by kernel_rfl
noncomputable def anS := Tryz.f291.body.getD .skip
theorem awY : Ret C 291 a H R ↔ WP C 291 anS ⟨initRegs a, 0, H⟩ (finQ C Tryz.f291 H R) := Ret_fn rfl (by kernel_rfl) Tryz.func291 rfl
@[simp] theorem aAI : C.locs 291 = [1, 2, 3] := by kernel_rfl
noncomputable def ao8 := Tryz.f292.body.getD .skip
theorem awm : Ret C 292 a H R ↔ WP C 292 ao8 ⟨initRegs a, 0, H⟩ (finQ C Tryz.f292 H R) := Ret_fn rfl (by kernel_rfl) Tryz.func292 rfl
@[simp] theorem azl : C.locs 292 = [] := by kernel_rfl
noncomputable def ais := Tryz.f293.body.getD .skip
theorem atv : C.fids 293 = true := by kernel_rfl
theorem atH : Tryz.f293.body = some ais := rfl
theorem ata : C.prim 293 = none := rfl
theorem atP : C.funcs 293 = some Tryz.f293 := Tryz.func293
theorem arx : Ret C 293 a H R ↔ WP C 293 ais ⟨initRegs a, 0, H⟩ (finQ C Tryz.f293 H R) := Ret_fn rfl (by kernel_rfl) Tryz.func293 rfl
@[simp] theorem asC : C.locs 293 = [] := by kernel_rfl
noncomputable def aiq := Tryz.f294.body.getD .skip
theorem auT : Ret C 294 a H R ↔ WP C 294 aiq ⟨initRegs a, 0, H⟩ (finQ C Tryz.f294 H R) := Ret_fn rfl (by kernel_rfl) Tryz.func294 rfl
@[simp] theorem azq : C.locs 294 = [1] := by kernel_rfl
noncomputable def aiR := Tryz.f295.body.getD .skip
theorem awj : Ret C 295 a H R ↔ WP C 295 aiR ⟨initRegs a, 0, H⟩ (finQ C Tryz.f295 H R) := Ret_fn rfl (by kernel_rfl) Tryz.func295 rfl
@[simp] theorem ayi : C.locs 295 = [] := by kernel_rfl
noncomputable def aj7 := Tryz.f297.body.getD .skip
theorem aqv : Ret C 297 a H R ↔ WP C 297 aj7 ⟨initRegs a, 0, H⟩ (finQ C Tryz.f297 H R) := Ret_fn rfl (by kernel_rfl) Tryz.func297 rfl
@[simp] theorem azD : C.locs 297 = [] := by kernel_rfl
noncomputable def ai6 := Tryz.f303.body.getD .skip
theorem axN : Ret C 303 a H R ↔ WP C 303 ai6 ⟨initRegs a, 0, H⟩ (finQ C Tryz.f303 H R) := Ret_fn rfl (by kernel_rfl) Tryz.func303 rfl
@[simp] theorem aAe : C.locs 303 = [] := by kernel_rfl
noncomputable def ak0 := Tryz.f304.body.getD .skip
theorem ap1 : Ret C 304 a H R ↔ WP C 304 ak0 ⟨initRegs a, 0, H⟩ (finQ C Tryz.f304 H R) := Ret_fn rfl (by kernel_rfl) Tryz.func304 rfl
@[simp] theorem ayg : C.locs 304 = [2, 3] := by kernel_rfl
noncomputable def amH := Tryz.f306.body.getD .skip
theorem avd : Ret C 306 a H R ↔ WP C 306 amH ⟨initRegs a, 0, H⟩ (finQ C Tryz.f306 H R) := Ret_fn rfl (by kernel_rfl) Tryz.func306 rfl
@[simp] theorem aAj : C.locs 306 = [4, 7] := by kernel_rfl
noncomputable def api := Tryz.f308.body.getD .skip
theorem awq : Ret C 308 a H R ↔ WP C 308 api ⟨initRegs a, 0, H⟩ (finQ C Tryz.f308 H R) := Ret_fn rfl (by kernel_rfl) Tryz.func308 rfl
@[simp] theorem azP : C.locs 308 = [] := by kernel_rfl
noncomputable def aoD := Tryz.f309.body.getD .skip
theorem ave : Ret C 309 a H R ↔ WP C 309 aoD ⟨initRegs a, 0, H⟩ (finQ C Tryz.f309 H R) := Ret_fn rfl (by kernel_rfl) Tryz.func309 rfl
@[simp] theorem ayM : C.locs 309 = [] := by kernel_rfl
noncomputable def ajh := Tryz.f310.body.getD .skip
theorem ath : C.fids 310 = true := by kernel_rfl
theorem atS : Tryz.f310.body = some ajh := rfl
theorem atN : C.prim 310 = none := rfl
theorem as5 : C.funcs 310 = some Tryz.f310 := Tryz.func310
theorem ap9 : Ret C 310 a H R ↔ WP C 310 ajh ⟨initRegs a, 0, H⟩ (finQ C Tryz.f310 H R) := Ret_fn rfl (by kernel_rfl) Tryz.func310 rfl
@[simp] theorem ash : C.locs 310 = [] := by kernel_rfl
noncomputable def amI := Tryz.f311.body.getD .skip
theorem awX : Ret C 311 a H R ↔ WP C 311 amI ⟨initRegs a, 0, H⟩ (finQ C Tryz.f311 H R) := Ret_fn rfl (by kernel_rfl) Tryz.func311 rfl
@[simp] theorem ayj : C.locs 311 = [] := by kernel_rfl
noncomputable def alc := Tryz.f312.body.getD .skip
theorem atr : Ret C 312 a H R ↔ WP C 312 alc ⟨initRegs a, 0, H⟩ (finQ C Tryz.f312 H R) := Ret_fn rfl (by kernel_rfl) Tryz.func312 rfl
@[simp] theorem aAK : C.locs 312 = [] := by kernel_rfl
noncomputable def aoL := Tryz.f313.body.getD .skip
theorem axX : Ret C 313 a H R ↔ WP C 313 aoL ⟨initRegs a, 0, H⟩ (finQ C Tryz.f313 H R) := Ret_fn rfl (by kernel_rfl) Tryz.func313 rfl
@[simp] theorem ayD : C.locs 313 = [] := by kernel_rfl
noncomputable def aoF := Tryz.f314.body.getD .skip
theorem avU : Ret C 314 a H R ↔ WP C 314 aoF ⟨initRegs a, 0, H⟩ (finQ C Tryz.f314 H R) := Ret_fn rfl (by kernel_rfl) Tryz.func314 rfl
@[simp] theorem aAh : C.locs 314 = [] := by kernel_rfl
noncomputable def aiQ := Tryz.f315.body.getD .skip
theorem atp : C.fids 315 = true := by kernel_rfl
theorem atu : Tryz.f315.body = some aiQ := rfl
theorem as9 : C.prim 315 = none := rfl
theorem atL : C.funcs 315 = some Tryz.f315 := Tryz.func315
theorem arc : Ret C 315 a H R ↔ WP C 315 aiQ ⟨initRegs a, 0, H⟩ (finQ C Tryz.f315 H R) := Ret_fn rfl (by kernel_rfl) Tryz.func315 rfl
@[simp] theorem asX : C.locs 315 = [] := by kernel_rfl
noncomputable def aph := Tryz.f316.body.getD .skip
theorem au5 : Ret C 316 a H R ↔ WP C 316 aph ⟨initRegs a, 0, H⟩ (finQ C Tryz.f316 H R) := Ret_fn rfl (by kernel_rfl) Tryz.func316 rfl
@[simp] theorem azf : C.locs 316 = [] := by kernel_rfl
@[simp] theorem azm : C.locs 317 = [9] := by kernel_rfl
@[simp] theorem azU : C.locs 319 = [] := by kernel_rfl
noncomputable def aij := Tryz.f321.body.getD .skip
theorem awK : Ret C 321 a H R ↔ WP C 321 aij ⟨initRegs a, 0, H⟩ (finQ C Tryz.f321 H R) := Ret_fn rfl (by kernel_rfl) Tryz.func321 rfl
@[simp] theorem azs : C.locs 321 = [] := by kernel_rfl
noncomputable def an0 := Tryz.f331.body.getD .skip
theorem avH : Ret C 331 a H R ↔ WP C 331 an0 ⟨initRegs a, 0, H⟩ (finQ C Tryz.f331 H R) := Ret_fn rfl (by kernel_rfl) Tryz.func331 rfl
@[simp] theorem azv : C.locs 331 = [] := by kernel_rfl
noncomputable def aok := Tryz.f332.body.getD .skip
theorem ax0 : Ret C 332 a H R ↔ WP C 332 aok ⟨initRegs a, 0, H⟩ (finQ C Tryz.f332 H R) := Ret_fn rfl (by kernel_rfl) Tryz.func332 rfl
@[simp] theorem ayB : C.locs 332 = [] := by kernel_rfl
noncomputable def apr := Tryz.f333.body.getD .skip
theorem axv : Ret C 333 a H R ↔ WP C 333 apr ⟨initRegs a, 0, H⟩ (finQ C Tryz.f333 H R) := Ret_fn rfl (by kernel_rfl) Tryz.func333 rfl
@[simp] theorem azX : C.locs 333 = [2] := by kernel_rfl
noncomputable def ajs := Tryz.f334.body.getD .skip
theorem atf : C.fids 334 = true := by kernel_rfl
theorem atW : Tryz.f334.body = some ajs := rfl
theorem atd : C.prim 334 = none := rfl
theorem atQ : C.funcs 334 = some Tryz.f334 := Tryz.func334
theorem aq8 : Ret C 334 a H R ↔ WP C 334 ajs ⟨initRegs a, 0, H⟩ (finQ C Tryz.f334 H R) := Ret_fn rfl (by kernel_rfl) Tryz.func334 rfl
@[simp] theorem asi : C.locs 334 = [] := by kernel_rfl
noncomputable def apt := Tryz.f335.body.getD .skip
theorem axu : Ret C 335 a H R ↔ WP C 335 apt ⟨initRegs a, 0, H⟩ (finQ C Tryz.f335 H R) := Ret_fn rfl (by kernel_rfl) Tryz.func335 rfl
@[simp] theorem azc : C.locs 335 = [] := by kernel_rfl
noncomputable def aiD := Tryz.f336.body.getD .skip
theorem atx : C.fids 336 = true := by kernel_rfl
theorem as8 : Tryz.f336.body = some aiD := rfl
theorem atz : C.prim 336 = none := rfl
theorem ate : C.funcs 336 = some Tryz.f336 := Tryz.func336
theorem aqY : Ret C 336 a H R ↔ WP C 336 aiD ⟨initRegs a, 0, H⟩ (finQ C Tryz.f336 H R) := Ret_fn rfl (by kernel_rfl) Tryz.func336 rfl
@[simp] theorem asK : C.locs 336 = [] := by kernel_rfl
@[simp] theorem azN : C.locs 337 = [] := by kernel_rfl
@[simp] theorem ayK : C.locs 338 = [] := by kernel_rfl
noncomputable def ao3 := Tryz.f352.body.getD .skip
theorem awG : Ret C 352 a H R ↔ WP C 352 ao3 ⟨initRegs a, 0, H⟩ (finQ C Tryz.f352 H R) := Ret_fn rfl (by kernel_rfl) Tryz.func352 rfl
@[simp] theorem azp : C.locs 352 = [] := by kernel_rfl
noncomputable def aje := Tryz.f353.body.getD .skip
theorem atA : C.fids 353 = true := by kernel_rfl
theorem atU : Tryz.f353.body = some aje := rfl
theorem atV : C.prim 353 = none := rfl
theorem atF : C.funcs 353 = some Tryz.f353 := Tryz.func353
theorem aqQ : Ret C 353 a H R ↔ WP C 353 aje ⟨initRegs a, 0, H⟩ (finQ C Tryz.f353 H R) := Ret_fn rfl (by kernel_rfl) Tryz.func353 rfl
@[simp] theorem asL : C.locs 353 = [] := by kernel_rfl
noncomputable def aoJ := Tryz.f354.body.getD .skip
theorem axF : Ret C 354 a H R ↔ WP C 354 aoJ ⟨initRegs a, 0, H⟩ (finQ C Tryz.f354 H R) := Ret_fn rfl (by kernel_rfl) Tryz.func354 rfl
@[simp] theorem aAP : C.locs 354 = [] := by kernel_rfl
noncomputable def aol := Tryz.f355.body.getD .skip
theorem au8 : Ret C 355 a H R ↔ WP C 355 aol ⟨initRegs a, 0, H⟩ (finQ C Tryz.f355 H R) := Ret_fn rfl (by kernel_rfl) Tryz.func355 rfl
@[simp] theorem ayY : C.locs 355 = [2] := by kernel_rfl
@[simp] theorem ayf : C.ord 3 10 = some ⟨[0, 1, 2, 3, 4], [], [], [(0, 5), (1, 1)], [], []⟩ := by kernel_rfl
@[simp] theorem ax9 : C.ord 6 10 = some ⟨[0, 1, 2, 3, 4], [], [], [(0, 5), (1, 1)], [], []⟩ := by kernel_rfl
@[simp] theorem azo : C.ord 7 10 = some ⟨[0, 1, 2, 3, 4], [], [], [(0, 5), (1, 1)], [], []⟩ := by kernel_rfl
@[simp] theorem ayn : C.ord 41 7 = some ⟨[0, 1, 2, 3, 4, 5, 6, 7, 8, 9, 10, 11, 12, 13, 14, 15, 16, 17, 18, 19, 20, 22, 23, 21, 24, 25, 26, 27], [], [], [(0, 4), (5, 1), (6, 4), (15, 1), (23, 4)], [], []⟩ := by kernel_rfl
@[simp] theorem avl : C.ord 41 13 = some ⟨[0, 1, 2, 3, 4, 5, 6, 7, 8, 9, 10], [], [], [(4, 1)], [], []⟩ := by kernel_rfl
@[simp] theorem azL : C.ord 47 6 = some ⟨[0, 1, 2, 3, 4, 5, 6, 7, 8, 9, 10, 11, 12, 13, 14, 15, 17, 18, 16, 19, 20, 21, 22], [], [], [(2, 4), (18, 4)], [], []⟩ := by kernel_rfl
@[simp] theorem arU : C.ord 51 6 = none := by kernel_rfl
@[simp] theorem azJ : C.ord 65 3 = some ⟨[0, 1, 2, 3, 4, 5, 7, 8, 10, 11, 6, 9, 12, 13, 14, 15, 16, 17, 18], [], [], [(1, 1), (5, 1), (8, 1), (11, 1)], [], []⟩ := by kernel_rfl
@[simp] theorem arY : C.ord 68 6 = none := by kernel_rfl
@[simp] theorem ase : C.ord 69 6 = none := by kernel_rfl
@[simp] theorem asA : C.ord 70 6 = none := by kernel_rfl
@[simp] theorem ass : C.ord 71 6 = none := by kernel_rfl
@[simp] theorem asO : C.ord 72 6 = none := by kernel_rfl
@[simp] theorem ayO : C.ord 90 7 = none := by kernel_rfl
@[simp] theorem axl : C.ord 90 12 = none := by kernel_rfl
@[simp] theorem ayQ : C.ord 93 6 = none := by kernel_rfl
@[simp] theorem azn : C.ord 97 1 = none := by kernel_rfl
@[simp] theorem av8 : C.ord 100 4 = none := by kernel_rfl
@[simp] theorem avj : C.ord 102 2 = none := by kernel_rfl
@[simp] theorem auZ : C.ord 102 7 = none := by kernel_rfl
@[simp] theorem av5 : C.ord 103 5 = some ⟨[0, 1, 2, 3, 4, 5, 6, 7, 8, 9, 10, 11, 12, 13, 14, 15, 16], [14], [6], [], [], []⟩ := by kernel_rfl
@[simp] theorem avI : C.ord 110 6 = none := by kernel_rfl
@[simp] theorem axo : C.ord 121 4 = none := by kernel_rfl
@[simp] theorem aqE : C.ord 123 6 = none := by kernel_rfl
@[simp] theorem aw7 : C.ord 133 9 = none := by kernel_rfl
@[simp] theorem auP : C.ord 133 11 = none := by kernel_rfl
@[simp] theorem ap3 : C.ord 178 6 = none := by kernel_rfl
@[simp] theorem avD : C.ord 181 6 = none := by kernel_rfl
@[simp] theorem auL : C.ord 181 11 = none := by kernel_rfl
@[simp] theorem awR : C.ord 182 4 = none := by kernel_rfl
@[simp] theorem awd : C.ord 187 4 = none := by kernel_rfl
@[simp] theorem avc : C.ord 188 8 = none := by kernel_rfl
@[simp] theorem auO : C.ord 189 13 = none := by kernel_rfl
@[simp] theorem avN : C.ord 194 8 = some ⟨[0, 1, 2, 3, 4, 8, 9, 5, 6, 7, 10, 11, 12, 13, 14, 15, 16, 17, 18, 19, 20, 21, 22, 23, 24], [5, 6], [8], [(1, 1), (19, 1)], [], []⟩ := by kernel_rfl
@[simp] theorem awO : C.ord 196 6 = none := by kernel_rfl
@[simp] theorem auQ : C.ord 197 10 = some ⟨[0, 1, 2, 3, 4, 5, 6, 7, 8, 9, 10, 11, 12, 13, 14, 15, 16, 17], [15], [4, 7], [], [], []⟩ := by kernel_rfl
@[simp] theorem axA : C.ord 201 1 = some ⟨[0, 1, 2, 3, 4, 5, 6, 7, 8, 9, 10], [5], [3], [], [], []⟩ := by kernel_rfl
@[simp] theorem axq : C.ord 214 6 = none := by kernel_rfl
@[simp] theorem avL : C.ord 224 7 = some ⟨[0, 1, 2, 3, 4, 5, 6, 7, 8, 9, 10, 11, 12, 13, 14, 15], [13], [5], [], [], []⟩ := by kernel_rfl
@[simp] theorem aqr : C.ord 241 6 = none := by kernel_rfl
@[simp] theorem axB : C.ord 259 4 = some ⟨[0, 1, 2, 3, 4, 5, 6, 7, 8, 9, 10, 11, 12, 13, 14, 16, 17, 18, 19, 15, 20, 21, 22, 23], [15], [19], [], [], []⟩ := by kernel_rfl
@[simp] theorem auN : C.ord 276 18 = none := by kernel_rfl
@[simp] theorem axi : C.ord 297 6 = none := by kernel_rfl
@[simp] theorem auM : C.ord 297 11 = none := by kernel_rfl
@[simp] theorem awn : C.ord 306 5 = some ⟨[0, 1, 2, 3, 5, 6, 8, 9, 4, 7, 10, 11, 12, 13], [], [], [(1, 7), (3, 7), (6, 7), (9, 7), (12, 4)], [], []⟩ := by kernel_rfl
@[simp] theorem axt : C.ord 314 1 = some ⟨[0, 2, 1, 3, 4], [1], [2], [], [], []⟩ := by kernel_rfl
end Go.Proofs.Try1
end
section
namespace Go.Proofs.Try1
open Go Go.Lite
def aiK (f : Nat) (sh : Sh) : Prop := ∀ (H : List Ob) (cs : List V) (u : U) (left : Nat), At H sh cs u → left ≤ 1048576 →
 callW C f [valC sh cs, .int .i64 left] H = some (.int .i64 (if wt u ≤ left then ((left - wt u : Nat) : Int) else -1), H)
theorem aiZ : aiK 179 (.slice .str) := by
 intro H cs u left h hleft
 simp only [At] at h
 obtain ⟨v, l, rfl, rfl, hlen, hv⟩ := h
 apply Ret.eq
 rw [auU]
 by_cases h0 : (l.length : Int) ≤ left
 ·have h0' : ¬ ((left : Int) - l.length < 0) := by omega
  have hw0 : IntKind.i64.wrap ((left : Int) - l.length) = (left : Int) - l.length := wrap_i64 (by omega) (by omega)
  simp [amP, Tryz.f179, valC, hv.len, hw0, h0']
  refine WP_loop (fun k σ => ∃ (i : Nat) (r : Nat → R), i + k = l.length ∧ σ = ⟨r, 0, H⟩ ∧ r 0 = .val v ∧ l.length + wts (l.take i) ≤ left ∧ r 1 = .val (.int .i64 ((left : Int) - l.length - wts (l.take i))) ∧ r 5 = .val (.int .i64 i)) ?_ l.length _ ⟨0, _, by simp, rfl, by simp, by simp [wts]; omega, by simp [wts], by simp⟩
  rintro k σ ⟨i, r, hik, rfl, r0, hle, r1, r5⟩
  cases k with
  | zero =>
   have hi : i = l.length := by omega
   subst hi
   rw [List.take_length] at hle r1
   simp [r0, r1, r5, hv.len, wt, hle]
   omega
  | succ k =>
   have hi : i < l.length := by omega
   obtain ⟨x, hx⟩ : ∃ x, l[i]? = some x := ⟨l[i], by simp [hi]⟩
   obtain ⟨eid, o, own, cells, e1, e2, e3, s, e4, rfl, e5⟩ := hv.idx hx (by decide)
   simp only [Sh.size_str] at e1
   have c0 : cells[o]? = some (.str s) := by simpa using cells_get e4 (j := 0) rfl
   have ld := load1 e2 c0
   have ht := wts_take hx
   simp only [wt] at ht
   have hg := wts_get hx
   simp only [wt] at hg
   have hw : IntKind.i64.wrap ((i : Int) + 1) = ((i + 1 : Nat) : Int) := by rw [wrap_i64 (by omega) (by omega)]; omega
   have hw2 : IntKind.i64.wrap ((left : Int) - l.length - wts (l.take i) - s.length) = (left : Int) - l.length - wts (l.take i) - s.length := wrap_i64 (by have : s.length ≤ maxLen := e5; unfold maxLen at this; omega) (by omega)
   by_cases hb : l.length + wts (l.take (i + 1)) ≤ left
   ·have hb' : ¬ ((left : Int) - l.length - wts (l.take i) - s.length < 0) := by omega
    simp [r0, r1, r5, hi, hv.len, e1, ld, hw, hw2, hb']
    exact ⟨k, by omega, i + 1, by omega, hb, by omega, by omega⟩
   ·have hb' : (left : Int) - l.length - wts (l.take i) - s.length < 0 := by omega
    have := wts_take_le (l := l) (i := i + 1)
    have hn : ¬ (l.length + wts l ≤ left) := by omega
    simp [r0, r1, r5, hi, hv.len, e1, ld, hw, hw2, hb', wt, hn]
 ·have h0' : (left : Int) - l.length < 0 := by omega
  have hw0 : IntKind.i64.wrap ((left : Int) - l.length) = (left : Int) - l.length := wrap_i64 (by have : l.length ≤ maxLen := hlen; unfold maxLen at this; omega) (by omega)
  have hn : ¬ (l.length + wts l ≤ left) := by omega
  simp [amP, Tryz.f179, valC, hv.len, hw0, h0', wt, hn]
theorem akj {f g tS tE : Nat} {zs : List V} {fs : List Sh} {F : Func} (hop : ∀ {a : List V} {H : List Ob} {R : V → List Ob → Prop}, Ret C f a H R ↔ WP C f (ren [(47, tS), (180, tE)] [(124, g)] alD) ⟨initRegs a, 0, H⟩ (finQ C F H R))
  (hF : F.results = #[.tmp 4]) (hS : C.ty tS = ⟨.slice tE, 1, 24, zs⟩) (hE : (C.ty tE).size = (Sh.st fs).size) (hE2 : (C.ty tE).isAgg = true) (hE0 : (C.ty tE).size ≠ 0) (hg : aiK g (.st fs)) : aiK f (.slice (.st fs)) := by
 intro H cs u left h hleft
 simp only [At] at h
 obtain ⟨v, l, rfl, rfl, hlen, hv⟩ := h
 apply Ret.eq
 rw [hop]
 by_cases h0 : (l.length : Int) ≤ left
 ·have h0' : ¬ ((left : Int) - l.length < 0) := by omega
  have hw0 : IntKind.i64.wrap ((left : Int) - l.length) = (left : Int) - l.length := wrap_i64 (by omega) (by omega)
  simp [alD, Tryz.f53, ren, renO, renP, renX, sub, valC, hS, hv.len, hw0, h0']
  refine WP_loop (fun k σ => ∃ (i : Nat) (r : Nat → R), i + k = l.length ∧ σ = ⟨r, 0, H⟩ ∧ r 0 = .val v ∧ l.length + wts (l.take i) ≤ left ∧ r 1 = .val (.int .i64 ((left : Int) - l.length - wts (l.take i))) ∧ r 5 = .val (.int .i64 i)) ?_ l.length _ ⟨0, _, by simp, rfl, by simp, by simp [wts]; omega, by simp [wts], by simp⟩
  rintro k σ ⟨i, r, hik, rfl, r0, hle, r1, r5⟩
  cases k with
  | zero =>
   have hi : i = l.length := by omega
   subst hi
   rw [List.take_length] at hle r1
   simp [r0, r1, r5, hS, hv.len, wt, hle, hF]
   omega
  | succ k =>
   have hi : i < l.length := by omega
   obtain ⟨x, hx⟩ : ∃ x, l[i]? = some x := ⟨l[i], by simp [hi]⟩
   obtain ⟨eid, o, own, cells, e1, e2, e3, e4⟩ := hv.idx hx (by rw [← hE]; exact hE0)
   have e1 := fun (k : IntKind) => e1 tE 1 24 zs C.ty k hE
   have ld := load_agg (T := C.ty tE) e2 (by rw [hE]; exact e3) rfl hE0 hE2
   rw [hE] at ld
   have ht := wts_take hx
   have hw : IntKind.i64.wrap ((i : Int) + 1) = ((i + 1 : Nat) : Int) := by rw [wrap_i64 (by omega) (by omega)]; omega
   have hc := hg H _ x (left - l.length - wts (l.take i)) e4 (by omega)
   rw [show ((left - l.length - wts (l.take i) : Nat) : Int) = (left : Int) - l.length - wts (l.take i) by omega] at hc
   simp only [valC, Sh.size_st] at hc
   by_cases hb : l.length + wts (l.take (i + 1)) ≤ left
   ·have hb2 : wt x ≤ left - l.length - wts (l.take i) := by omega
    have hb' : ¬ (((left - l.length - wts (l.take i) - wt x : Nat) : Int) < 0) := by omega
    rw [if_pos hb2] at hc
    simp [r0, r1, r5, hi, hS, hv.len, e1, ld, hw, hc, hb']
    exact ⟨k, by omega, i + 1, by omega, hb, by omega, by omega⟩
   ·have hb2 : ¬ (wt x ≤ left - l.length - wts (l.take i)) := by omega
    have := wts_take_le (l := l) (i := i + 1)
    have hn : ¬ (l.length + wts l ≤ left) := by omega
    rw [if_neg hb2] at hc
    simp [r0, r1, r5, hi, hS, hv.len, e1, ld, hw, hc, wt, hn, hF]
 ·have h0' : (left : Int) - l.length < 0 := by omega
  have hw0 : IntKind.i64.wrap ((left : Int) - l.length) = (left : Int) - l.length := wrap_i64 (by have : l.length ≤ maxLen := hlen; unfold maxLen at this; omega) (by omega)
  have hn : ¬ (l.length + wts l ≤ left) := by omega
  simp [alD, Tryz.f53, ren, renO, renP, renX, sub, valC, hS, hv.len, hw0, h0', wt, hn, hF]
end Go.Proofs.Try1
end
section
namespace Go.Lite
open Go
def bys (b : Str) : List V := b.map fun c => .int .u8 c.toNat
theorem bys_len {b : Str} : (bys b).length = b.length := by simp [bys]
theorem bys_get {b : Str} {i : Nat} {c : UInt8} (h : b[i]? = some c) : (bys b)[i]? = some (.int .u8 c.toNat) := by simp [bys, h]
theorem byteOf_u8 {c : UInt8} : byteOfV (.int .u8 c.toNat) = some c := by
 simp [byteOfV]
theorem bys_mapM : ∀ {b : Str}, (bys b).mapM byteOfV = some b
 | [] => rfl
 | c :: b => by
  have := bys_mapM (b := b)
  simp only [bys, List.map_cons, List.mapM_cons, byteOf_u8] at this ⊢
  rw [this]
  rfl
theorem bys_append {a b : Str} : bys (a ++ b) = bys a ++ bys b := by simp [bys]
theorem bys_take {b : Str} {n : Nat} : (bys b).take n = bys (b.take n) := by simp [bys, List.map_take]
def Bs (H G : List Ob) (v : V) (b : Str) : Prop := ∃ T id, G = H ++ T ∧ H.length ≤ id ∧ G[id]? = some (.mk true 1 (bys b)) ∧ v = .slc (some (id, 0)) b.length
theorem Bs.init {H : List Ob} : Bs H (H ++ [.mk true 1 []]) (.slc (some (H.length, 0)) 0) [] := ⟨_, H.length, rfl, Nat.le_refl _, by simp [bys], rfl⟩
section
variable {H G : List Ob} {v : V} {b : Str}
theorem Bs.push (h : Bs H G v b) (hb : b.length ≤ 1000000000) {c : UInt8} {z : List V} {d : LD} (hz : z.length = 1) : ∃ v' G', appendV ⟨d, 1, 1, z⟩ (G ++ [.mk true 1 [.int .u8 c.toNat]]) v (.slc (some (G.length, 0)) 1) = some (v', G') ∧ Bs H G' v' (b ++ [c]) := by
 obtain ⟨T, id, rfl, h1, h2, rfl⟩ := h
 have hid : id < (H ++ T).length := (List.getElem?_eq_some_iff.1 h2).1
 have hid' : id < H.length + T.length := by simpa using hid
 have hg : (H ++ T ++ [Ob.mk true 1 [.int .u8 c.toNat]])[id]? = some (.mk true 1 (bys b)) := by rw [List.getElem?_append_left hid]; exact h2
 have hnew : newCells ⟨d, 1, 1, z⟩ (H ++ T ++ [Ob.mk true 1 [.int .u8 c.toNat]]) (.slc (some ((H ++ T).length, 0)) 1) = some ([.int .u8 c.toNat], 1) := by
  simp only [newCells, Nat.mul_one, slcCells, get_last]
  rfl
 refine ⟨.slc (some ((H ++ T ++ [Ob.mk true 1 [.int .u8 c.toNat]]).length, 0)) (b.length + 1), (H ++ T ++ [Ob.mk true 1 [.int .u8 c.toNat]]).set id .dead ++ [.mk true 1 (bys b ++ [.int .u8 c.toNat])], ?_, ?_⟩
 ·unfold appendV
  rw [if_pos (by simp [growOk, hz]), hnew]
  simp only [Nat.one_ne_zero, if_false, List.all_cons, List.all_nil, isOne_int, Bool.and_true, if_true, hg]
  have e1 : ¬ (0 + (b.length + 1) * 1 ≤ (bys b).length) := by rw [bys_len]; omega
  have e2 : (0 + b.length * 1 = (bys b).length ∨ b.length = 0 ∧ (bys b).length ≤ 0) ∧ (b.length + 1) * 1 ≤ maxMade := ⟨.inl (by rw [bys_len]; simp), by unfold maxMade; omega⟩
  rw [if_neg e1, if_pos e2, List.drop_zero]
 ·refine ⟨T.set (id - H.length) .dead ++ [.mk true 1 [.int .u8 c.toNat]] ++ [.mk true 1 (bys b ++ [.int .u8 c.toNat])], (H ++ T ++ [Ob.mk true 1 [.int .u8 c.toNat]]).length, ?_, by simp only [List.length_append]; omega, ?_, by simp⟩
  ·rw [List.append_assoc H T, List.set_append_right _ _ h1, List.set_append_left _ _ (by omega)]
   simp
  ·have hl : ((H ++ T ++ [Ob.mk true 1 [V.int .u8 c.toNat]]).set id .dead).length = (H ++ T ++ [Ob.mk true 1 [V.int .u8 c.toNat]]).length := List.length_set
   rw [← hl, get_last, bys_append]
   rfl
theorem Bs.last (h : Bs H G v b) {d : UInt8} (hd : b.getLast? = some d) : ∃ id, v = .slc (some (id, 0)) b.length ∧ ∀ T : LT, T.one → ∀ r c, loadAt T ⟨r, c, G⟩ (.hp id (b.length - 1)) = some (.int .u8 d.toNat) := by
 obtain ⟨T, id, rfl, h1, h2, rfl⟩ := h
 refine ⟨id, rfl, load1 h2 (bys_get ?_)⟩
 rw [List.getLast?_eq_getElem?] at hd
 exact hd
theorem Bs.cut (h : Bs H G v b) {n : Nat} (hn : n ≤ b.length) : ∃ id, v = .slc (some (id, 0)) b.length ∧ strideIs G id 1 = true ∧ slcCells G (some (id, 0)) n = some (bys (b.take n)) := by
 obtain ⟨T, id, rfl, h1, h2, rfl⟩ := h
 refine ⟨id, rfl, by simp [strideIs, h2], ?_⟩
 simp only [slcCells, h2]
 by_cases h0 : n = 0
 ·subst h0; rfl
 ·rw [if_neg h0]
  unfold rdCells
  rw [if_pos (by rw [bys_len]; omega), List.drop_zero, bys_take]
theorem Bs.ext (h : Bs H G v b) : ∃ T, G = H ++ T := by
 obtain ⟨T, id, h, _⟩ := h
 exact ⟨T, h⟩
theorem Bs.len (h : Bs H G v b) {e s n : Nat} {z : List V} : lenV ⟨.slice e, s, n, z⟩ v = some (.int .i64 b.length) := by
 obtain ⟨T, id, _, _, _, rfl⟩ := h
 rfl
end
end Go.Lite
end
