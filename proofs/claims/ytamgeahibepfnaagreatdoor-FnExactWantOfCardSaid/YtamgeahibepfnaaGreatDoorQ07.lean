/- Part 07 of the proof of a law: the interpreter, its soundness, and what functions of the program compute over it. Conditions: none but those that each theorem names. -/
import Derived.Test.YtamgeahibepfnaaGreatDoorQ06
import Derived.KernelRfl

set_option linter.all false
set_option maxRecDepth 20000
set_option maxHeartbeats 40000000
section
namespace Go.Proofs.Try1
open Go Go.Lite
noncomputable def C : Ctx := ctxOf Tryz.prog tabs
@[simp] theorem ty2 : C.ty 2 = ⟨.int .i64, 1, 8, [.int .i64 0]⟩ := by kernel_rfl
@[simp] theorem ty3 : C.ty 3 = ⟨.int .i64, 1, 8, [.int .i64 0]⟩ := by kernel_rfl
@[simp] theorem ty4 : C.ty 4 = ⟨.bool, 1, 1, [.bool false]⟩ := by kernel_rfl
@[simp] theorem ty5 : C.ty 5 = ⟨.int .u8, 1, 1, [.int .u8 0]⟩ := by kernel_rfl
@[simp] theorem ty9 : C.ty 9 = ⟨.str, 1, 16, [.str []]⟩ := by kernel_rfl
@[simp] theorem aTd : C.ty 21 = ⟨.int .i32, 1, 4, [.int .i32 0]⟩ := by kernel_rfl
@[simp] theorem aGB : C.ty 22 = ⟨.slice 99, 1, 24, [.slc none 0]⟩ := by kernel_rfl
@[simp] theorem aJy : C.ty 23 = ⟨.slice 139, 1, 24, [.slc none 0]⟩ := by kernel_rfl
@[simp] theorem aLQ : C.ty 24 = ⟨.slice 175, 1, 24, [.slc none 0]⟩ := by kernel_rfl
@[simp] theorem aTf : C.ty 26 = ⟨.struct [(0, 22), (1, 23), (2, 24), (3, 24), (4, 24), (5, 4)], 6, 128, [.slc none 0, .slc none 0, .slc none 0, .slc none 0, .slc none 0, .bool false]⟩ := by kernel_rfl
@[simp] theorem aJm : C.ty 27 = ⟨.slice 178, 1, 24, [.slc none 0]⟩ := by kernel_rfl
@[simp] theorem aTj : C.ty 29 = ⟨.struct [(0, 22), (1, 27)], 2, 48, [.slc none 0, .slc none 0]⟩ := by kernel_rfl
@[simp] theorem aTm : C.ty 30 = ⟨.slice 9, 1, 24, [.slc none 0]⟩ := by kernel_rfl
@[simp] theorem aKT : C.ty 35 = ⟨.slice 102, 1, 24, [.slc none 0]⟩ := by kernel_rfl
@[simp] theorem aIE : C.ty 36 = ⟨.slice 146, 1, 24, [.slc none 0]⟩ := by kernel_rfl
@[simp] theorem aNq : C.ty 37 = ⟨.slice 186, 1, 24, [.slc none 0]⟩ := by kernel_rfl
@[simp] theorem aTb : C.ty 39 = ⟨.struct [(0, 35), (1, 36), (2, 37), (3, 37), (4, 37), (5, 4)], 6, 128, [.slc none 0, .slc none 0, .slc none 0, .slc none 0, .slc none 0, .bool false]⟩ := by kernel_rfl
@[simp] theorem aGI : C.ty 41 = ⟨.slice 188, 1, 24, [.slc none 0]⟩ := by kernel_rfl
@[simp] theorem aTa : C.ty 43 = ⟨.struct [(0, 35), (1, 41)], 2, 48, [.slc none 0, .slc none 0]⟩ := by kernel_rfl
@[simp] theorem aTh : C.ty 51 = ⟨.struct [(0, 9), (1, 9), (2, 9), (3, 9), (4, 2)], 5, 72, [.str [], .str [], .str [], .str [], .int .i64 0]⟩ := by kernel_rfl
@[simp] theorem aCR : C.ty 99 = ⟨.struct [(0, 9), (1, 9)], 2, 32, [.str [], .str []]⟩ := by kernel_rfl
@[simp] theorem aCB : C.ty 102 = ⟨.struct [(0, 9), (1, 9)], 2, 32, [.str [], .str []]⟩ := by kernel_rfl
@[simp] theorem aSZ : C.ty 121 = ⟨.ptr, 1, 8, [.ptr none]⟩ := by kernel_rfl
@[simp] theorem ayi : C.ty 139 = ⟨.struct [(0, 2), (1, 9), (2, 9), (3, 2)], 4, 48, [.int .i64 0, .str [], .str [], .int .i64 0]⟩ := by kernel_rfl
@[simp] theorem aB7 : C.ty 146 = ⟨.struct [(0, 2), (1, 9), (2, 9), (3, 2)], 4, 48, [.int .i64 0, .str [], .str [], .int .i64 0]⟩ := by kernel_rfl
@[simp] theorem aS3 : C.ty 160 = ⟨.func, 1, 8, [.nilfn]⟩ := by kernel_rfl
@[simp] theorem ayf : C.ty 175 = ⟨.struct [(0, 2), (1, 9), (2, 2)], 3, 32, [.int .i64 0, .str [], .int .i64 0]⟩ := by kernel_rfl
@[simp] theorem axU : C.ty 178 = ⟨.struct [(0, 9), (1, 30)], 2, 40, [.str [], .slc none 0]⟩ := by kernel_rfl
@[simp] theorem aB3 : C.ty 186 = ⟨.struct [(0, 2), (1, 9), (2, 2)], 3, 32, [.int .i64 0, .str [], .int .i64 0]⟩ := by kernel_rfl
@[simp] theorem aCu : C.ty 188 = ⟨.struct [(0, 9), (1, 30)], 2, 40, [.str [], .slc none 0]⟩ := by kernel_rfl
@[simp] theorem aS0 : C.ty 242 = ⟨.slice 5, 1, 24, [.slc none 0]⟩ := by kernel_rfl
@[simp] theorem aSV : C.ty 277 = ⟨.slice 30, 1, 24, [.slc none 0]⟩ := by kernel_rfl
@[simp] theorem aSY : C.ty 284 = ⟨.ptr, 1, 8, [.ptr none]⟩ := by kernel_rfl
@[simp] theorem aSU : C.ty 286 = ⟨.struct [(0, 37), (1, 43), (3, 3), (4, 4)], 5, 88, [.slc none 0, .slc none 0, .slc none 0, .int .i64 0, .bool false]⟩ := by kernel_rfl
@[simp] theorem aS2 : C.ty 309 = ⟨.array 256 4, 256, 256, List.replicate 256 (.bool false)⟩ := by kernel_rfl
@[simp] theorem aSX : C.ty 313 = ⟨.ptr, 1, 8, [.ptr none]⟩ := by kernel_rfl
@[simp] theorem aS6 : C.ty 348 = ⟨.int .u64, 1, 8, [.int .u64 0]⟩ := by kernel_rfl
@[simp] theorem aS4 : C.ty 362 = ⟨.func, 1, 8, [.nilfn]⟩ := by kernel_rfl
@[simp] theorem aST : C.ty 381 = ⟨.array 256 5, 256, 256, List.replicate 256 (.int .u8 0)⟩ := by kernel_rfl
@[simp] theorem aS5 : C.ty 383 = ⟨.struct [(0, 5), (1, 5)], 2, 2, [.int .u8 0, .int .u8 0]⟩ := by kernel_rfl
@[simp] theorem aS1 : C.ty 384 = ⟨.array 16 383, 32, 32, List.replicate 32 (.int .u8 0)⟩ := by kernel_rfl
noncomputable def azP : Code := match Tryz.f4.body with | some c => c | none => .skip
theorem fi4 : C.fids 4 = true := by kernel_rfl
theorem bo4 : Tryz.f4.body = some azP := rfl
theorem pr4 : C.prim 4 = none := rfl
theorem fu4 : C.funcs 4 = some Tryz.f4 := Tryz.func4
theorem op4 {a : List V} {H : List Ob} {R : V → List Ob → Prop} : Ret C 4 a H R ↔ WP C 4 azP ⟨apD a, 0, H⟩ (apS C Tryz.f4 H R) := apI pr4 fi4 fu4 bo4
@[simp] theorem aS7 : C.locs 4 = [2, 3, 6, 7, 8, 9] := by kernel_rfl
noncomputable def av9 : Code := match Tryz.f9.body with | some c => c | none => .skip
theorem fi9 : C.fids 9 = true := by kernel_rfl
theorem bo9 : Tryz.f9.body = some av9 := rfl
theorem pr9 : C.prim 9 = none := rfl
theorem fu9 : C.funcs 9 = some Tryz.f9 := Tryz.func9
theorem op9 {a : List V} {H : List Ob} {R : V → List Ob → Prop} : Ret C 9 a H R ↔ WP C 9 av9 ⟨apD a, 0, H⟩ (apS C Tryz.f9 H R) := apI pr9 fi9 fu9 bo9
@[simp] theorem aSW : C.locs 9 = [2] := by kernel_rfl
noncomputable def axD : Code := match Tryz.f10.body with | some c => c | none => .skip
theorem aPv : C.fids 10 = true := by kernel_rfl
theorem aPL : Tryz.f10.body = some axD := rfl
theorem aR4 : C.prim 10 = none := rfl
theorem aPW : C.funcs 10 = some Tryz.f10 := Tryz.func10
theorem aGl {a : List V} {H : List Ob} {R : V → List Ob → Prop} : Ret C 10 a H R ↔ WP C 10 axD ⟨apD a, 0, H⟩ (apS C Tryz.f10 H R) := apI aR4 aPv aPW aPL
@[simp] theorem aQx : C.locs 10 = [2] := by kernel_rfl
noncomputable def ayU : Code := match Tryz.f11.body with | some c => c | none => .skip
theorem aPI : C.fids 11 = true := by kernel_rfl
theorem aPO : Tryz.f11.body = some ayU := rfl
theorem aSo : C.prim 11 = none := rfl
theorem aRh : C.funcs 11 = some Tryz.f11 := Tryz.func11
theorem aRn {a : List V} {H : List Ob} {R : V → List Ob → Prop} : Ret C 11 a H R ↔ WP C 11 ayU ⟨apD a, 0, H⟩ (apS C Tryz.f11 H R) := apI aSo aPI aRh aPO
@[simp] theorem aPP : C.locs 11 = [] := by kernel_rfl
noncomputable def aBB : Code := match Tryz.f13.body with | some c => c | none => .skip
theorem aR6 : C.fids 13 = true := by kernel_rfl
theorem aSG : Tryz.f13.body = some aBB := rfl
theorem aPk : C.prim 13 = none := rfl
theorem aSr : C.funcs 13 = some Tryz.f13 := Tryz.func13
theorem aRF {a : List V} {H : List Ob} {R : V → List Ob → Prop} : Ret C 13 a H R ↔ WP C 13 aBB ⟨apD a, 0, H⟩ (apS C Tryz.f13 H R) := apI aPk aR6 aSr aSG
@[simp] theorem aSy : C.locs 13 = [1, 2, 3] := by kernel_rfl
noncomputable def aAX : Code := match Tryz.f14.body with | some c => c | none => .skip
theorem aRj : C.fids 14 = true := by kernel_rfl
theorem aRs : Tryz.f14.body = some aAX := rfl
theorem aQk : C.prim 14 = none := rfl
theorem aQV : C.funcs 14 = some Tryz.f14 := Tryz.func14
theorem aSi {a : List V} {H : List Ob} {R : V → List Ob → Prop} : Ret C 14 a H R ↔ WP C 14 aAX ⟨apD a, 0, H⟩ (apS C Tryz.f14 H R) := apI aQk aRj aQV aRs
@[simp] theorem aQl : C.locs 14 = [1, 2, 3] := by kernel_rfl
noncomputable def aBM : Code := match Tryz.f15.body with | some c => c | none => .skip
theorem aRf : C.fids 15 = true := by kernel_rfl
theorem aPz : Tryz.f15.body = some aBM := rfl
theorem aQz : C.prim 15 = none := rfl
theorem aRd : C.funcs 15 = some Tryz.f15 := Tryz.func15
theorem aPp {a : List V} {H : List Ob} {R : V → List Ob → Prop} : Ret C 15 a H R ↔ WP C 15 aBM ⟨apD a, 0, H⟩ (apS C Tryz.f15 H R) := apI aQz aRf aRd aPz
@[simp] theorem aQn : C.locs 15 = [] := by kernel_rfl
noncomputable def atP : Code := match Tryz.f17.body with | some c => c | none => .skip
theorem aPM : C.fids 17 = true := by kernel_rfl
theorem aPB : Tryz.f17.body = some atP := rfl
theorem aPd : C.prim 17 = none := rfl
theorem aPR : C.funcs 17 = some Tryz.f17 := Tryz.func17
theorem aBK {a : List V} {H : List Ob} {R : V → List Ob → Prop} : Ret C 17 a H R ↔ WP C 17 atP ⟨apD a, 0, H⟩ (apS C Tryz.f17 H R) := apI aPd aPM aPR aPB
@[simp] theorem aQh : C.locs 17 = [2, 3] := by kernel_rfl
noncomputable def awR : Code := match Tryz.f18.body with | some c => c | none => .skip
theorem aP2 : C.fids 18 = true := by kernel_rfl
theorem aSK : Tryz.f18.body = some awR := rfl
theorem aQU : C.prim 18 = none := rfl
theorem aQF : C.funcs 18 = some Tryz.f18 := Tryz.func18
theorem aGb {a : List V} {H : List Ob} {R : V → List Ob → Prop} : Ret C 18 a H R ↔ WP C 18 awR ⟨apD a, 0, H⟩ (apS C Tryz.f18 H R) := apI aQU aP2 aQF aSK
@[simp] theorem aRP : C.locs 18 = [2, 3] := by kernel_rfl
noncomputable def azw : Code := match Tryz.f19.body with | some c => c | none => .skip
theorem aQ0 : C.fids 19 = true := by kernel_rfl
theorem aP0 : Tryz.f19.body = some azw := rfl
theorem aPY : C.prim 19 = none := rfl
theorem aQr : C.funcs 19 = some Tryz.f19 := Tryz.func19
theorem aPS {a : List V} {H : List Ob} {R : V → List Ob → Prop} : Ret C 19 a H R ↔ WP C 19 azw ⟨apD a, 0, H⟩ (apS C Tryz.f19 H R) := apI aPY aQ0 aQr aP0
@[simp] theorem aSl : C.locs 19 = [] := by kernel_rfl
noncomputable def awS : Code := match Tryz.f20.body with | some c => c | none => .skip
theorem aRE : C.fids 20 = true := by kernel_rfl
theorem aQ9 : Tryz.f20.body = some awS := rfl
theorem aRu : C.prim 20 = none := rfl
theorem aQ5 : C.funcs 20 = some Tryz.f20 := Tryz.func20
theorem aP7 {a : List V} {H : List Ob} {R : V → List Ob → Prop} : Ret C 20 a H R ↔ WP C 20 awS ⟨apD a, 0, H⟩ (apS C Tryz.f20 H R) := apI aRu aRE aQ5 aQ9
@[simp] theorem aQM : C.locs 20 = [2, 3, 4] := by kernel_rfl
noncomputable def awV : Code := match Tryz.f21.body with | some c => c | none => .skip
theorem aP9 : C.fids 21 = true := by kernel_rfl
theorem aPl : Tryz.f21.body = some awV := rfl
theorem aSB : C.prim 21 = none := rfl
theorem aQJ : C.funcs 21 = some Tryz.f21 := Tryz.func21
theorem aRQ {a : List V} {H : List Ob} {R : V → List Ob → Prop} : Ret C 21 a H R ↔ WP C 21 awV ⟨apD a, 0, H⟩ (apS C Tryz.f21 H R) := apI aSB aP9 aQJ aPl
@[simp] theorem aQO : C.locs 21 = [2, 4] := by kernel_rfl
noncomputable def aBP : Code := match Tryz.f22.body with | some c => c | none => .skip
theorem aSz : C.fids 22 = true := by kernel_rfl
theorem aP3 : Tryz.f22.body = some aBP := rfl
theorem aPn : C.prim 22 = none := rfl
theorem aPo : C.funcs 22 = some Tryz.f22 := Tryz.func22
theorem aSj {a : List V} {H : List Ob} {R : V → List Ob → Prop} : Ret C 22 a H R ↔ WP C 22 aBP ⟨apD a, 0, H⟩ (apS C Tryz.f22 H R) := apI aPn aSz aPo aP3
@[simp] theorem aSS : C.locs 22 = [2, 3] := by kernel_rfl
noncomputable def avP : Code := match Tryz.f29.body with | some c => c | none => .skip
theorem aSD : C.fids 29 = true := by kernel_rfl
theorem aRI : Tryz.f29.body = some avP := rfl
theorem aQE : C.prim 29 = none := rfl
theorem aQc : C.funcs 29 = some Tryz.f29 := Tryz.func29
theorem aPU {a : List V} {H : List Ob} {R : V → List Ob → Prop} : Ret C 29 a H R ↔ WP C 29 avP ⟨apD a, 0, H⟩ (apS C Tryz.f29 H R) := apI aQE aSD aQc aRI
@[simp] theorem aRL : C.locs 29 = [] := by kernel_rfl
noncomputable def aBV : Code := match Tryz.f30.body with | some c => c | none => .skip
theorem aSq : C.fids 30 = true := by kernel_rfl
theorem aSM : Tryz.f30.body = some aBV := rfl
theorem aRK : C.prim 30 = none := rfl
theorem aRY : C.funcs 30 = some Tryz.f30 := Tryz.func30
theorem aSF {a : List V} {H : List Ob} {R : V → List Ob → Prop} : Ret C 30 a H R ↔ WP C 30 aBV ⟨apD a, 0, H⟩ (apS C Tryz.f30 H R) := apI aRK aSq aRY aSM
@[simp] theorem aR8 : C.locs 30 = [] := by kernel_rfl
noncomputable def axg : Code := match Tryz.f33.body with | some c => c | none => .skip
theorem aQq : C.fids 33 = true := by kernel_rfl
theorem aQ4 : Tryz.f33.body = some axg := rfl
theorem aQd : C.prim 33 = none := rfl
theorem aSO : C.funcs 33 = some Tryz.f33 := Tryz.func33
theorem aQI {a : List V} {H : List Ob} {R : V → List Ob → Prop} : Ret C 33 a H R ↔ WP C 33 axg ⟨apD a, 0, H⟩ (apS C Tryz.f33 H R) := apI aQd aQq aSO aQ4
@[simp] theorem aPx : C.locs 33 = [] := by kernel_rfl
noncomputable def aA1 : Code := match Tryz.f34.body with | some c => c | none => .skip
theorem aRk : C.fids 34 = true := by kernel_rfl
theorem aQS : Tryz.f34.body = some aA1 := rfl
theorem aR7 : C.prim 34 = none := rfl
theorem aR9 : C.funcs 34 = some Tryz.f34 := Tryz.func34
theorem aPy {a : List V} {H : List Ob} {R : V → List Ob → Prop} : Ret C 34 a H R ↔ WP C 34 aA1 ⟨apD a, 0, H⟩ (apS C Tryz.f34 H R) := apI aR7 aRk aR9 aQS
@[simp] theorem aQP : C.locs 34 = [] := by kernel_rfl
noncomputable def av2 : Code := match Tryz.f38.body with | some c => c | none => .skip
theorem aRi : C.fids 38 = true := by kernel_rfl
theorem aSE : Tryz.f38.body = some av2 := rfl
theorem aRm : C.prim 38 = none := rfl
theorem aPh : C.funcs 38 = some Tryz.f38 := Tryz.func38
theorem aQY {a : List V} {H : List Ob} {R : V → List Ob → Prop} : Ret C 38 a H R ↔ WP C 38 av2 ⟨apD a, 0, H⟩ (apS C Tryz.f38 H R) := apI aRm aRi aPh aSE
@[simp] theorem aRa : C.locs 38 = [] := by kernel_rfl
noncomputable def aAW : Code := match Tryz.f39.body with | some c => c | none => .skip
theorem aP4 : C.fids 39 = true := by kernel_rfl
theorem aPQ : Tryz.f39.body = some aAW := rfl
theorem aSQ : C.prim 39 = none := rfl
theorem aQ3 : C.funcs 39 = some Tryz.f39 := Tryz.func39
theorem aRS {a : List V} {H : List Ob} {R : V → List Ob → Prop} : Ret C 39 a H R ↔ WP C 39 aAW ⟨apD a, 0, H⟩ (apS C Tryz.f39 H R) := apI aSQ aP4 aQ3 aPQ
@[simp] theorem aSn : C.locs 39 = [] := by kernel_rfl
noncomputable def axw : Code := match Tryz.f45.body with | some c => c | none => .skip
theorem aR0 : C.fids 45 = true := by kernel_rfl
theorem aPC : Tryz.f45.body = some axw := rfl
theorem aRy : C.prim 45 = none := rfl
theorem aRR : C.funcs 45 = some Tryz.f45 := Tryz.func45
theorem aFU {a : List V} {H : List Ob} {R : V → List Ob → Prop} : Ret C 45 a H R ↔ WP C 45 axw ⟨apD a, 0, H⟩ (apS C Tryz.f45 H R) := apI aRy aR0 aRR aPC
@[simp] theorem aRq : C.locs 45 = [2] := by kernel_rfl
noncomputable def aAG : Code := match Tryz.f47.body with | some c => c | none => .skip
theorem aPq : C.fids 47 = true := by kernel_rfl
theorem aQm : Tryz.f47.body = some aAG := rfl
theorem aPu : C.prim 47 = none := rfl
theorem aSR : C.funcs 47 = some Tryz.f47 := Tryz.func47
theorem aSp {a : List V} {H : List Ob} {R : V → List Ob → Prop} : Ret C 47 a H R ↔ WP C 47 aAG ⟨apD a, 0, H⟩ (apS C Tryz.f47 H R) := apI aPu aPq aSR aQm
@[simp] theorem aRD : C.locs 47 = [1, 2, 3] := by kernel_rfl
noncomputable def aBR : Code := match Tryz.f55.body with | some c => c | none => .skip
theorem aSv : C.fids 55 = true := by kernel_rfl
theorem aQo : Tryz.f55.body = some aBR := rfl
theorem aRW : C.prim 55 = none := rfl
theorem aPr : C.funcs 55 = some Tryz.f55 := Tryz.func55
theorem aR2 {a : List V} {H : List Ob} {R : V → List Ob → Prop} : Ret C 55 a H R ↔ WP C 55 aBR ⟨apD a, 0, H⟩ (apS C Tryz.f55 H R) := apI aRW aSv aPr aQo
@[simp] theorem aPw : C.locs 55 = [] := by kernel_rfl
noncomputable def aBE : Code := match Tryz.f56.body with | some c => c | none => .skip
theorem aRr : C.fids 56 = true := by kernel_rfl
theorem aRO : Tryz.f56.body = some aBE := rfl
theorem aRN : C.prim 56 = none := rfl
theorem aRG : C.funcs 56 = some Tryz.f56 := Tryz.func56
theorem aSa {a : List V} {H : List Ob} {R : V → List Ob → Prop} : Ret C 56 a H R ↔ WP C 56 aBE ⟨apD a, 0, H⟩ (apS C Tryz.f56 H R) := apI aRN aRr aRG aRO
@[simp] theorem aSx : C.locs 56 = [] := by kernel_rfl
noncomputable def asr : Code := match Tryz.f57.body with | some c => c | none => .skip
theorem aRg : C.fids 57 = true := by kernel_rfl
theorem aPm : Tryz.f57.body = some asr := rfl
theorem aRX : C.prim 57 = none := rfl
theorem aQ1 : C.funcs 57 = some Tryz.f57 := Tryz.func57
theorem aP8 {a : List V} {H : List Ob} {R : V → List Ob → Prop} : Ret C 57 a H R ↔ WP C 57 asr ⟨apD a, 0, H⟩ (apS C Tryz.f57 H R) := apI aRX aRg aQ1 aPm
@[simp] theorem aRU : C.locs 57 = [1] := by kernel_rfl
noncomputable def avK : Code := match Tryz.f58.body with | some c => c | none => .skip
theorem aRM : C.fids 58 = true := by kernel_rfl
theorem aSH : Tryz.f58.body = some avK := rfl
theorem aQC : C.prim 58 = none := rfl
theorem aRb : C.funcs 58 = some Tryz.f58 := Tryz.func58
theorem aQW {a : List V} {H : List Ob} {R : V → List Ob → Prop} : Ret C 58 a H R ↔ WP C 58 avK ⟨apD a, 0, H⟩ (apS C Tryz.f58 H R) := apI aQC aRM aRb aSH
@[simp] theorem aQZ : C.locs 58 = [1] := by kernel_rfl
noncomputable def aBU : Code := match Tryz.f61.body with | some c => c | none => .skip
theorem aQs : C.fids 61 = true := by kernel_rfl
theorem aRB : Tryz.f61.body = some aBU := rfl
theorem aQ7 : C.prim 61 = none := rfl
theorem aPK : C.funcs 61 = some Tryz.f61 := Tryz.func61
theorem aSA {a : List V} {H : List Ob} {R : V → List Ob → Prop} : Ret C 61 a H R ↔ WP C 61 aBU ⟨apD a, 0, H⟩ (apS C Tryz.f61 H R) := apI aQ7 aQs aPK aRB
@[simp] theorem aQ6 : C.locs 61 = [] := by kernel_rfl
noncomputable def aBI : Code := match Tryz.f62.body with | some c => c | none => .skip
theorem aSu : C.fids 62 = true := by kernel_rfl
theorem aSN : Tryz.f62.body = some aBI := rfl
theorem aSL : C.prim 62 = none := rfl
theorem aQN : C.funcs 62 = some Tryz.f62 := Tryz.func62
theorem aQt {a : List V} {H : List Ob} {R : V → List Ob → Prop} : Ret C 62 a H R ↔ WP C 62 aBI ⟨apD a, 0, H⟩ (apS C Tryz.f62 H R) := apI aSL aSu aQN aSN
@[simp] theorem aSw : C.locs 62 = [] := by kernel_rfl
noncomputable def ati : Code := match Tryz.f64.body with | some c => c | none => .skip
theorem aP1 : C.fids 64 = true := by kernel_rfl
theorem aRe : Tryz.f64.body = some ati := rfl
theorem aSm : C.prim 64 = none := rfl
theorem aQL : C.funcs 64 = some Tryz.f64 := Tryz.func64
theorem aQj {a : List V} {H : List Ob} {R : V → List Ob → Prop} : Ret C 64 a H R ↔ WP C 64 ati ⟨apD a, 0, H⟩ (apS C Tryz.f64 H R) := apI aSm aP1 aQL aRe
@[simp] theorem aPi : C.locs 64 = [1] := by kernel_rfl
noncomputable def avM : Code := match Tryz.f65.body with | some c => c | none => .skip
theorem aPc : C.fids 65 = true := by kernel_rfl
theorem aPf : Tryz.f65.body = some avM := rfl
theorem aQR : C.prim 65 = none := rfl
theorem aRZ : C.funcs 65 = some Tryz.f65 := Tryz.func65
theorem aSP {a : List V} {H : List Ob} {R : V → List Ob → Prop} : Ret C 65 a H R ↔ WP C 65 avM ⟨apD a, 0, H⟩ (apS C Tryz.f65 H R) := apI aQR aPc aRZ aPf
@[simp] theorem aRx : C.locs 65 = [1, 4] := by kernel_rfl
noncomputable def aBW : Code := match Tryz.f68.body with | some c => c | none => .skip
theorem aQe : C.fids 68 = true := by kernel_rfl
theorem aSb : Tryz.f68.body = some aBW := rfl
theorem aPe : C.prim 68 = none := rfl
theorem aRC : C.funcs 68 = some Tryz.f68 := Tryz.func68
theorem aPV {a : List V} {H : List Ob} {R : V → List Ob → Prop} : Ret C 68 a H R ↔ WP C 68 aBW ⟨apD a, 0, H⟩ (apS C Tryz.f68 H R) := apI aPe aQe aRC aSb
@[simp] theorem aRo : C.locs 68 = [] := by kernel_rfl
noncomputable def aAJ : Code := match Tryz.f69.body with | some c => c | none => .skip
theorem aRH : C.fids 69 = true := by kernel_rfl
theorem aPH : Tryz.f69.body = some aAJ := rfl
theorem aSJ : C.prim 69 = none := rfl
theorem aP6 : C.funcs 69 = some Tryz.f69 := Tryz.func69
theorem aSh {a : List V} {H : List Ob} {R : V → List Ob → Prop} : Ret C 69 a H R ↔ WP C 69 aAJ ⟨apD a, 0, H⟩ (apS C Tryz.f69 H R) := apI aSJ aRH aP6 aPH
@[simp] theorem aPA : C.locs 69 = [] := by kernel_rfl
noncomputable def atG : Code := match Tryz.f70.body with | some c => c | none => .skip
theorem aQT : C.fids 70 = true := by kernel_rfl
theorem aSd : Tryz.f70.body = some atG := rfl
theorem aQv : C.prim 70 = none := rfl
theorem aRA : C.funcs 70 = some Tryz.f70 := Tryz.func70
theorem aQK {a : List V} {H : List Ob} {R : V → List Ob → Prop} : Ret C 70 a H R ↔ WP C 70 atG ⟨apD a, 0, H⟩ (apS C Tryz.f70 H R) := apI aQv aQT aRA aSd
@[simp] theorem aPG : C.locs 70 = [2, 3, 4, 5] := by kernel_rfl
noncomputable def atL : Code := match Tryz.f71.body with | some c => c | none => .skip
theorem aRv : C.fids 71 = true := by kernel_rfl
theorem aQ8 : Tryz.f71.body = some atL := rfl
theorem aQi : C.prim 71 = none := rfl
theorem aQy : C.funcs 71 = some Tryz.f71 := Tryz.func71
theorem aQB {a : List V} {H : List Ob} {R : V → List Ob → Prop} : Ret C 71 a H R ↔ WP C 71 atL ⟨apD a, 0, H⟩ (apS C Tryz.f71 H R) := apI aQi aRv aQy aQ8
@[simp] theorem aPs : C.locs 71 = [2, 4] := by kernel_rfl
noncomputable def awZ : Code := match Tryz.f77.body with | some c => c | none => .skip
theorem aSk : C.fids 77 = true := by kernel_rfl
theorem aP5 : Tryz.f77.body = some awZ := rfl
theorem aRl : C.prim 77 = none := rfl
theorem aRT : C.funcs 77 = some Tryz.f77 := Tryz.func77
theorem aQG {a : List V} {H : List Ob} {R : V → List Ob → Prop} : Ret C 77 a H R ↔ WP C 77 awZ ⟨apD a, 0, H⟩ (apS C Tryz.f77 H R) := apI aRl aSk aRT aP5
@[simp] theorem aRc : C.locs 77 = [] := by kernel_rfl
noncomputable def auc : Code := match Tryz.f83.body with | some c => c | none => .skip
theorem aQb : C.fids 83 = true := by kernel_rfl
theorem aRJ : Tryz.f83.body = some auc := rfl
theorem aQw : C.prim 83 = none := rfl
theorem aPD : C.funcs 83 = some Tryz.f83 := Tryz.func83
theorem aRz {a : List V} {H : List Ob} {R : V → List Ob → Prop} : Ret C 83 a H R ↔ WP C 83 auc ⟨apD a, 0, H⟩ (apS C Tryz.f83 H R) := apI aQw aQb aPD aRJ
@[simp] theorem aSg : C.locs 83 = [] := by kernel_rfl
noncomputable def axl : Code := match Tryz.f88.body with | some c => c | none => .skip
theorem aQf : C.fids 88 = true := by kernel_rfl
theorem aR1 : Tryz.f88.body = some axl := rfl
theorem aRw : C.prim 88 = none := rfl
theorem aQg : C.funcs 88 = some Tryz.f88 := Tryz.func88
theorem aGi {a : List V} {H : List Ob} {R : V → List Ob → Prop} : Ret C 88 a H R ↔ WP C 88 axl ⟨apD a, 0, H⟩ (apS C Tryz.f88 H R) := apI aRw aQf aQg aR1
@[simp] theorem aSs : C.locs 88 = [2] := by kernel_rfl
noncomputable def aBd : Code := match Tryz.f90.body with | some c => c | none => .skip
theorem aQQ : C.fids 90 = true := by kernel_rfl
theorem aPE : Tryz.f90.body = some aBd := rfl
theorem aSt : C.prim 90 = none := rfl
theorem aPg : C.funcs 90 = some Tryz.f90 := Tryz.func90
theorem aPZ {a : List V} {H : List Ob} {R : V → List Ob → Prop} : Ret C 90 a H R ↔ WP C 90 aBd ⟨apD a, 0, H⟩ (apS C Tryz.f90 H R) := apI aSt aQQ aPg aPE
@[simp] theorem aPt : C.locs 90 = [] := by kernel_rfl
noncomputable def av1 : Code := match Tryz.f91.body with | some c => c | none => .skip
theorem aSC : C.fids 91 = true := by kernel_rfl
theorem aR3 : Tryz.f91.body = some av1 := rfl
theorem aPF : C.prim 91 = none := rfl
theorem aSI : C.funcs 91 = some Tryz.f91 := Tryz.func91
theorem aPT {a : List V} {H : List Ob} {R : V → List Ob → Prop} : Ret C 91 a H R ↔ WP C 91 av1 ⟨apD a, 0, H⟩ (apS C Tryz.f91 H R) := apI aPF aSC aSI aR3
@[simp] theorem aQA : C.locs 91 = [] := by kernel_rfl
noncomputable def axA : Code := match Tryz.f92.body with | some c => c | none => .skip
theorem aR5 : C.fids 92 = true := by kernel_rfl
theorem aQu : Tryz.f92.body = some axA := rfl
theorem aQH : C.prim 92 = none := rfl
theorem aQD : C.funcs 92 = some Tryz.f92 := Tryz.func92
theorem aSe {a : List V} {H : List Ob} {R : V → List Ob → Prop} : Ret C 92 a H R ↔ WP C 92 axA ⟨apD a, 0, H⟩ (apS C Tryz.f92 H R) := apI aQH aR5 aQD aQu
@[simp] theorem aSf : C.locs 92 = [] := by kernel_rfl
noncomputable def aAP : Code := match Tryz.f96.body with | some c => c | none => .skip
theorem aRV : C.fids 96 = true := by kernel_rfl
theorem aQ2 : Tryz.f96.body = some aAP := rfl
theorem aPj : C.prim 96 = none := rfl
theorem aSc : C.funcs 96 = some Tryz.f96 := Tryz.func96
theorem aRp {a : List V} {H : List Ob} {R : V → List Ob → Prop} : Ret C 96 a H R ↔ WP C 96 aAP ⟨apD a, 0, H⟩ (apS C Tryz.f96 H R) := apI aPj aRV aSc aQ2
@[simp] theorem aPN : C.locs 96 = [1, 2, 3] := by kernel_rfl
noncomputable def atx : Code := match Tryz.f100.body with | some c => c | none => .skip
theorem aL3 : C.fids 100 = true := by kernel_rfl
theorem aKn : Tryz.f100.body = some atx := rfl
theorem aLB : C.prim 100 = none := rfl
theorem aLm : C.funcs 100 = some Tryz.f100 := Tryz.func100
theorem aNo {a : List V} {H : List Ob} {R : V → List Ob → Prop} : Ret C 100 a H R ↔ WP C 100 atx ⟨apD a, 0, H⟩ (apS C Tryz.f100 H R) := apI aLB aL3 aLm aKn
@[simp] theorem aNK : C.locs 100 = [] := by kernel_rfl
noncomputable def avo : Code := match Tryz.f105.body with | some c => c | none => .skip
theorem aIt : C.fids 105 = true := by kernel_rfl
theorem aIV : Tryz.f105.body = some avo := rfl
theorem aL4 : C.prim 105 = none := rfl
theorem aKg : C.funcs 105 = some Tryz.f105 := Tryz.func105
theorem aDJ {a : List V} {H : List Ob} {R : V → List Ob → Prop} : Ret C 105 a H R ↔ WP C 105 avo ⟨apD a, 0, H⟩ (apS C Tryz.f105 H R) := apI aL4 aIt aKg aIV
@[simp] theorem aNR : C.locs 105 = [2, 3] := by kernel_rfl
noncomputable def atH : Code := match Tryz.f106.body with | some c => c | none => .skip
theorem aLS : C.fids 106 = true := by kernel_rfl
theorem aH1 : Tryz.f106.body = some atH := rfl
theorem aLo : C.prim 106 = none := rfl
theorem aGD : C.funcs 106 = some Tryz.f106 := Tryz.func106
theorem azY {a : List V} {H : List Ob} {R : V → List Ob → Prop} : Ret C 106 a H R ↔ WP C 106 atH ⟨apD a, 0, H⟩ (apS C Tryz.f106 H R) := apI aLo aLS aGD aH1
@[simp] theorem aOQ : C.locs 106 = [2, 3] := by kernel_rfl
noncomputable def avy : Code := match Tryz.f114.body with | some c => c | none => .skip
theorem aGx : C.fids 114 = true := by kernel_rfl
theorem aGM : Tryz.f114.body = some avy := rfl
theorem aKi : C.prim 114 = none := rfl
theorem aHh : C.funcs 114 = some Tryz.f114 := Tryz.func114
theorem aHo {a : List V} {H : List Ob} {R : V → List Ob → Prop} : Ret C 114 a H R ↔ WP C 114 avy ⟨apD a, 0, H⟩ (apS C Tryz.f114 H R) := apI aKi aGx aHh aGM
@[simp] theorem aOn : C.locs 114 = [1] := by kernel_rfl
noncomputable def awJ : Code := match Tryz.f129.body with | some c => c | none => .skip
theorem aJ4 : C.fids 129 = true := by kernel_rfl
theorem aHZ : Tryz.f129.body = some awJ := rfl
theorem aHc : C.prim 129 = none := rfl
theorem aGs : C.funcs 129 = some Tryz.f129 := Tryz.func129
theorem aFS {a : List V} {H : List Ob} {R : V → List Ob → Prop} : Ret C 129 a H R ↔ WP C 129 awJ ⟨apD a, 0, H⟩ (apS C Tryz.f129 H R) := apI aHc aJ4 aGs aHZ
@[simp] theorem aO3 : C.locs 129 = [2] := by kernel_rfl
noncomputable def avi : Code := match Tryz.f130.body with | some c => c | none => .skip
theorem aHg : C.fids 130 = true := by kernel_rfl
theorem aKX : Tryz.f130.body = some avi := rfl
theorem aM0 : C.prim 130 = none := rfl
theorem aIB : C.funcs 130 = some Tryz.f130 := Tryz.func130
theorem aDN {a : List V} {H : List Ob} {R : V → List Ob → Prop} : Ret C 130 a H R ↔ WP C 130 avi ⟨apD a, 0, H⟩ (apS C Tryz.f130 H R) := apI aM0 aHg aIB aKX
@[simp] theorem aOY : C.locs 130 = [2] := by kernel_rfl
noncomputable def aus : Code := match Tryz.f131.body with | some c => c | none => .skip
theorem aJD : C.fids 131 = true := by kernel_rfl
theorem aJP : Tryz.f131.body = some aus := rfl
theorem aLn : C.prim 131 = none := rfl
theorem aL5 : C.funcs 131 = some Tryz.f131 := Tryz.func131
theorem aKe {a : List V} {H : List Ob} {R : V → List Ob → Prop} : Ret C 131 a H R ↔ WP C 131 aus ⟨apD a, 0, H⟩ (apS C Tryz.f131 H R) := apI aLn aJD aL5 aJP
@[simp] theorem aOR : C.locs 131 = [] := by kernel_rfl
noncomputable def azp : Code := match Tryz.f132.body with | some c => c | none => .skip
theorem aIe : C.fids 132 = true := by kernel_rfl
theorem aIp : Tryz.f132.body = some azp := rfl
theorem aI7 : C.prim 132 = none := rfl
theorem aNa : C.funcs 132 = some Tryz.f132 := Tryz.func132
theorem aMp {a : List V} {H : List Ob} {R : V → List Ob → Prop} : Ret C 132 a H R ↔ WP C 132 azp ⟨apD a, 0, H⟩ (apS C Tryz.f132 H R) := apI aI7 aIe aNa aIp
@[simp] theorem aO0 : C.locs 132 = [] := by kernel_rfl
noncomputable def ayw : Code := match Tryz.f133.body with | some c => c | none => .skip
theorem aJ3 : C.fids 133 = true := by kernel_rfl
theorem aNv : Tryz.f133.body = some ayw := rfl
theorem aK1 : C.prim 133 = none := rfl
theorem aIP : C.funcs 133 = some Tryz.f133 := Tryz.func133
theorem aIC {a : List V} {H : List Ob} {R : V → List Ob → Prop} : Ret C 133 a H R ↔ WP C 133 ayw ⟨apD a, 0, H⟩ (apS C Tryz.f133 H R) := apI aK1 aJ3 aIP aNv
@[simp] theorem aN1 : C.locs 133 = [] := by kernel_rfl
noncomputable def ayo : Code := match Tryz.f134.body with | some c => c | none => .skip
theorem aNj : C.fids 134 = true := by kernel_rfl
theorem aGX : Tryz.f134.body = some ayo := rfl
theorem aJN : C.prim 134 = none := rfl
theorem aJH : C.funcs 134 = some Tryz.f134 := Tryz.func134
theorem aMH {a : List V} {H : List Ob} {R : V → List Ob → Prop} : Ret C 134 a H R ↔ WP C 134 ayo ⟨apD a, 0, H⟩ (apS C Tryz.f134 H R) := apI aJN aNj aJH aGX
@[simp] theorem aO7 : C.locs 134 = [] := by kernel_rfl
noncomputable def ayP : Code := match Tryz.f135.body with | some c => c | none => .skip
theorem aHN : C.fids 135 = true := by kernel_rfl
theorem aKr : Tryz.f135.body = some ayP := rfl
theorem aMu : C.prim 135 = none := rfl
theorem aJV : C.funcs 135 = some Tryz.f135 := Tryz.func135
theorem aNk {a : List V} {H : List Ob} {R : V → List Ob → Prop} : Ret C 135 a H R ↔ WP C 135 ayP ⟨apD a, 0, H⟩ (apS C Tryz.f135 H R) := apI aMu aHN aJV aKr
@[simp] theorem aOZ : C.locs 135 = [] := by kernel_rfl
noncomputable def aze : Code := match Tryz.f138.body with | some c => c | none => .skip
theorem aM5 : C.fids 138 = true := by kernel_rfl
theorem aIJ : Tryz.f138.body = some aze := rfl
theorem aNc : C.prim 138 = none := rfl
theorem aHy : C.funcs 138 = some Tryz.f138 := Tryz.func138
theorem aKV {a : List V} {H : List Ob} {R : V → List Ob → Prop} : Ret C 138 a H R ↔ WP C 138 aze ⟨apD a, 0, H⟩ (apS C Tryz.f138 H R) := apI aNc aM5 aHy aIJ
@[simp] theorem aOD : C.locs 138 = [1, 2, 3] := by kernel_rfl
noncomputable def ayr : Code := match Tryz.f139.body with | some c => c | none => .skip
theorem aKF : C.fids 139 = true := by kernel_rfl
theorem aL1 : Tryz.f139.body = some ayr := rfl
theorem aJF : C.prim 139 = none := rfl
theorem aKa : C.funcs 139 = some Tryz.f139 := Tryz.func139
theorem aI5 {a : List V} {H : List Ob} {R : V → List Ob → Prop} : Ret C 139 a H R ↔ WP C 139 ayr ⟨apD a, 0, H⟩ (apS C Tryz.f139 H R) := apI aJF aKF aKa aL1
@[simp] theorem aNZ : C.locs 139 = [1, 2, 3] := by kernel_rfl
noncomputable def avp : Code := match Tryz.f140.body with | some c => c | none => .skip
theorem aIv : C.fids 140 = true := by kernel_rfl
theorem aGA : Tryz.f140.body = some avp := rfl
theorem aHB : C.prim 140 = none := rfl
theorem aJx : C.funcs 140 = some Tryz.f140 := Tryz.func140
theorem aJK {a : List V} {H : List Ob} {R : V → List Ob → Prop} : Ret C 140 a H R ↔ WP C 140 avp ⟨apD a, 0, H⟩ (apS C Tryz.f140 H R) := apI aHB aIv aJx aGA
@[simp] theorem aOp : C.locs 140 = [] := by kernel_rfl
noncomputable def atM : Code := match Tryz.f141.body with | some c => c | none => .skip
theorem aIS : C.fids 141 = true := by kernel_rfl
theorem aH3 : Tryz.f141.body = some atM := rfl
theorem aHp : C.prim 141 = none := rfl
theorem aGU : C.funcs 141 = some Tryz.f141 := Tryz.func141
theorem aMW {a : List V} {H : List Ob} {R : V → List Ob → Prop} : Ret C 141 a H R ↔ WP C 141 atM ⟨apD a, 0, H⟩ (apS C Tryz.f141 H R) := apI aHp aIS aGU aH3
@[simp] theorem aOb : C.locs 141 = [] := by kernel_rfl
noncomputable def awu : Code := match Tryz.f142.body with | some c => c | none => .skip
theorem aJ5 : C.fids 142 = true := by kernel_rfl
theorem aII : Tryz.f142.body = some awu := rfl
theorem aHi : C.prim 142 = none := rfl
theorem aLO : C.funcs 142 = some Tryz.f142 := Tryz.func142
theorem aNp {a : List V} {H : List Ob} {R : V → List Ob → Prop} : Ret C 142 a H R ↔ WP C 142 awu ⟨apD a, 0, H⟩ (apS C Tryz.f142 H R) := apI aHi aJ5 aLO aII
@[simp] theorem aN4 : C.locs 142 = [] := by kernel_rfl
noncomputable def azr : Code := match Tryz.f143.body with | some c => c | none => .skip
theorem aLA : C.fids 143 = true := by kernel_rfl
theorem aK6 : Tryz.f143.body = some azr := rfl
theorem aI6 : C.prim 143 = none := rfl
theorem aLr : C.funcs 143 = some Tryz.f143 := Tryz.func143
theorem aMc {a : List V} {H : List Ob} {R : V → List Ob → Prop} : Ret C 143 a H R ↔ WP C 143 azr ⟨apD a, 0, H⟩ (apS C Tryz.f143 H R) := apI aI6 aLA aLr aK6
@[simp] theorem aOy : C.locs 143 = [] := by kernel_rfl
noncomputable def ayD : Code := match Tryz.f144.body with | some c => c | none => .skip
theorem aIT : C.fids 144 = true := by kernel_rfl
theorem aLh : Tryz.f144.body = some ayD := rfl
theorem aMt : C.prim 144 = none := rfl
theorem aGR : C.funcs 144 = some Tryz.f144 := Tryz.func144
theorem aIa {a : List V} {H : List Ob} {R : V → List Ob → Prop} : Ret C 144 a H R ↔ WP C 144 ayD ⟨apD a, 0, H⟩ (apS C Tryz.f144 H R) := apI aMt aIT aGR aLh
@[simp] theorem aNG : C.locs 144 = [5] := by kernel_rfl
noncomputable def azc : Code := match Tryz.f145.body with | some c => c | none => .skip
theorem aGQ : C.fids 145 = true := by kernel_rfl
theorem aMK : Tryz.f145.body = some azc := rfl
theorem aMy : C.prim 145 = none := rfl
theorem aGK : C.funcs 145 = some Tryz.f145 := Tryz.func145
theorem aGH {a : List V} {H : List Ob} {R : V → List Ob → Prop} : Ret C 145 a H R ↔ WP C 145 azc ⟨apD a, 0, H⟩ (apS C Tryz.f145 H R) := apI aMy aGQ aGK aMK
@[simp] theorem aNF : C.locs 145 = [5] := by kernel_rfl
noncomputable def auY : Code := match Tryz.f146.body with | some c => c | none => .skip
theorem aKY : C.fids 146 = true := by kernel_rfl
theorem aHR : Tryz.f146.body = some auY := rfl
theorem aKz : C.prim 146 = none := rfl
theorem aM2 : C.funcs 146 = some Tryz.f146 := Tryz.func146
theorem aK5 {a : List V} {H : List Ob} {R : V → List Ob → Prop} : Ret C 146 a H R ↔ WP C 146 auY ⟨apD a, 0, H⟩ (apS C Tryz.f146 H R) := apI aKz aKY aM2 aHR
@[simp] theorem aNX : C.locs 146 = [1] := by kernel_rfl
noncomputable def auy : Code := match Tryz.f149.body with | some c => c | none => .skip
theorem aJ6 : C.fids 149 = true := by kernel_rfl
theorem aKu : Tryz.f149.body = some auy := rfl
theorem aIm : C.prim 149 = none := rfl
theorem aJM : C.funcs 149 = some Tryz.f149 := Tryz.func149
theorem aCs {a : List V} {H : List Ob} {R : V → List Ob → Prop} : Ret C 149 a H R ↔ WP C 149 auy ⟨apD a, 0, H⟩ (apS C Tryz.f149 H R) := apI aIm aJ6 aJM aKu
@[simp] theorem aNJ : C.locs 149 = [2, 3] := by kernel_rfl
noncomputable def avj : Code := match Tryz.f150.body with | some c => c | none => .skip
theorem aIf : C.fids 150 = true := by kernel_rfl
theorem aIb : Tryz.f150.body = some avj := rfl
theorem aGS : C.prim 150 = none := rfl
theorem aJJ : C.funcs 150 = some Tryz.f150 := Tryz.func150
theorem aD4 {a : List V} {H : List Ob} {R : V → List Ob → Prop} : Ret C 150 a H R ↔ WP C 150 avj ⟨apD a, 0, H⟩ (apS C Tryz.f150 H R) := apI aGS aIf aJJ aIb
@[simp] theorem aOT : C.locs 150 = [2, 3] := by kernel_rfl
noncomputable def ayS : Code := match Tryz.f151.body with | some c => c | none => .skip
theorem aMX : C.fids 151 = true := by kernel_rfl
theorem aL2 : Tryz.f151.body = some ayS := rfl
theorem aKZ : C.prim 151 = none := rfl
theorem aIU : C.funcs 151 = some Tryz.f151 := Tryz.func151
theorem aJ0 {a : List V} {H : List Ob} {R : V → List Ob → Prop} : Ret C 151 a H R ↔ WP C 151 ayS ⟨apD a, 0, H⟩ (apS C Tryz.f151 H R) := apI aKZ aMX aIU aL2
@[simp] theorem aOq : C.locs 151 = [] := by kernel_rfl
noncomputable def ayk : Code := match Tryz.f152.body with | some c => c | none => .skip
theorem aGL : C.fids 152 = true := by kernel_rfl
theorem aKN : Tryz.f152.body = some ayk := rfl
theorem aJu : C.prim 152 = none := rfl
theorem aId : C.funcs 152 = some Tryz.f152 := Tryz.func152
theorem aHx {a : List V} {H : List Ob} {R : V → List Ob → Prop} : Ret C 152 a H R ↔ WP C 152 ayk ⟨apD a, 0, H⟩ (apS C Tryz.f152 H R) := apI aJu aGL aId aKN
@[simp] theorem aNS : C.locs 152 = [3] := by kernel_rfl
noncomputable def au9 : Code := match Tryz.f153.body with | some c => c | none => .skip
theorem aMk : C.fids 153 = true := by kernel_rfl
theorem aKE : Tryz.f153.body = some au9 := rfl
theorem aGZ : C.prim 153 = none := rfl
theorem aJZ : C.funcs 153 = some Tryz.f153 := Tryz.func153
theorem aK7 {a : List V} {H : List Ob} {R : V → List Ob → Prop} : Ret C 153 a H R ↔ WP C 153 au9 ⟨apD a, 0, H⟩ (apS C Tryz.f153 H R) := apI aGZ aMk aJZ aKE
@[simp] theorem aPb : C.locs 153 = [] := by kernel_rfl
noncomputable def ayy : Code := match Tryz.f154.body with | some c => c | none => .skip
theorem aGW : C.fids 154 = true := by kernel_rfl
theorem aHA : Tryz.f154.body = some ayy := rfl
theorem aKf : C.prim 154 = none := rfl
theorem aNl : C.funcs 154 = some Tryz.f154 := Tryz.func154
theorem aKP {a : List V} {H : List Ob} {R : V → List Ob → Prop} : Ret C 154 a H R ↔ WP C 154 ayy ⟨apD a, 0, H⟩ (apS C Tryz.f154 H R) := apI aKf aGW aNl aHA
@[simp] theorem aO9 : C.locs 154 = [] := by kernel_rfl
noncomputable def azn : Code := match Tryz.f155.body with | some c => c | none => .skip
theorem aJQ : C.fids 155 = true := by kernel_rfl
theorem aKl : Tryz.f155.body = some azn := rfl
theorem aH2 : C.prim 155 = none := rfl
theorem aLp : C.funcs 155 = some Tryz.f155 := Tryz.func155
theorem aKt {a : List V} {H : List Ob} {R : V → List Ob → Prop} : Ret C 155 a H R ↔ WP C 155 azn ⟨apD a, 0, H⟩ (apS C Tryz.f155 H R) := apI aH2 aJQ aLp aKl
@[simp] theorem aOH : C.locs 155 = [5] := by kernel_rfl
noncomputable def au6 : Code := match Tryz.f156.body with | some c => c | none => .skip
theorem aMR : C.fids 156 = true := by kernel_rfl
theorem aIx : Tryz.f156.body = some au6 := rfl
theorem aMb : C.prim 156 = none := rfl
theorem aHQ : C.funcs 156 = some Tryz.f156 := Tryz.func156
theorem aHV {a : List V} {H : List Ob} {R : V → List Ob → Prop} : Ret C 156 a H R ↔ WP C 156 au6 ⟨apD a, 0, H⟩ (apS C Tryz.f156 H R) := apI aMb aMR aHQ aIx
@[simp] theorem aOF : C.locs 156 = [] := by kernel_rfl
noncomputable def atK : Code := match Tryz.f178.body with | some c => c | none => .skip
theorem aIo : C.fids 178 = true := by kernel_rfl
theorem aJh : Tryz.f178.body = some atK := rfl
theorem aIL : C.prim 178 = none := rfl
theorem aMN : C.funcs 178 = some Tryz.f178 := Tryz.func178
theorem aFH {a : List V} {H : List Ob} {R : V → List Ob → Prop} : Ret C 178 a H R ↔ WP C 178 atK ⟨apD a, 0, H⟩ (apS C Tryz.f178 H R) := apI aIL aIo aMN aJh
@[simp] theorem aO6 : C.locs 178 = [] := by kernel_rfl
noncomputable def ayH : Code := match Tryz.f180.body with | some c => c | none => .skip
theorem aIO : C.fids 180 = true := by kernel_rfl
theorem aHD : Tryz.f180.body = some ayH := rfl
theorem aJg : C.prim 180 = none := rfl
theorem aHj : C.funcs 180 = some Tryz.f180 := Tryz.func180
theorem aMA {a : List V} {H : List Ob} {R : V → List Ob → Prop} : Ret C 180 a H R ↔ WP C 180 ayH ⟨apD a, 0, H⟩ (apS C Tryz.f180 H R) := apI aJg aIO aHj aHD
@[simp] theorem aNH : C.locs 180 = [] := by kernel_rfl
noncomputable def auw : Code := match Tryz.f184.body with | some c => c | none => .skip
theorem aGt : C.fids 184 = true := by kernel_rfl
theorem aLF : Tryz.f184.body = some auw := rfl
theorem aKB : C.prim 184 = none := rfl
theorem aG3 : C.funcs 184 = some Tryz.f184 := Tryz.func184
theorem aJE {a : List V} {H : List Ob} {R : V → List Ob → Prop} : Ret C 184 a H R ↔ WP C 184 auw ⟨apD a, 0, H⟩ (apS C Tryz.f184 H R) := apI aKB aGt aG3 aLF
@[simp] theorem aOh : C.locs 184 = [] := by kernel_rfl
noncomputable def atO : Code := match Tryz.f185.body with | some c => c | none => .skip
theorem aK4 : C.fids 185 = true := by kernel_rfl
theorem aIs : Tryz.f185.body = some atO := rfl
theorem aIY : C.prim 185 = none := rfl
theorem aJv : C.funcs 185 = some Tryz.f185 := Tryz.func185
theorem aFI {a : List V} {H : List Ob} {R : V → List Ob → Prop} : Ret C 185 a H R ↔ WP C 185 atO ⟨apD a, 0, H⟩ (apS C Tryz.f185 H R) := apI aIY aK4 aJv aIs
@[simp] theorem aN5 : C.locs 185 = [] := by kernel_rfl
noncomputable def ap8 : Code := match Tryz.f191.body with | some c => c | none => .skip
theorem aMh : C.fids 191 = true := by kernel_rfl
theorem aIN : Tryz.f191.body = some ap8 := rfl
theorem aLy : C.prim 191 = none := rfl
theorem aLz : C.funcs 191 = some Tryz.f191 := Tryz.func191
theorem axY {a : List V} {H : List Ob} {R : V → List Ob → Prop} : Ret C 191 a H R ↔ WP C 191 ap8 ⟨apD a, 0, H⟩ (apS C Tryz.f191 H R) := apI aLy aMh aLz aIN
@[simp] theorem aOV : C.locs 191 = [4] := by kernel_rfl
noncomputable def auz : Code := match Tryz.f207.body with | some c => c | none => .skip
theorem aHf : C.fids 207 = true := by kernel_rfl
theorem aGP : Tryz.f207.body = some auz := rfl
theorem aNb : C.prim 207 = none := rfl
theorem aHk : C.funcs 207 = some Tryz.f207 := Tryz.func207
theorem aJO {a : List V} {H : List Ob} {R : V → List Ob → Prop} : Ret C 207 a H R ↔ WP C 207 auz ⟨apD a, 0, H⟩ (apS C Tryz.f207 H R) := apI aNb aHf aHk aGP
@[simp] theorem aOC : C.locs 207 = [] := by kernel_rfl
noncomputable def avr : Code := match Tryz.f211.body with | some c => c | none => .skip
theorem aL9 : C.fids 211 = true := by kernel_rfl
theorem aIw : Tryz.f211.body = some avr := rfl
theorem aLj : C.prim 211 = none := rfl
theorem aJn : C.funcs 211 = some Tryz.f211 := Tryz.func211
theorem aLd {a : List V} {H : List Ob} {R : V → List Ob → Prop} : Ret C 211 a H R ↔ WP C 211 avr ⟨apD a, 0, H⟩ (apS C Tryz.f211 H R) := apI aLj aL9 aJn aIw
@[simp] theorem aOw : C.locs 211 = [] := by kernel_rfl
noncomputable def atF : Code := match Tryz.f224.body with | some c => c | none => .skip
theorem aHF : C.fids 224 = true := by kernel_rfl
theorem aKO : Tryz.f224.body = some atF := rfl
theorem aLG : C.prim 224 = none := rfl
theorem aKR : C.funcs 224 = some Tryz.f224 := Tryz.func224
theorem aFO {a : List V} {H : List Ob} {R : V → List Ob → Prop} : Ret C 224 a H R ↔ WP C 224 atF ⟨apD a, 0, H⟩ (apS C Tryz.f224 H R) := apI aLG aHF aKR aKO
@[simp] theorem aOa : C.locs 224 = [] := by kernel_rfl
noncomputable def auo : Code := match Tryz.f225.body with | some c => c | none => .skip
theorem aMM : C.fids 225 = true := by kernel_rfl
theorem aJ7 : Tryz.f225.body = some auo := rfl
theorem aHH : C.prim 225 = none := rfl
theorem aNm : C.funcs 225 = some Tryz.f225 := Tryz.func225
theorem aJ2 {a : List V} {H : List Ob} {R : V → List Ob → Prop} : Ret C 225 a H R ↔ WP C 225 auo ⟨apD a, 0, H⟩ (apS C Tryz.f225 H R) := apI aHH aMM aNm aJ7
@[simp] theorem aO2 : C.locs 225 = [1] := by kernel_rfl
noncomputable def ayt : Code := match Tryz.f226.body with | some c => c | none => .skip
theorem aHW : C.fids 226 = true := by kernel_rfl
theorem aHT : Tryz.f226.body = some ayt := rfl
theorem aGO : C.prim 226 = none := rfl
theorem aJR : C.funcs 226 = some Tryz.f226 := Tryz.func226
theorem aJS {a : List V} {H : List Ob} {R : V → List Ob → Prop} : Ret C 226 a H R ↔ WP C 226 ayt ⟨apD a, 0, H⟩ (apS C Tryz.f226 H R) := apI aGO aHW aJR aHT
@[simp] theorem aOo : C.locs 226 = [] := by kernel_rfl
noncomputable def ayl : Code := match Tryz.f227.body with | some c => c | none => .skip
theorem aKW : C.fids 227 = true := by kernel_rfl
theorem aM8 : Tryz.f227.body = some ayl := rfl
theorem aLu : C.prim 227 = none := rfl
theorem aJA : C.funcs 227 = some Tryz.f227 := Tryz.func227
theorem aGN {a : List V} {H : List Ob} {R : V → List Ob → Prop} : Ret C 227 a H R ↔ WP C 227 ayl ⟨apD a, 0, H⟩ (apS C Tryz.f227 H R) := apI aLu aKW aJA aM8
@[simp] theorem aNY : C.locs 227 = [] := by kernel_rfl
noncomputable def ay2 : Code := match Tryz.f231.body with | some c => c | none => .skip
theorem aMO : C.fids 231 = true := by kernel_rfl
theorem aI8 : Tryz.f231.body = some ay2 := rfl
theorem aJz : C.prim 231 = none := rfl
theorem aGu : C.funcs 231 = some Tryz.f231 := Tryz.func231
theorem aGv {a : List V} {H : List Ob} {R : V → List Ob → Prop} : Ret C 231 a H R ↔ WP C 231 ay2 ⟨apD a, 0, H⟩ (apS C Tryz.f231 H R) := apI aJz aMO aGu aI8
@[simp] theorem aNE : C.locs 231 = [] := by kernel_rfl
noncomputable def azD : Code := match Tryz.f232.body with | some c => c | none => .skip
theorem aLW : C.fids 232 = true := by kernel_rfl
theorem aMf : Tryz.f232.body = some azD := rfl
theorem aHC : C.prim 232 = none := rfl
theorem aM7 : C.funcs 232 = some Tryz.f232 := Tryz.func232
theorem aLM {a : List V} {H : List Ob} {R : V → List Ob → Prop} : Ret C 232 a H R ↔ WP C 232 azD ⟨apD a, 0, H⟩ (apS C Tryz.f232 H R) := apI aHC aLW aM7 aMf
@[simp] theorem aOG : C.locs 232 = [1] := by kernel_rfl
noncomputable def auC : Code := match Tryz.f233.body with | some c => c | none => .skip
theorem aIH : C.fids 233 = true := by kernel_rfl
theorem aMi : Tryz.f233.body = some auC := rfl
theorem aMj : C.prim 233 = none := rfl
theorem aNx : C.funcs 233 = some Tryz.f233 := Tryz.func233
theorem aFN {a : List V} {H : List Ob} {R : V → List Ob → Prop} : Ret C 233 a H R ↔ WP C 233 auC ⟨apD a, 0, H⟩ (apS C Tryz.f233 H R) := apI aMj aIH aNx aMi
@[simp] theorem aNL : C.locs 233 = [] := by kernel_rfl
noncomputable def azx : Code := match Tryz.f234.body with | some c => c | none => .skip
theorem aJs : C.fids 234 = true := by kernel_rfl
theorem aMZ : Tryz.f234.body = some azx := rfl
theorem aJC : C.prim 234 = none := rfl
theorem aLw : C.funcs 234 = some Tryz.f234 := Tryz.func234
theorem aGC {a : List V} {H : List Ob} {R : V → List Ob → Prop} : Ret C 234 a H R ↔ WP C 234 azx ⟨apD a, 0, H⟩ (apS C Tryz.f234 H R) := apI aJC aJs aLw aMZ
@[simp] theorem aN3 : C.locs 234 = [] := by kernel_rfl
noncomputable def awq : Code := match Tryz.f235.body with | some c => c | none => .skip
theorem aGy : C.fids 235 = true := by kernel_rfl
theorem aI1 : Tryz.f235.body = some awq := rfl
theorem aMq : C.prim 235 = none := rfl
theorem aKk : C.funcs 235 = some Tryz.f235 := Tryz.func235
theorem aFP {a : List V} {H : List Ob} {R : V → List Ob → Prop} : Ret C 235 a H R ↔ WP C 235 awq ⟨apD a, 0, H⟩ (apS C Tryz.f235 H R) := apI aMq aGy aKk aI1
@[simp] theorem aNC : C.locs 235 = [] := by kernel_rfl
noncomputable def avk : Code := match Tryz.f236.body with | some c => c | none => .skip
theorem aMV : C.fids 236 = true := by kernel_rfl
theorem aIZ : Tryz.f236.body = some avk := rfl
theorem aNu : C.prim 236 = none := rfl
theorem aGY : C.funcs 236 = some Tryz.f236 := Tryz.func236
theorem aLD {a : List V} {H : List Ob} {R : V → List Ob → Prop} : Ret C 236 a H R ↔ WP C 236 avk ⟨apD a, 0, H⟩ (apS C Tryz.f236 H R) := apI aNu aMV aGY aIZ
@[simp] theorem aOS : C.locs 236 = [] := by kernel_rfl
noncomputable def ayW : Code := match Tryz.f237.body with | some c => c | none => .skip
theorem aNn : C.fids 237 = true := by kernel_rfl
theorem aI3 : Tryz.f237.body = some ayW := rfl
theorem aHY : C.prim 237 = none := rfl
theorem aGJ : C.funcs 237 = some Tryz.f237 := Tryz.func237
theorem aNe {a : List V} {H : List Ob} {R : V → List Ob → Prop} : Ret C 237 a H R ↔ WP C 237 ayW ⟨apD a, 0, H⟩ (apS C Tryz.f237 H R) := apI aHY aNn aGJ aI3
@[simp] theorem aN9 : C.locs 237 = [] := by kernel_rfl
noncomputable def ay1 : Code := match Tryz.f238.body with | some c => c | none => .skip
theorem aI4 : C.fids 238 = true := by kernel_rfl
theorem aNg : Tryz.f238.body = some ay1 := rfl
theorem aHn : C.prim 238 = none := rfl
theorem aHa : C.funcs 238 = some Tryz.f238 := Tryz.func238
theorem aMm {a : List V} {H : List Ob} {R : V → List Ob → Prop} : Ret C 238 a H R ↔ WP C 238 ay1 ⟨apD a, 0, H⟩ (apS C Tryz.f238 H R) := apI aHn aI4 aHa aNg
@[simp] theorem aN7 : C.locs 238 = [] := by kernel_rfl
noncomputable def ays : Code := match Tryz.f242.body with | some c => c | none => .skip
theorem aMT : C.fids 242 = true := by kernel_rfl
theorem aKC : Tryz.f242.body = some ays := rfl
theorem aMP : C.prim 242 = none := rfl
theorem aH5 : C.funcs 242 = some Tryz.f242 := Tryz.func242
theorem aKb {a : List V} {H : List Ob} {R : V → List Ob → Prop} : Ret C 242 a H R ↔ WP C 242 ays ⟨apD a, 0, H⟩ (apS C Tryz.f242 H R) := apI aMP aMT aH5 aKC
@[simp] theorem aN2 : C.locs 242 = [] := by kernel_rfl
noncomputable def arT : Code := match Tryz.f243.body with | some c => c | none => .skip
theorem aIz : C.fids 243 = true := by kernel_rfl
theorem aMJ : Tryz.f243.body = some arT := rfl
theorem aNs : C.prim 243 = none := rfl
theorem aHl : C.funcs 243 = some Tryz.f243 := Tryz.func243
theorem aKm {a : List V} {H : List Ob} {R : V → List Ob → Prop} : Ret C 243 a H R ↔ WP C 243 arT ⟨apD a, 0, H⟩ (apS C Tryz.f243 H R) := apI aNs aIz aHl aMJ
@[simp] theorem aOz : C.locs 243 = [3] := by kernel_rfl
noncomputable def azg : Code := match Tryz.f244.body with | some c => c | none => .skip
theorem aJa : C.fids 244 = true := by kernel_rfl
theorem aNi : Tryz.f244.body = some azg := rfl
theorem aGF : C.prim 244 = none := rfl
theorem aJr : C.funcs 244 = some Tryz.f244 := Tryz.func244
theorem aKc {a : List V} {H : List Ob} {R : V → List Ob → Prop} : Ret C 244 a H R ↔ WP C 244 azg ⟨apD a, 0, H⟩ (apS C Tryz.f244 H R) := apI aGF aJa aJr aNi
@[simp] theorem aNP : C.locs 244 = [7] := by kernel_rfl
noncomputable def ast : Code := match Tryz.f245.body with | some c => c | none => .skip
theorem aMC : C.fids 245 = true := by kernel_rfl
theorem aNd : Tryz.f245.body = some ast := rfl
theorem aH9 : C.prim 245 = none := rfl
theorem aLN : C.funcs 245 = some Tryz.f245 := Tryz.func245
theorem aIK {a : List V} {H : List Ob} {R : V → List Ob → Prop} : Ret C 245 a H R ↔ WP C 245 ast ⟨apD a, 0, H⟩ (apS C Tryz.f245 H R) := apI aH9 aMC aLN aNd
@[simp] theorem aNO : C.locs 245 = [] := by kernel_rfl
noncomputable def ayZ : Code := match Tryz.f249.body with | some c => c | none => .skip
theorem aJY : C.fids 249 = true := by kernel_rfl
theorem aLE : Tryz.f249.body = some ayZ := rfl
theorem aLx : C.prim 249 = none := rfl
theorem aLc : C.funcs 249 = some Tryz.f249 := Tryz.func249
theorem aMn {a : List V} {H : List Ob} {R : V → List Ob → Prop} : Ret C 249 a H R ↔ WP C 249 ayZ ⟨apD a, 0, H⟩ (apS C Tryz.f249 H R) := apI aLx aJY aLc aLE
@[simp] theorem aOs : C.locs 249 = [2] := by kernel_rfl
noncomputable def avv : Code := match Tryz.f250.body with | some c => c | none => .skip
theorem aLX : C.fids 250 = true := by kernel_rfl
theorem aKG : Tryz.f250.body = some avv := rfl
theorem aHS : C.prim 250 = none := rfl
theorem aMd : C.funcs 250 = some Tryz.f250 := Tryz.func250
theorem aLb {a : List V} {H : List Ob} {R : V → List Ob → Prop} : Ret C 250 a H R ↔ WP C 250 avv ⟨apD a, 0, H⟩ (apS C Tryz.f250 H R) := apI aHS aLX aMd aKG
@[simp] theorem aOu : C.locs 250 = [] := by kernel_rfl
@[simp] theorem aNM : C.locs 264 = [] := by kernel_rfl
@[simp] theorem aOi : C.locs 265 = [] := by kernel_rfl
noncomputable def ayz : Code := match Tryz.f266.body with | some c => c | none => .skip
theorem aI0 : C.fids 266 = true := by kernel_rfl
theorem aKH : Tryz.f266.body = some ayz := rfl
theorem aHv : C.prim 266 = none := rfl
theorem aHd : C.funcs 266 = some Tryz.f266 := Tryz.func266
theorem aHb {a : List V} {H : List Ob} {R : V → List Ob → Prop} : Ret C 266 a H R ↔ WP C 266 ayz ⟨apD a, 0, H⟩ (apS C Tryz.f266 H R) := apI aHv aI0 aHd aKH
@[simp] theorem aOc : C.locs 266 = [2] := by kernel_rfl
noncomputable def ay7 : Code := match Tryz.f267.body with | some c => c | none => .skip
theorem aIA : C.fids 267 = true := by kernel_rfl
theorem aIM : Tryz.f267.body = some ay7 := rfl
theorem aKJ : C.prim 267 = none := rfl
theorem aHE : C.funcs 267 = some Tryz.f267 := Tryz.func267
theorem aLl {a : List V} {H : List Ob} {R : V → List Ob → Prop} : Ret C 267 a H R ↔ WP C 267 ay7 ⟨apD a, 0, H⟩ (apS C Tryz.f267 H R) := apI aKJ aIA aHE aIM
@[simp] theorem aOA : C.locs 267 = [] := by kernel_rfl
noncomputable def azB : Code := match Tryz.f268.body with | some c => c | none => .skip
theorem aLR : C.fids 268 = true := by kernel_rfl
theorem aH8 : Tryz.f268.body = some azB := rfl
theorem aM3 : C.prim 268 = none := rfl
theorem aMe : C.funcs 268 = some Tryz.f268 := Tryz.func268
theorem aG6 {a : List V} {H : List Ob} {R : V → List Ob → Prop} : Ret C 268 a H R ↔ WP C 268 azB ⟨apD a, 0, H⟩ (apS C Tryz.f268 H R) := apI aM3 aLR aMe aH8
@[simp] theorem aO5 : C.locs 268 = [] := by kernel_rfl
@[simp] theorem aOO : C.locs 269 = [] := by kernel_rfl
@[simp] theorem aNU : C.locs 270 = [] := by kernel_rfl
noncomputable def aqv : Code := match Tryz.f272.body with | some c => c | none => .skip
theorem aLJ : C.fids 272 = true := by kernel_rfl
theorem aG7 : Tryz.f272.body = some aqv := rfl
theorem aMQ : C.prim 272 = none := rfl
theorem aIr : C.funcs 272 = some Tryz.f272 := Tryz.func272
theorem aMx {a : List V} {H : List Ob} {R : V → List Ob → Prop} : Ret C 272 a H R ↔ WP C 272 aqv ⟨apD a, 0, H⟩ (apS C Tryz.f272 H R) := apI aMQ aLJ aIr aG7
@[simp] theorem aO1 : C.locs 272 = [1] := by kernel_rfl
noncomputable def avc : Code := match Tryz.f275.body with | some c => c | none => .skip
theorem aG8 : C.fids 275 = true := by kernel_rfl
theorem aI9 : Tryz.f275.body = some avc := rfl
theorem aK2 : C.prim 275 = none := rfl
theorem aKI : C.funcs 275 = some Tryz.f275 := Tryz.func275
theorem aIR {a : List V} {H : List Ob} {R : V → List Ob → Prop} : Ret C 275 a H R ↔ WP C 275 avc ⟨apD a, 0, H⟩ (apS C Tryz.f275 H R) := apI aK2 aG8 aKI aI9
@[simp] theorem aN8 : C.locs 275 = [] := by kernel_rfl
noncomputable def awy : Code := match Tryz.f280.body with | some c => c | none => .skip
theorem aH4 : C.fids 280 = true := by kernel_rfl
theorem aL0 : Tryz.f280.body = some awy := rfl
theorem aMz : C.prim 280 = none := rfl
theorem aNz : C.funcs 280 = some Tryz.f280 := Tryz.func280
theorem aGT {a : List V} {H : List Ob} {R : V → List Ob → Prop} : Ret C 280 a H R ↔ WP C 280 awy ⟨apD a, 0, H⟩ (apS C Tryz.f280 H R) := apI aMz aH4 aNz aL0
@[simp] theorem aOP : C.locs 280 = [2] := by kernel_rfl
noncomputable def aws : Code := match Tryz.f287.body with | some c => c | none => .skip
theorem aIy : C.fids 287 = true := by kernel_rfl
theorem aLa : Tryz.f287.body = some aws := rfl
theorem aHP : C.prim 287 = none := rfl
theorem aIQ : C.funcs 287 = some Tryz.f287 := Tryz.func287
theorem aIG {a : List V} {H : List Ob} {R : V → List Ob → Prop} : Ret C 287 a H R ↔ WP C 287 aws ⟨apD a, 0, H⟩ (apS C Tryz.f287 H R) := apI aHP aIy aIQ aLa
@[simp] theorem aOE : C.locs 287 = [] := by kernel_rfl
noncomputable def ayK : Code := match Tryz.f289.body with | some c => c | none => .skip
theorem aHI : C.fids 289 = true := by kernel_rfl
theorem aJc : Tryz.f289.body = some ayK := rfl
theorem aHX : C.prim 289 = none := rfl
theorem aLf : C.funcs 289 = some Tryz.f289 := Tryz.func289
theorem aKs {a : List V} {H : List Ob} {R : V → List Ob → Prop} : Ret C 289 a H R ↔ WP C 289 ayK ⟨apD a, 0, H⟩ (apS C Tryz.f289 H R) := apI aHX aHI aLf aJc
@[simp] theorem aOm : C.locs 289 = [] := by kernel_rfl
noncomputable def ayx : Code := match Tryz.f290.body with | some c => c | none => .skip
theorem aJp : C.fids 290 = true := by kernel_rfl
theorem aHL : Tryz.f290.body = some ayx := rfl
theorem aMa : C.prim 290 = none := rfl
theorem aJX : C.funcs 290 = some Tryz.f290 := Tryz.func290
theorem aHr {a : List V} {H : List Ob} {R : V → List Ob → Prop} : Ret C 290 a H R ↔ WP C 290 ayx ⟨apD a, 0, H⟩ (apS C Tryz.f290 H R) := apI aMa aJp aJX aHL
@[simp] theorem aNN : C.locs 290 = [] := by kernel_rfl
noncomputable def aq8 : Code := match Tryz.f305.body with | some c => c | none => .skip
theorem aHq : C.fids 305 = true := by kernel_rfl
theorem aMY : Tryz.f305.body = some aq8 := rfl
theorem aKS : C.prim 305 = none := rfl
theorem aNr : C.funcs 305 = some Tryz.f305 := Tryz.func305
theorem aKK {a : List V} {H : List Ob} {R : V → List Ob → Prop} : Ret C 305 a H R ↔ WP C 305 aq8 ⟨apD a, 0, H⟩ (apS C Tryz.f305 H R) := apI aKS aHq aNr aMY
@[simp] theorem aND : C.locs 305 = [1] := by kernel_rfl
noncomputable def ar7 : Code := match Tryz.f306.body with | some c => c | none => .skip
theorem aLe : C.fids 306 = true := by kernel_rfl
theorem aGE : Tryz.f306.body = some ar7 := rfl
theorem aJk : C.prim 306 = none := rfl
theorem aGG : C.funcs 306 = some Tryz.f306 := Tryz.func306
theorem aIc {a : List V} {H : List Ob} {R : V → List Ob → Prop} : Ret C 306 a H R ↔ WP C 306 ar7 ⟨apD a, 0, H⟩ (apS C Tryz.f306 H R) := apI aJk aLe aGG aGE
@[simp] theorem aOl : C.locs 306 = [] := by kernel_rfl
noncomputable def ayR : Code := match Tryz.f308.body with | some c => c | none => .skip
theorem aJo : C.fids 308 = true := by kernel_rfl
theorem aMs : Tryz.f308.body = some ayR := rfl
theorem aJB : C.prim 308 = none := rfl
theorem aG0 : C.funcs 308 = some Tryz.f308 := Tryz.func308
theorem aJT {a : List V} {H : List Ob} {R : V → List Ob → Prop} : Ret C 308 a H R ↔ WP C 308 ayR ⟨apD a, 0, H⟩ (apS C Tryz.f308 H R) := apI aJB aJo aG0 aMs
@[simp] theorem aNQ : C.locs 308 = [] := by kernel_rfl
noncomputable def aq5 : Code := match Tryz.f309.body with | some c => c | none => .skip
theorem aLT : C.fids 309 = true := by kernel_rfl
theorem aHJ : Tryz.f309.body = some aq5 := rfl
theorem aG1 : C.prim 309 = none := rfl
theorem aHU : C.funcs 309 = some Tryz.f309 := Tryz.func309
theorem aLg {a : List V} {H : List Ob} {R : V → List Ob → Prop} : Ret C 309 a H R ↔ WP C 309 aq5 ⟨apD a, 0, H⟩ (apS C Tryz.f309 H R) := apI aG1 aLT aHU aHJ
@[simp] theorem aOX : C.locs 309 = [1] := by kernel_rfl
noncomputable def ar9 : Code := match Tryz.f310.body with | some c => c | none => .skip
theorem aLY : C.fids 310 = true := by kernel_rfl
theorem aNy : Tryz.f310.body = some ar9 := rfl
theorem aJi : C.prim 310 = none := rfl
theorem aK3 : C.funcs 310 = some Tryz.f310 := Tryz.func310
theorem aKw {a : List V} {H : List Ob} {R : V → List Ob → Prop} : Ret C 310 a H R ↔ WP C 310 ar9 ⟨apD a, 0, H⟩ (apS C Tryz.f310 H R) := apI aJi aLY aK3 aNy
@[simp] theorem aNV : C.locs 310 = [] := by kernel_rfl
noncomputable def aux : Code := match Tryz.f312.body with | some c => c | none => .skip
theorem aKd : C.fids 312 = true := by kernel_rfl
theorem aKD : Tryz.f312.body = some aux := rfl
theorem aML : C.prim 312 = none := rfl
theorem aNf : C.funcs 312 = some Tryz.f312 := Tryz.func312
theorem aEj {a : List V} {H : List Ob} {R : V → List Ob → Prop} : Ret C 312 a H R ↔ WP C 312 aux ⟨apD a, 0, H⟩ (apS C Tryz.f312 H R) := apI aML aKd aNf aKD
@[simp] theorem aOj : C.locs 312 = [] := by kernel_rfl
noncomputable def ayI : Code := match Tryz.f313.body with | some c => c | none => .skip
theorem aKv : C.fids 313 = true := by kernel_rfl
theorem aKy : Tryz.f313.body = some ayI := rfl
theorem aL6 : C.prim 313 = none := rfl
theorem aJj : C.funcs 313 = some Tryz.f313 := Tryz.func313
theorem aLC {a : List V} {H : List Ob} {R : V → List Ob → Prop} : Ret C 313 a H R ↔ WP C 313 ayI ⟨apD a, 0, H⟩ (apS C Tryz.f313 H R) := apI aL6 aKv aJj aKy
@[simp] theorem aOe : C.locs 313 = [] := by kernel_rfl
noncomputable def aqX : Code := match Tryz.f318.body with | some c => c | none => .skip
theorem aHs : C.fids 318 = true := by kernel_rfl
theorem aMU : Tryz.f318.body = some aqX := rfl
theorem aJU : C.prim 318 = none := rfl
theorem aHe : C.funcs 318 = some Tryz.f318 := Tryz.func318
theorem aHu {a : List V} {H : List Ob} {R : V → List Ob → Prop} : Ret C 318 a H R ↔ WP C 318 aqX ⟨apD a, 0, H⟩ (apS C Tryz.f318 H R) := apI aJU aHs aHe aMU
@[simp] theorem aOd : C.locs 318 = [] := by kernel_rfl
noncomputable def ayq : Code := match Tryz.f319.body with | some c => c | none => .skip
theorem aL7 : C.fids 319 = true := by kernel_rfl
theorem aJt : Tryz.f319.body = some ayq := rfl
theorem aK9 : C.prim 319 = none := rfl
theorem aIj : C.funcs 319 = some Tryz.f319 := Tryz.func319
theorem aHt {a : List V} {H : List Ob} {R : V → List Ob → Prop} : Ret C 319 a H R ↔ WP C 319 ayq ⟨apD a, 0, H⟩ (apS C Tryz.f319 H R) := apI aK9 aL7 aIj aJt
@[simp] theorem aOB : C.locs 319 = [] := by kernel_rfl
noncomputable def awC : Code := match Tryz.f320.body with | some c => c | none => .skip
theorem aKh : C.fids 320 = true := by kernel_rfl
theorem aKA : Tryz.f320.body = some awC := rfl
theorem aKx : C.prim 320 = none := rfl
theorem aLi : C.funcs 320 = some Tryz.f320 := Tryz.func320
theorem aLv {a : List V} {H : List Ob} {R : V → List Ob → Prop} : Ret C 320 a H R ↔ WP C 320 awC ⟨apD a, 0, H⟩ (apS C Tryz.f320 H R) := apI aKx aKh aLi aKA
@[simp] theorem aOM : C.locs 320 = [] := by kernel_rfl
noncomputable def aww : Code := match Tryz.f321.body with | some c => c | none => .skip
theorem aLU : C.fids 321 = true := by kernel_rfl
theorem aLI : Tryz.f321.body = some aww := rfl
theorem aMF : C.prim 321 = none := rfl
theorem aG5 : C.funcs 321 = some Tryz.f321 := Tryz.func321
theorem aFJ {a : List V} {H : List Ob} {R : V → List Ob → Prop} : Ret C 321 a H R ↔ WP C 321 aww ⟨apD a, 0, H⟩ (apS C Tryz.f321 H R) := apI aMF aLU aG5 aLI
@[simp] theorem aNI : C.locs 321 = [] := by kernel_rfl
noncomputable def azy : Code := match Tryz.f322.body with | some c => c | none => .skip
theorem aK8 : C.fids 322 = true := by kernel_rfl
theorem aLs : Tryz.f322.body = some azy := rfl
theorem aLH : C.prim 322 = none := rfl
theorem aH6 : C.funcs 322 = some Tryz.f322 := Tryz.func322
theorem aKU {a : List V} {H : List Ob} {R : V → List Ob → Prop} : Ret C 322 a H R ↔ WP C 322 azy ⟨apD a, 0, H⟩ (apS C Tryz.f322 H R) := apI aLH aK8 aH6 aLs
@[simp] theorem aON : C.locs 322 = [] := by kernel_rfl
noncomputable def ay9 : Code := match Tryz.f324.body with | some c => c | none => .skip
theorem aKQ : C.fids 324 = true := by kernel_rfl
theorem aHw : Tryz.f324.body = some ay9 := rfl
theorem aHz : C.prim 324 = none := rfl
theorem aIW : C.funcs 324 = some Tryz.f324 := Tryz.func324
theorem aKq {a : List V} {H : List Ob} {R : V → List Ob → Prop} : Ret C 324 a H R ↔ WP C 324 ay9 ⟨apD a, 0, H⟩ (apS C Tryz.f324 H R) := apI aHz aKQ aIW aHw
@[simp] theorem aOf : C.locs 324 = [] := by kernel_rfl
noncomputable def ayL : Code := match Tryz.f329.body with | some c => c | none => .skip
theorem aLq : C.fids 329 = true := by kernel_rfl
theorem aKo : Tryz.f329.body = some ayL := rfl
theorem aKj : C.prim 329 = none := rfl
theorem aG4 : C.funcs 329 = some Tryz.f329 := Tryz.func329
theorem aLL {a : List V} {H : List Ob} {R : V → List Ob → Prop} : Ret C 329 a H R ↔ WP C 329 ayL ⟨apD a, 0, H⟩ (apS C Tryz.f329 H R) := apI aKj aLq aG4 aKo
@[simp] theorem aO8 : C.locs 329 = [] := by kernel_rfl
@[simp] theorem aN6 : C.locs 330 = [] := by kernel_rfl
@[simp] theorem aOW : C.locs 331 = [] := by kernel_rfl
@[simp] theorem aOr : C.locs 332 = [] := by kernel_rfl
noncomputable def ayF : Code := match Tryz.f333.body with | some c => c | none => .skip
theorem aGV : C.fids 333 = true := by kernel_rfl
theorem aMv : Tryz.f333.body = some ayF := rfl
theorem aJe : C.prim 333 = none := rfl
theorem aHK : C.funcs 333 = some Tryz.f333 := Tryz.func333
theorem aHO {a : List V} {H : List Ob} {R : V → List Ob → Prop} : Ret C 333 a H R ↔ WP C 333 ayF ⟨apD a, 0, H⟩ (apS C Tryz.f333 H R) := apI aJe aGV aHK aMv
@[simp] theorem aOt : C.locs 333 = [] := by kernel_rfl
noncomputable def azA : Code := match Tryz.f337.body with | some c => c | none => .skip
theorem aIF : C.fids 337 = true := by kernel_rfl
theorem aJq : Tryz.f337.body = some azA := rfl
theorem aJ9 : C.prim 337 = none := rfl
theorem aMD : C.funcs 337 = some Tryz.f337 := Tryz.func337
theorem aIq {a : List V} {H : List Ob} {R : V → List Ob → Prop} : Ret C 337 a H R ↔ WP C 337 azA ⟨apD a, 0, H⟩ (apS C Tryz.f337 H R) := apI aJ9 aIF aMD aJq
@[simp] theorem aOL : C.locs 337 = [] := by kernel_rfl
noncomputable def awI : Code := match Tryz.f338.body with | some c => c | none => .skip
theorem aH7 : C.fids 338 = true := by kernel_rfl
theorem aMI : Tryz.f338.body = some awI := rfl
theorem aKp : C.prim 338 = none := rfl
theorem aM4 : C.funcs 338 = some Tryz.f338 := Tryz.func338
theorem aJb {a : List V} {H : List Ob} {R : V → List Ob → Prop} : Ret C 338 a H R ↔ WP C 338 awI ⟨apD a, 0, H⟩ (apS C Tryz.f338 H R) := apI aKp aH7 aM4 aMI
@[simp] theorem aNA : C.locs 338 = [] := by kernel_rfl
noncomputable def aza : Code := match Tryz.f349.body with | some c => c | none => .skip
theorem aKM : C.fids 349 = true := by kernel_rfl
theorem aJW : Tryz.f349.body = some aza := rfl
theorem aIu : C.prim 349 = none := rfl
theorem aIh : C.funcs 349 = some Tryz.f349 := Tryz.func349
theorem aLt {a : List V} {H : List Ob} {R : V → List Ob → Prop} : Ret C 349 a H R ↔ WP C 349 aza ⟨apD a, 0, H⟩ (apS C Tryz.f349 H R) := apI aIu aKM aIh aJW
@[simp] theorem aOv : C.locs 349 = [] := by kernel_rfl
noncomputable def ay6 : Code := match Tryz.f351.body with | some c => c | none => .skip
theorem aIg : C.fids 351 = true := by kernel_rfl
theorem aM9 : Tryz.f351.body = some ay6 := rfl
theorem aHM : C.prim 351 = none := rfl
theorem aJw : C.funcs 351 = some Tryz.f351 := Tryz.func351
theorem aJl {a : List V} {H : List Ob} {R : V → List Ob → Prop} : Ret C 351 a H R ↔ WP C 351 ay6 ⟨apD a, 0, H⟩ (apS C Tryz.f351 H R) := apI aHM aIg aJw aM9
@[simp] theorem aNW : C.locs 351 = [] := by kernel_rfl
@[simp] theorem aOK : C.locs 352 = [9] := by kernel_rfl
@[simp] theorem aOx : C.locs 354 = [] := by kernel_rfl
noncomputable def azm : Code := match Tryz.f357.body with | some c => c | none => .skip
theorem aI2 : C.fids 357 = true := by kernel_rfl
theorem aME : Tryz.f357.body = some azm := rfl
theorem aJf : C.prim 357 = none := rfl
theorem aNh : C.funcs 357 = some Tryz.f357 := Tryz.func357
theorem aIi {a : List V} {H : List Ob} {R : V → List Ob → Prop} : Ret C 357 a H R ↔ WP C 357 azm ⟨apD a, 0, H⟩ (apS C Tryz.f357 H R) := apI aJf aI2 aNh aME
@[simp] theorem aOk : C.locs 357 = [] := by kernel_rfl
noncomputable def azd : Code := match Tryz.f358.body with | some c => c | none => .skip
theorem aGz : C.fids 358 = true := by kernel_rfl
theorem aM1 : Tryz.f358.body = some azd := rfl
theorem aIX : C.prim 358 = none := rfl
theorem aLk : C.funcs 358 = some Tryz.f358 := Tryz.func358
theorem aMB {a : List V} {H : List Ob} {R : V → List Ob → Prop} : Ret C 358 a H R ↔ WP C 358 azd ⟨apD a, 0, H⟩ (apS C Tryz.f358 H R) := apI aIX aGz aLk aM1
@[simp] theorem aOI : C.locs 358 = [2] := by kernel_rfl
noncomputable def avt : Code := match Tryz.f359.body with | some c => c | none => .skip
theorem aIl : C.fids 359 = true := by kernel_rfl
theorem aJL : Tryz.f359.body = some avt := rfl
theorem aNt : C.prim 359 = none := rfl
theorem aMS : C.funcs 359 = some Tryz.f359 := Tryz.func359
theorem aG9 {a : List V} {H : List Ob} {R : V → List Ob → Prop} : Ret C 359 a H R ↔ WP C 359 avt ⟨apD a, 0, H⟩ (apS C Tryz.f359 H R) := apI aNt aIl aMS aJL
@[simp] theorem aNT : C.locs 359 = [] := by kernel_rfl
@[simp] theorem aN0 : C.locs 384 = [] := by kernel_rfl
@[simp] theorem aOU : C.locs 385 = [] := by kernel_rfl
@[simp] theorem aPX : C.ord 4 8 = some ⟨[0, 2, 5, 1, 3, 4, 6], [], [], [(0, 2), (2, 3), (6, 6)], [], []⟩ := by kernel_rfl
@[simp] theorem aOg : C.ord 4 14 = some ⟨[0, 1, 2, 3, 4], [], [], [(0, 7), (1, 2)], [], []⟩ := by kernel_rfl
@[simp] theorem aOJ : C.ord 4 16 = some ⟨[0, 1, 2, 3, 4], [], [], [(0, 8), (1, 3)], [], []⟩ := by kernel_rfl
@[simp] theorem aNB : C.ord 19 6 = none := by kernel_rfl
@[simp] theorem aFp : C.ord 38 6 = none := by kernel_rfl
@[simp] theorem aE0 : C.ord 39 6 = none := by kernel_rfl
@[simp] theorem aO4 : C.ord 64 3 = some ⟨[0, 1, 2, 3, 4, 5, 7, 8, 10, 11, 6, 9, 12, 13, 14, 15, 16, 17, 18], [], [], [(1, 1), (5, 1), (8, 1), (11, 1)], [], []⟩ := by kernel_rfl
@[simp] theorem aPa : C.ord 65 6 = none := by kernel_rfl
@[simp] theorem aES : C.ord 68 6 = none := by kernel_rfl
@[simp] theorem aEX : C.ord 69 6 = none := by kernel_rfl
@[simp] theorem aIk : C.ord 133 9 = none := by kernel_rfl
@[simp] theorem aGn : C.ord 133 11 = none := by kernel_rfl
@[simp] theorem aID : C.ord 135 4 = none := by kernel_rfl
@[simp] theorem aMl : C.ord 151 7 = some ⟨[0, 1, 2, 3, 4, 5, 6, 7, 8, 9, 10, 11, 12, 13, 14, 15], [13], [5], [], [], []⟩ := by kernel_rfl
@[simp] theorem aLP : C.ord 152 3 = none := by kernel_rfl
@[simp] theorem aJd : C.ord 180 4 = none := by kernel_rfl
@[simp] theorem aM6 : C.ord 227 4 = some ⟨[0, 1, 2, 3, 4, 5, 6, 7, 8, 9, 10, 11, 12, 13, 14, 16, 17, 18, 19, 15, 20, 21, 22, 23], [15], [19], [], [], []⟩ := by kernel_rfl
@[simp] theorem aJG : C.ord 243 1 = some ⟨[0, 1, 2, 3, 4, 5, 6, 7, 8, 9, 10, 11], [], [3, 7, 9], [(11, 3)], [], []⟩ := by kernel_rfl
@[simp] theorem aGq : C.ord 243 10 = none := by kernel_rfl
@[simp] theorem aJ8 : C.ord 244 1 = some ⟨[0, 1, 2, 3, 4, 5, 6, 7, 8], [], [2], [(6, 7)], [], []⟩ := by kernel_rfl
@[simp] theorem aGm : C.ord 244 23 = none := by kernel_rfl
@[simp] theorem aGo : C.ord 244 29 = none := by kernel_rfl
@[simp] theorem aMw : C.ord 312 6 = none := by kernel_rfl
@[simp] theorem aGr : C.ord 312 11 = none := by kernel_rfl
def avO (f : Nat) (sh : Sh) : Prop := ∀ (H : List Ob) (cs : List V) (u : U) (left : Nat), At H sh cs u → left ≤ 1048576 →
 callW C f [apU sh cs, .int .i64 left] H = some (.int .i64 (if wt u ≤ left then ((left - wt u : Nat) : Int) else -1), H)
theorem aBh : avO 11 (.slice .str) := by
 intro H cs u left h hleft
 simp only [At] at h
 obtain ⟨v, l, rfl, rfl, hlen, hv⟩ := h
 apply Ret.eq
 rw [aRn]
 by_cases h0 : (l.length : Int) ≤ left
 ·have h0' : ¬ ((left : Int) - l.length < 0) := by omega
  have hw0 : IntKind.i64.wrap ((left : Int) - l.length) = (left : Int) - l.length := wrap_i64 (by omega) (by omega)
  simp [ayU, Tryz.f11, apU, hv.len, hw0, h0']
  refine apT (fun k σ => ∃ (i : Nat) (r : Nat → R), i + k = l.length ∧ σ = ⟨r, 0, H⟩ ∧ r 0 = .val v ∧ l.length + wts (l.take i) ≤ left ∧ r 1 = .val (.int .i64 ((left : Int) - l.length - wts (l.take i))) ∧ r 5 = .val (.int .i64 i)) ?_ l.length _ ⟨0, _, by simp, rfl, by simp, by simp [wts]; omega, by simp [wts], by simp⟩
  rintro k σ ⟨i, r, hik, rfl, r0, hle, r1, r5⟩
  cases k with
  | zero =>
   have hi : i = l.length := by omega
   subst hi
   rw [List.take_length] at hle r1
   simp [r0, r1, r5, hv.len, wt, hle]
   omega
  | succ k =>
   have hi : i < l.length := by omega
   obtain ⟨x, hx⟩ : ∃ x, l[i]? = some x := ⟨l[i], by simp [hi]⟩
   obtain ⟨eid, o, own, cells, e1, e2, e3, s, e4, rfl, e5⟩ := hv.idx hx (by decide)
   simp only [Sh.size_str] at e1
   have c0 : cells[o]? = some (.str s) := by simpa using aqh e4 (j := 0) rfl
   have ld := aqt e2 c0
   have ht := azR hx
   simp only [wt] at ht
   have hg := aCi hx
   simp only [wt] at hg
   have hw : IntKind.i64.wrap ((i : Int) + 1) = ((i + 1 : Nat) : Int) := by rw [wrap_i64 (by omega) (by omega)]; omega
   have hw2 : IntKind.i64.wrap ((left : Int) - l.length - wts (l.take i) - s.length) = (left : Int) - l.length - wts (l.take i) - s.length := wrap_i64 (by have : s.length ≤ maxLen := e5; unfold maxLen at this; omega) (by omega)
   by_cases hb : l.length + wts (l.take (i + 1)) ≤ left
   ·have hb' : ¬ ((left : Int) - l.length - wts (l.take i) - s.length < 0) := by omega
    simp [r0, r1, r5, hi, hv.len, e1, ld, hw, hw2, hb']
    exact ⟨k, by omega, i + 1, by omega, hb, by omega, by omega⟩
   ·have hb' : (left : Int) - l.length - wts (l.take i) - s.length < 0 := by omega
    have := awi (l := l) (i := i + 1)
    have hn : ¬ (l.length + wts l ≤ left) := by omega
    simp [r0, r1, r5, hi, hv.len, e1, ld, hw, hw2, hb', wt, hn]
 ·have h0' : (left : Int) - l.length < 0 := by omega
  have hw0 : IntKind.i64.wrap ((left : Int) - l.length) = (left : Int) - l.length := wrap_i64 (by have : l.length ≤ maxLen := hlen; unfold maxLen at this; omega) (by omega)
  have hn : ¬ (l.length + wts l ≤ left) := by omega
  simp [ayU, Tryz.f11, apU, hv.len, hw0, h0', wt, hn]
theorem aCD {f g tS tE : Nat} {zs : List V} {fs : List Sh} {F : Func} (hop : ∀ {a : List V} {H : List Ob} {R : V → List Ob → Prop}, Ret C f a H R ↔ WP C f (ren [(22, tS), (99, tE)] [(45, g)] avP) ⟨apD a, 0, H⟩ (apS C F H R))
  (hF : F.results = #[.tmp 4]) (hS : C.ty tS = ⟨.slice tE, 1, 24, zs⟩) (hE : (C.ty tE).size = (Sh.st fs).size) (hE2 : (C.ty tE).isAgg = true) (hE0 : (C.ty tE).size ≠ 0) (hg : avO g (.st fs)) : avO f (.slice (.st fs)) := by
 intro H cs u left h hleft
 simp only [At] at h
 obtain ⟨v, l, rfl, rfl, hlen, hv⟩ := h
 apply Ret.eq
 rw [hop]
 by_cases h0 : (l.length : Int) ≤ left
 ·have h0' : ¬ ((left : Int) - l.length < 0) := by omega
  have hw0 : IntKind.i64.wrap ((left : Int) - l.length) = (left : Int) - l.length := wrap_i64 (by omega) (by omega)
  simp [avP, Tryz.f29, ren, aC5, aC6, asW, sub, apU, hS, hv.len, hw0, h0']
  refine apT (fun k σ => ∃ (i : Nat) (r : Nat → R), i + k = l.length ∧ σ = ⟨r, 0, H⟩ ∧ r 0 = .val v ∧ l.length + wts (l.take i) ≤ left ∧ r 1 = .val (.int .i64 ((left : Int) - l.length - wts (l.take i))) ∧ r 5 = .val (.int .i64 i)) ?_ l.length _ ⟨0, _, by simp, rfl, by simp, by simp [wts]; omega, by simp [wts], by simp⟩
  rintro k σ ⟨i, r, hik, rfl, r0, hle, r1, r5⟩
  cases k with
  | zero =>
   have hi : i = l.length := by omega
   subst hi
   rw [List.take_length] at hle r1
   simp [r0, r1, r5, hS, hv.len, wt, hle, hF]
   omega
  | succ k =>
   have hi : i < l.length := by omega
   obtain ⟨x, hx⟩ : ∃ x, l[i]? = some x := ⟨l[i], by simp [hi]⟩
   obtain ⟨eid, o, own, cells, e1, e2, e3, e4⟩ := hv.idx hx (by rw [← hE]; exact hE0)
   have e1 := fun (k : IntKind) => e1 tE 1 24 zs C.ty k hE
   have ld := aua (T := C.ty tE) e2 (by rw [hE]; exact e3) rfl hE0 hE2
   rw [hE] at ld
   have ht := azR hx
   have hw : IntKind.i64.wrap ((i : Int) + 1) = ((i + 1 : Nat) : Int) := by rw [wrap_i64 (by omega) (by omega)]; omega
   have hc := hg H _ x (left - l.length - wts (l.take i)) e4 (by omega)
   rw [show ((left - l.length - wts (l.take i) : Nat) : Int) = (left : Int) - l.length - wts (l.take i) by omega] at hc
   simp only [apU, Sh.size_st] at hc
   by_cases hb : l.length + wts (l.take (i + 1)) ≤ left
   ·have hb2 : wt x ≤ left - l.length - wts (l.take i) := by omega
    have hb' : ¬ (((left - l.length - wts (l.take i) - wt x : Nat) : Int) < 0) := by omega
    rw [if_pos hb2] at hc
    simp [r0, r1, r5, hi, hS, hv.len, e1, ld, hw, hc, hb']
    exact ⟨k, by omega, i + 1, by omega, hb, by omega, by omega⟩
   ·have hb2 : ¬ (wt x ≤ left - l.length - wts (l.take i)) := by omega
    have := awi (l := l) (i := i + 1)
    have hn : ¬ (l.length + wts l ≤ left) := by omega
    rw [if_neg hb2] at hc
    simp [r0, r1, r5, hi, hS, hv.len, e1, ld, hw, hc, wt, hn, hF]
 ·have h0' : (left : Int) - l.length < 0 := by omega
  have hw0 : IntKind.i64.wrap ((left : Int) - l.length) = (left : Int) - l.length := wrap_i64 (by have : l.length ≤ maxLen := hlen; unfold maxLen at this; omega) (by omega)
  have hn : ¬ (l.length + wts l ≤ left) := by omega
  simp [avP, Tryz.f29, ren, aC5, aC6, asW, sub, apU, hS, hv.len, hw0, h0', wt, hn, hF]
end Go.Proofs.Try1
end
section
namespace Go.Lite
open Go
def bys (b : Str) : List V := b.map fun c => .int .u8 c.toNat
theorem asw {b : Str} : (bys b).length = b.length := by simp [bys]
theorem awD {b : Str} {i : Nat} {c : UInt8} (h : b[i]? = some c) : (bys b)[i]? = some (.int .u8 c.toNat) := by simp [bys, h]
theorem aDc {c : UInt8} : arQ (.int .u8 c.toNat) = some c := by
 simp [arQ]
theorem arD : ∀ {b : Str}, (bys b).mapM arQ = some b
 | [] => rfl
 | c :: b => by
  have := arD (b := b)
  simp only [bys, List.map_cons, List.mapM_cons, aDc] at this ⊢
  rw [this]
  rfl
theorem axk {a b : Str} : bys (a ++ b) = bys a ++ bys b := by simp [bys]
theorem aEe {b : Str} {n : Nat} : (bys b).take n = bys (b.take n) := by simp [bys, List.map_take]
def Bs (H G : List Ob) (v : V) (b : Str) : Prop := ∃ T id, G = H ++ T ∧ H.length ≤ id ∧ G[id]? = some (.mk true 1 (bys b)) ∧ v = .slc (some (id, 0)) b.length
theorem Bs.init {H : List Ob} : Bs H (H ++ [.mk true 1 []]) (.slc (some (H.length, 0)) 0) [] := ⟨_, H.length, rfl, Nat.le_refl _, by simp [bys], rfl⟩
section
variable {H G : List Ob} {v : V} {b : Str}
theorem Bs.push (h : Bs H G v b) (hb : b.length ≤ 1000000000) {c : UInt8} {z : List V} {d : LD} (hz : z.length = 1) : ∃ v' G', aql ⟨d, 1, 1, z⟩ (G ++ [.mk true 1 [.int .u8 c.toNat]]) v (.slc (some (G.length, 0)) 1) = some (v', G') ∧ Bs H G' v' (b ++ [c]) := by
 obtain ⟨T, id, rfl, h1, h2, rfl⟩ := h
 have hid : id < (H ++ T).length := (List.getElem?_eq_some_iff.1 h2).1
 have hid' : id < H.length + T.length := by simpa using hid
 have hg : (H ++ T ++ [Ob.mk true 1 [.int .u8 c.toNat]])[id]? = some (.mk true 1 (bys b)) := by rw [List.getElem?_append_left hid]; exact h2
 have hnew : aqc ⟨d, 1, 1, z⟩ (H ++ T ++ [Ob.mk true 1 [.int .u8 c.toNat]]) (.slc (some ((H ++ T).length, 0)) 1) = some ([.int .u8 c.toNat], 1) := by
  simp only [aqc, Nat.mul_one, aqd, get_last]
  rfl
 refine ⟨.slc (some ((H ++ T ++ [Ob.mk true 1 [.int .u8 c.toNat]]).length, 0)) (b.length + 1), (H ++ T ++ [Ob.mk true 1 [.int .u8 c.toNat]]).set id .dead ++ [.mk true 1 (bys b ++ [.int .u8 c.toNat])], ?_, ?_⟩
 ·unfold aql
  rw [if_pos (by simp [arV, hz]), hnew]
  simp only [Nat.one_ne_zero, if_false, List.all_cons, List.all_nil, avV, Bool.and_true, if_true, hg]
  have e1 : ¬ (0 + (b.length + 1) * 1 ≤ (bys b).length) := by rw [asw]; omega
  have e2 : (0 + b.length * 1 = (bys b).length ∨ b.length = 0 ∧ (bys b).length ≤ 0) ∧ (b.length + 1) * 1 ≤ ap0 := ⟨.inl (by rw [asw]; simp), by unfold ap0; omega⟩
  rw [if_neg e1, if_pos e2, List.drop_zero]
 ·refine ⟨T.set (id - H.length) .dead ++ [.mk true 1 [.int .u8 c.toNat]] ++ [.mk true 1 (bys b ++ [.int .u8 c.toNat])], (H ++ T ++ [Ob.mk true 1 [.int .u8 c.toNat]]).length, ?_, by simp only [List.length_append]; omega, ?_, by simp⟩
  ·rw [List.append_assoc H T, List.set_append_right _ _ h1, List.set_append_left _ _ (by omega)]
   simp
  ·have hl : ((H ++ T ++ [Ob.mk true 1 [V.int .u8 c.toNat]]).set id .dead).length = (H ++ T ++ [Ob.mk true 1 [V.int .u8 c.toNat]]).length := List.length_set
   rw [← hl, get_last, axk]
   rfl
theorem Bs.last (h : Bs H G v b) {d : UInt8} (hd : b.getLast? = some d) : ∃ id, v = .slc (some (id, 0)) b.length ∧ ∀ T : LT, T.one → ∀ r c, loadAt T ⟨r, c, G⟩ (.hp id (b.length - 1)) = some (.int .u8 d.toNat) := by
 obtain ⟨T, id, rfl, h1, h2, rfl⟩ := h
 refine ⟨id, rfl, aqt h2 (awD ?_)⟩
 rw [List.getLast?_eq_getElem?] at hd
 exact hd
theorem Bs.cut (h : Bs H G v b) {n : Nat} (hn : n ≤ b.length) : ∃ id, v = .slc (some (id, 0)) b.length ∧ apX G id 1 = true ∧ aqd G (some (id, 0)) n = some (bys (b.take n)) := by
 obtain ⟨T, id, rfl, h1, h2, rfl⟩ := h
 refine ⟨id, rfl, by simp [apX, h2], ?_⟩
 simp only [aqd, h2]
 by_cases h0 : n = 0
 ·subst h0; rfl
 ·rw [if_neg h0]
  unfold aqW
  rw [if_pos (by rw [asw]; omega), List.drop_zero, aEe]
theorem Bs.ext (h : Bs H G v b) : ∃ T, G = H ++ T := by
 obtain ⟨T, id, h, _⟩ := h
 exact ⟨T, h⟩
theorem Bs.len (h : Bs H G v b) {e s n : Nat} {z : List V} : lenV ⟨.slice e, s, n, z⟩ v = some (.int .i64 b.length) := by
 obtain ⟨T, id, _, _, _, rfl⟩ := h
 rfl
end
abbrev shRdn : Sh := .st [.str, .str]
abbrev shAttr : Sh := .st [.str, .slice .str]
abbrev shEntry : Sh := .st [.slice shRdn, .slice shAttr]
abbrev aFE : Sh := .st [.str, .slice .str, .slice .str, .slice .str]
structure PRdn where
 attr : Str
 value : Str
structure PAttr where
 name : Str
 vals : List Str
structure PEntry where
 dn : List PRdn
 attrs : List PAttr
structure PClass where
 name : Str
 must : List Str
 may : List Str
 single : List Str
abbrev awM (s : Str) : U := .str s
def PRdn.u (r : PRdn) : U := .st [.str r.attr, .str r.value]
def PAttr.u (a : PAttr) : U := .st [.str a.name, .lst (a.vals.map awM)]
def PEntry.u (e : PEntry) : U := .st [.lst (e.dn.map PRdn.u), .lst (e.attrs.map PAttr.u)]
def PClass.u (c : PClass) : U := .st [.str c.name, .lst (c.must.map awM), .lst (c.may.map awM), .lst (c.single.map awM)]
section
variable (H : List Ob)
def ASl {α : Type} (sh : Sh) (f : α → U) (v : V) (l : List α) : Prop := At H (.slice sh) [v] (.lst (l.map f))
abbrev AStrs (v : V) (l : List Str) : Prop := ASl H .str awM v l
abbrev aq2 (v : V) (l : List PRdn) : Prop := ASl H shRdn PRdn.u v l
abbrev aqO (v : V) (l : List PAttr) : Prop := ASl H shAttr PAttr.u v l
end
section
variable {H H' T : List Ob} {v : V} {α : Type} {sh : Sh} {f : α → U} {l : List α}
theorem ASl.at (h : ASl H sh f v l) : At H (.slice sh) [v] (.lst (l.map f)) := h
theorem ASl.sl (h : ASl H sh f v l) : Sl H sh.size (At H sh) v (l.map f) := by
 obtain ⟨w, m, hw, hm, _, h⟩ := apM.1 h.at
 cases hw
 cases hm
 exact h
theorem ASl.bound (h : ASl H sh f v l) : l.length ≤ maxLen := by
 obtain ⟨w, m, hw, hm, h, _⟩ := apM.1 h.at
 cases hm
 simpa using h
theorem ASl.len (h : ASl H sh f v l) {e s b : Nat} {z : List V} : lenV ⟨.slice e, s, b, z⟩ v = some (.int .i64 l.length) := by
 have := h.sl.len (e := e) (s := s) (b := b) (z := z)
 simpa using this
theorem ASl.one (h : ASl H sh f v l) : ap5 v = true ∧ cellsOf v = some [v] := h.sl.one
theorem ASl.ext (h : ASl H sh f v l) : ASl (H ++ T) sh f v l := At.ext h
theorem ASl.up (h : ASl H sh f v l) (hH : ∀ (id : Nat) o, H[id]? = some o → H'[id]? = some o) : ASl H' sh f v l := At.up hH _ h
theorem ASl.idx (h : ASl H sh f v l) {i : Nat} {x : α} (hx : l[i]? = some x) (hs : sh.size ≠ 0) : ∃ id o own cells,
  (∀ (e s b : Nat) (z : List V) (ty : Nat → LT) (k : IntKind), (ty e).size = sh.size → aqU ⟨.slice e, s, b, z⟩ ty (.val v) (.int k i) = some (.val (.ptr (some (id, o))))) ∧
  H[id]? = some (.mk own sh.size cells) ∧ o + sh.size ≤ cells.length ∧ At H sh ((cells.drop o).take sh.size) (f x) :=
 h.sl.idx (by rw [List.getElem?_map, hx]; rfl) hs
theorem Sl.typed (hf : ∀ cs u, At H sh cs u → ∃ x : α, u = f x) {us : List U} {n : Nat} (h : Sl H n (At H sh) v us) : ∃ l : List α, us = l.map f := by
 have h2 : ∀ u ∈ us, ∃ x : α, u = f x := by
  intro u hu
  rcases h with ⟨_, rfl⟩ | ⟨id, off, own, cells, _, _, _, h4⟩
  ·cases hu
  ·obtain ⟨i, hi, rfl⟩ := List.getElem_of_mem hu
   exact hf _ _ (h4 i _ (List.getElem?_eq_getElem hi))
 clear h
 induction us with
 | nil => exact ⟨[], rfl⟩
 | cons u us ih =>
  obtain ⟨x, rfl⟩ := h2 u List.mem_cons_self
  obtain ⟨l, rfl⟩ := ih fun w hw => h2 w (List.mem_cons_of_mem _ hw)
  exact ⟨x :: l, rfl⟩
theorem ASl.typed (hf : ∀ cs u, At H sh cs u → ∃ x : α, u = f x) {cs : List V} {u : U} (h : At H (.slice sh) cs u) : ∃ v l, cs = [v] ∧ u = .lst (l.map f) ∧ ASl H sh f v l := by
 have h0 := h
 obtain ⟨v, us, rfl, rfl, _, hs⟩ := apM.1 h
 obtain ⟨l, rfl⟩ := Sl.typed hf hs
 exact ⟨v, l, rfl, rfl, h0⟩
theorem aA5 {cs : List V} {u : U} (h : At H (.slice .str) cs u) : ∃ v l, cs = [v] ∧ u = .lst (l.map awM) ∧ AStrs H v l :=
 ASl.typed (fun cs u h => by obtain ⟨s, _, rfl, _⟩ := ap1.1 h; exact ⟨s, rfl⟩) h
theorem aEw {cs : List V} {r : PRdn} : At H shRdn cs r.u ↔ cs = [.str r.attr, .str r.value] ∧ r.attr.length ≤ maxLen ∧ r.value.length ≤ maxLen := by
 constructor
 ·intro h
  obtain ⟨us, hu, h⟩ := aqj.1 h
  cases hu
  obtain ⟨c1, c2, u1, us1, rfl, hu, h1, h⟩ := akp.1 h
  cases hu
  obtain ⟨c3, c4, u2, us2, rfl, hu, h2, h⟩ := akp.1 h
  cases hu
  obtain ⟨rfl, _⟩ := apW.1 h
  obtain ⟨s, rfl, hs, w1⟩ := ap1.1 h1
  cases hs
  obtain ⟨s, rfl, hs, w2⟩ := ap1.1 h2
  cases hs
  exact ⟨rfl, w1, w2⟩
 ·rintro ⟨rfl, h1, h2⟩
  exact aqj.2 ⟨_, rfl, akp.2 ⟨[_], _, _, _, rfl, rfl, ap1.2 ⟨_, rfl, rfl, h1⟩, akp.2 ⟨[_], _, _, _, rfl, rfl, ap1.2 ⟨_, rfl, rfl, h2⟩, apW.2 ⟨rfl, rfl⟩⟩⟩⟩
theorem ayc {cs : List V} {u : U} (h : At H shRdn cs u) : ∃ r : PRdn, u = r.u := by
 replace h := aqj.1 h
 obtain ⟨us, rfl, h⟩ := h
 obtain ⟨c1, c2, u1, us1, rfl, rfl, h1, h⟩ := akp.1 h
 obtain ⟨c3, c4, u2, us2, rfl, rfl, h2, h⟩ := akp.1 h
 obtain ⟨rfl, rfl⟩ := apW.1 h
 obtain ⟨s, rfl, rfl, w1⟩ := ap1.1 h1
 obtain ⟨t, rfl, rfl, w2⟩ := ap1.1 h2
 exact ⟨⟨s, t⟩, rfl⟩
theorem aFc {cs : List V} {a : PAttr} : At H shAttr cs a.u ↔ ∃ v, cs = [.str a.name, v] ∧ a.name.length ≤ maxLen ∧ AStrs H v a.vals := by
 constructor
 ·intro h
  obtain ⟨us, hu, h⟩ := aqj.1 h
  cases hu
  obtain ⟨c1, c2, u1, us1, rfl, hu, h1, h⟩ := akp.1 h
  cases hu
  obtain ⟨c3, c4, u2, us2, rfl, hu, h2, h⟩ := akp.1 h
  cases hu
  obtain ⟨rfl, _⟩ := apW.1 h
  obtain ⟨s, rfl, hs, w1⟩ := ap1.1 h1
  cases hs
  obtain ⟨v, _, rfl, _⟩ := apM.1 h2
  exact ⟨v, rfl, w1, h2⟩
 ·rintro ⟨v, rfl, h1, h2⟩
  exact aqj.2 ⟨_, rfl, akp.2 ⟨[_], _, _, _, rfl, rfl, ap1.2 ⟨_, rfl, rfl, h1⟩, akp.2 ⟨[_], _, _, _, rfl, rfl, h2, apW.2 ⟨rfl, rfl⟩⟩⟩⟩
theorem aA4 {cs : List V} {u : U} (h : At H shAttr cs u) : ∃ r : PAttr, u = r.u := by
 replace h := aqj.1 h
 obtain ⟨us, rfl, h⟩ := h
 obtain ⟨c1, c2, u1, us1, rfl, rfl, h1, h⟩ := akp.1 h
 obtain ⟨c3, c4, u2, us2, rfl, rfl, h2, h⟩ := akp.1 h
 obtain ⟨rfl, rfl⟩ := apW.1 h
 obtain ⟨s, rfl, rfl, w1⟩ := ap1.1 h1
 obtain ⟨v, l, rfl, rfl, _⟩ := aA5 h2
 exact ⟨⟨s, l⟩, rfl⟩
theorem auZ {cs : List V} {e : PEntry} : At H shEntry cs e.u ↔ ∃ v1 v2, cs = [v1, v2] ∧ aq2 H v1 e.dn ∧ aqO H v2 e.attrs := by
 constructor
 ·intro h
  obtain ⟨us, hu, h⟩ := aqj.1 h
  cases hu
  obtain ⟨c1, c2, u1, us1, rfl, hu, h1, h⟩ := akp.1 h
  cases hu
  obtain ⟨c3, c4, u2, us2, rfl, hu, h2, h⟩ := akp.1 h
  cases hu
  obtain ⟨rfl, _⟩ := apW.1 h
  obtain ⟨v1, _, rfl, _⟩ := apM.1 h1
  obtain ⟨v2, _, rfl, _⟩ := apM.1 h2
  exact ⟨v1, v2, rfl, h1, h2⟩
 ·rintro ⟨v1, v2, rfl, h1, h2⟩
  exact aqj.2 ⟨_, rfl, akp.2 ⟨[_], _, _, _, rfl, rfl, h1, akp.2 ⟨[_], _, _, _, rfl, rfl, h2, apW.2 ⟨rfl, rfl⟩⟩⟩⟩
theorem azL {cs : List V} {u : U} (h : At H shEntry cs u) : ∃ r : PEntry, u = r.u := by
 replace h := aqj.1 h
 obtain ⟨us, rfl, h⟩ := h
 obtain ⟨c1, c2, u1, us1, rfl, rfl, h1, h⟩ := akp.1 h
 obtain ⟨c3, c4, u2, us2, rfl, rfl, h2, h⟩ := akp.1 h
 obtain ⟨rfl, rfl⟩ := apW.1 h
 obtain ⟨v, l, rfl, rfl, _⟩ := ASl.typed (fun _ _ => ayc) h1
 obtain ⟨v', l', rfl, rfl, _⟩ := ASl.typed (fun _ _ => aA4) h2
 exact ⟨⟨l, l'⟩, rfl⟩
theorem aqG {xs : List Str} (h : AStrs H v xs) {i : Nat} {s : Str} (hx : xs[i]? = some s) : ∃ id o,
  (∀ (e s b : Nat) (z : List V) (ty : Nat → LT) (k : IntKind), (ty e).size = 1 → aqU ⟨.slice e, s, b, z⟩ ty (.val v) (.int k i) = some (.val (.ptr (some (id, o))))) ∧
  (∀ T : LT, T.one → ∀ r c, loadAt T ⟨r, c, H⟩ (.hp id o) = some (.str s)) ∧ s.length ≤ maxLen := by
 obtain ⟨id, o, own, cells, e1, e2, e3, e4⟩ := ASl.idx h hx (by decide)
 obtain ⟨t, e4, ht, e5⟩ := ap1.1 e4
 cases ht
 exact ⟨id, o, e1, aqt e2 (by simpa using aqh e4 (j := 0) rfl), e5⟩
theorem aAD {xs : List PRdn} (h : aq2 H v xs) {i : Nat} {x : PRdn} (hx : xs[i]? = some x) : ∃ id o,
  (∀ (e s b : Nat) (z : List V) (ty : Nat → LT) (k : IntKind), (ty e).size = 2 → aqU ⟨.slice e, s, b, z⟩ ty (.val v) (.int k i) = some (.val (.ptr (some (id, o))))) ∧
  (∀ T : LT, T.one → ∀ r c, loadAt T ⟨r, c, H⟩ (.hp id o) = some (.str x.attr)) ∧ (∀ T : LT, T.one → ∀ r c, loadAt T ⟨r, c, H⟩ (.hp id (o + 1)) = some (.str x.value)) ∧
  (∀ T : LT, T.many 2 → ∀ r c, loadAt T ⟨r, c, H⟩ (.hp id o) = some (.agg [.str x.attr, .str x.value])) ∧ At H shRdn [.str x.attr, .str x.value] x.u := by
 obtain ⟨id, o, own, cells, e1, e2, e3, e4⟩ := ASl.idx h hx (by decide)
 have e6 := e4
 obtain ⟨e4, e5⟩ := aEw.1 e4
 rw [e4] at e6
 exact ⟨id, o, e1, aqt e2 (by simpa using aqh e4 (j := 0) rfl), aqt e2 (by simpa using aqh e4 (j := 1) rfl), awf e2 e3 (by decide) e4, e6⟩
theorem ary {xs : List PAttr} (h : aqO H v xs) {i : Nat} {x : PAttr} (hx : xs[i]? = some x) : ∃ id o w,
  (∀ (e s b : Nat) (z : List V) (ty : Nat → LT) (k : IntKind), (ty e).size = 2 → aqU ⟨.slice e, s, b, z⟩ ty (.val v) (.int k i) = some (.val (.ptr (some (id, o))))) ∧
  (∀ T : LT, T.one → ∀ r c, loadAt T ⟨r, c, H⟩ (.hp id o) = some (.str x.name)) ∧ (∀ T : LT, T.one → ∀ r c, loadAt T ⟨r, c, H⟩ (.hp id (o + 1)) = some w) ∧
  (∀ T : LT, T.many 2 → ∀ r c, loadAt T ⟨r, c, H⟩ (.hp id o) = some (.agg [.str x.name, w])) ∧ AStrs H w x.vals ∧ At H shAttr [.str x.name, w] x.u ∧ x.name.length ≤ maxLen := by
 obtain ⟨id, o, own, cells, e1, e2, e3, e4⟩ := ASl.idx h hx (by decide)
 have e6 := e4
 obtain ⟨w, e4, e7, e5⟩ := aFc.1 e4
 rw [e4] at e6
 exact ⟨id, o, w, e1, aqt e2 (by simpa using aqh e4 (j := 0) rfl), aqt e2 (by simpa using aqh e4 (j := 1) rfl), awf e2 e3 (by decide) e4, e5, e6, e7⟩
end
end Go.Lite
end
