/- Part 07 of the proof of a law: the interpreter, its soundness, and what functions of the program compute over it. Conditions: none but those that each theorem names. -/
import Derived.Test.YtamgeahibepfnaaGreatDoorP06
import Derived.KernelRfl

set_option linter.all false
set_option maxRecDepth 20000
set_option maxHeartbeats 40000000
section
namespace Go.Proofs.Try1
open Go Go.Lite
noncomputable def C : Ctx := ctxOf Tryz.prog tabs
@[simp] theorem ty2 : C.ty 2 = ⟨.int .i64, 1, 8, [.int .i64 0]⟩ := by kernel_rfl
@[simp] theorem ty3 : C.ty 3 = ⟨.int .i64, 1, 8, [.int .i64 0]⟩ := by kernel_rfl
@[simp] theorem ty4 : C.ty 4 = ⟨.bool, 1, 1, [.bool false]⟩ := by kernel_rfl
@[simp] theorem ty5 : C.ty 5 = ⟨.int .u8, 1, 1, [.int .u8 0]⟩ := by kernel_rfl
@[simp] theorem ty9 : C.ty 9 = ⟨.str, 1, 16, [.str []]⟩ := by kernel_rfl
@[simp] theorem apF : C.ty 21 = ⟨.int .i32, 1, 4, [.int .i32 0]⟩ := by kernel_rfl
@[simp] theorem ae6 : C.ty 22 = ⟨.slice 99, 1, 24, [.slc none 0]⟩ := by kernel_rfl
@[simp] theorem adJ : C.ty 27 = ⟨.slice 178, 1, 24, [.slc none 0]⟩ := by kernel_rfl
@[simp] theorem Ol : C.ty 29 = ⟨.struct [(0, 22), (1, 27)], 2, 48, [.slc none 0, .slc none 0]⟩ := by kernel_rfl
@[simp] theorem apL : C.ty 30 = ⟨.slice 9, 1, 24, [.slc none 0]⟩ := by kernel_rfl
@[simp] theorem Wl : C.ty 35 = ⟨.slice 102, 1, 24, [.slc none 0]⟩ := by kernel_rfl
@[simp] theorem adk : C.ty 41 = ⟨.slice 188, 1, 24, [.slc none 0]⟩ := by kernel_rfl
@[simp] theorem Vl : C.ty 43 = ⟨.struct [(0, 35), (1, 41)], 2, 48, [.slc none 0, .slc none 0]⟩ := by kernel_rfl
@[simp] theorem afx : C.ty 55 = ⟨.slice 227, 1, 24, [.slc none 0]⟩ := by kernel_rfl
@[simp] theorem aaH : C.ty 56 = ⟨.slice 29, 1, 24, [.slc none 0]⟩ := by kernel_rfl
@[simp] theorem apO : C.ty 58 = ⟨.struct [(0, 55), (1, 56)], 2, 48, [.slc none 0, .slc none 0]⟩ := by kernel_rfl
@[simp] theorem XL : C.ty 67 = ⟨.slice 232, 1, 24, [.slc none 0]⟩ := by kernel_rfl
@[simp] theorem ad1 : C.ty 68 = ⟨.slice 43, 1, 24, [.slc none 0]⟩ := by kernel_rfl
@[simp] theorem apH : C.ty 70 = ⟨.struct [(0, 67), (1, 68)], 2, 48, [.slc none 0, .slc none 0]⟩ := by kernel_rfl
@[simp] theorem apP : C.ty 84 = ⟨.struct [(0, 70), (2, 68), (3, 2)], 4, 80, [.slc none 0, .slc none 0, .slc none 0, .int .i64 0]⟩ := by kernel_rfl
@[simp] theorem OC : C.ty 99 = ⟨.struct [(0, 9), (1, 9)], 2, 32, [.str [], .str []]⟩ := by kernel_rfl
@[simp] theorem IR : C.ty 102 = ⟨.struct [(0, 9), (1, 9)], 2, 32, [.str [], .str []]⟩ := by kernel_rfl
@[simp] theorem Vz : C.ty 105 = ⟨.slice 167, 1, 24, [.slc none 0]⟩ := by kernel_rfl
@[simp] theorem VF : C.ty 108 = ⟨.slice 169, 1, 24, [.slc none 0]⟩ := by kernel_rfl
@[simp] theorem apu : C.ty 116 = ⟨.func, 1, 8, [.nilfn]⟩ := by kernel_rfl
@[simp] theorem apg : C.ty 121 = ⟨.ptr, 1, 8, [.ptr none]⟩ := by kernel_rfl
@[simp] theorem apt : C.ty 130 = ⟨.func, 1, 8, [.nilfn]⟩ := by kernel_rfl
@[simp] theorem apy : C.ty 150 = ⟨.func, 1, 8, [.nilfn]⟩ := by kernel_rfl
@[simp] theorem apC : C.ty 160 = ⟨.func, 1, 8, [.nilfn]⟩ := by kernel_rfl
@[simp] theorem apr : C.ty 162 = ⟨.ptr, 1, 8, [.ptr none]⟩ := by kernel_rfl
@[simp] theorem aph : C.ty 164 = ⟨.func, 1, 8, [.nilfn]⟩ := by kernel_rfl
@[simp] theorem CX : C.ty 167 = ⟨.struct [(0, 2), (1, 9), (2, 30)], 3, 48, [.int .i64 0, .str [], .slc none 0]⟩ := by kernel_rfl
@[simp] theorem NC : C.ty 169 = ⟨.struct [(0, 2), (1, 9), (2, 30)], 3, 48, [.int .i64 0, .str [], .slc none 0]⟩ := by kernel_rfl
@[simp] theorem CW : C.ty 178 = ⟨.struct [(0, 9), (1, 30)], 2, 40, [.str [], .slc none 0]⟩ := by kernel_rfl
@[simp] theorem Na : C.ty 188 = ⟨.struct [(0, 9), (1, 30)], 2, 40, [.str [], .slc none 0]⟩ := by kernel_rfl
@[simp] theorem Cf : C.ty 227 = ⟨.struct [(0, 9), (1, 30), (2, 30), (3, 30)], 4, 88, [.str [], .slc none 0, .slc none 0, .slc none 0]⟩ := by kernel_rfl
@[simp] theorem MK : C.ty 232 = ⟨.struct [(0, 9), (1, 30), (2, 30), (3, 30)], 4, 88, [.str [], .slc none 0, .slc none 0, .slc none 0]⟩ := by kernel_rfl
@[simp] theorem apl : C.ty 234 = ⟨.slice 35, 1, 24, [.slc none 0]⟩ := by kernel_rfl
@[simp] theorem Zr : C.ty 242 = ⟨.slice 5, 1, 24, [.slc none 0]⟩ := by kernel_rfl
@[simp] theorem apB : C.ty 249 = ⟨.struct [(0, 43), (2, 2)], 3, 56, [.slc none 0, .slc none 0, .int .i64 0]⟩ := by kernel_rfl
@[simp] theorem apz : C.ty 262 = ⟨.func, 1, 8, [.nilfn]⟩ := by kernel_rfl
@[simp] theorem apn : C.ty 277 = ⟨.slice 30, 1, 24, [.slc none 0]⟩ := by kernel_rfl
@[simp] theorem apw : C.ty 280 = ⟨.func, 1, 8, [.nilfn]⟩ := by kernel_rfl
@[simp] theorem apA : C.ty 294 = ⟨.func, 1, 8, [.nilfn]⟩ := by kernel_rfl
@[simp] theorem aps : C.ty 297 = ⟨.func, 1, 8, [.nilfn]⟩ := by kernel_rfl
@[simp] theorem apk : C.ty 309 = ⟨.array 256 4, 256, 256, List.replicate 256 (.bool false)⟩ := by kernel_rfl
@[simp] theorem apm : C.ty 313 = ⟨.ptr, 1, 8, [.ptr none]⟩ := by kernel_rfl
@[simp] theorem apq : C.ty 348 = ⟨.int .u64, 1, 8, [.int .u64 0]⟩ := by kernel_rfl
@[simp] theorem api : C.ty 362 = ⟨.func, 1, 8, [.nilfn]⟩ := by kernel_rfl
@[simp] theorem apj : C.ty 381 = ⟨.array 256 5, 256, 256, List.replicate 256 (.int .u8 0)⟩ := by kernel_rfl
@[simp] theorem apx : C.ty 383 = ⟨.struct [(0, 5), (1, 5)], 2, 2, [.int .u8 0, .int .u8 0]⟩ := by kernel_rfl
@[simp] theorem apo : C.ty 384 = ⟨.array 16 383, 32, 32, List.replicate 32 (.int .u8 0)⟩ := by kernel_rfl
noncomputable def Di : Code := match Tryz.f8.body with | some c => c | none => .skip
theorem fi8 : C.fids 8 = true := by kernel_rfl
theorem bo8 : Tryz.f8.body = some Di := rfl
theorem pr8 : C.prim 8 = none := rfl
theorem fu8 : C.funcs 8 = some Tryz.f8 := Tryz.func8
theorem op8 {a : List V} {H : List Ob} {R : V → List Ob → Prop} : Ret C 8 a H R ↔ WP C 8 Di ⟨ae a, 0, H⟩ (aB C Tryz.f8 H R) := ah pr8 fi8 fu8 bo8
@[simp] theorem apv : C.locs 8 = [3, 8, 9, 12, 16] := by kernel_rfl
noncomputable def AB : Code := match Tryz.f10.body with | some c => c | none => .skip
theorem amJ : C.fids 10 = true := by kernel_rfl
theorem ala : Tryz.f10.body = some AB := rfl
theorem anZ : C.prim 10 = none := rfl
theorem amZ : C.funcs 10 = some Tryz.f10 := Tryz.func10
theorem VK {a : List V} {H : List Ob} {R : V → List Ob → Prop} : Ret C 10 a H R ↔ WP C 10 AB ⟨ae a, 0, H⟩ (aB C Tryz.f10 H R) := ah anZ amJ amZ ala
@[simp] theorem amn : C.locs 10 = [2] := by kernel_rfl
noncomputable def DF : Code := match Tryz.f11.body with | some c => c | none => .skip
theorem ak7 : C.fids 11 = true := by kernel_rfl
theorem alI : Tryz.f11.body = some DF := rfl
theorem anU : C.prim 11 = none := rfl
theorem alL : C.funcs 11 = some Tryz.f11 := Tryz.func11
theorem anC {a : List V} {H : List Ob} {R : V → List Ob → Prop} : Ret C 11 a H R ↔ WP C 11 DF ⟨ae a, 0, H⟩ (aB C Tryz.f11 H R) := ah anU ak7 alL alI
@[simp] theorem alU : C.locs 11 = [] := by kernel_rfl
noncomputable def JW : Code := match Tryz.f14.body with | some c => c | none => .skip
theorem amR : C.fids 14 = true := by kernel_rfl
theorem alp : Tryz.f14.body = some JW := rfl
theorem alP : C.prim 14 = none := rfl
theorem aol : C.funcs 14 = some Tryz.f14 := Tryz.func14
theorem ams {a : List V} {H : List Ob} {R : V → List Ob → Prop} : Ret C 14 a H R ↔ WP C 14 JW ⟨ae a, 0, H⟩ (aB C Tryz.f14 H R) := ah alP amR aol alp
@[simp] theorem aox : C.locs 14 = [1, 2, 3] := by kernel_rfl
noncomputable def Mc : Code := match Tryz.f15.body with | some c => c | none => .skip
theorem ani : C.fids 15 = true := by kernel_rfl
theorem alh : Tryz.f15.body = some Mc := rfl
theorem anh : C.prim 15 = none := rfl
theorem amm : C.funcs 15 = some Tryz.f15 := Tryz.func15
theorem anV {a : List V} {H : List Ob} {R : V → List Ob → Prop} : Ret C 15 a H R ↔ WP C 15 Mc ⟨ae a, 0, H⟩ (aB C Tryz.f15 H R) := ah anh ani amm alh
@[simp] theorem aoo : C.locs 15 = [] := by kernel_rfl
noncomputable def Bh : Code := match Tryz.f18.body with | some c => c | none => .skip
theorem aoE : C.fids 18 = true := by kernel_rfl
theorem amH : Tryz.f18.body = some Bh := rfl
theorem anI : C.prim 18 = none := rfl
theorem al8 : C.funcs 18 = some Tryz.f18 := Tryz.func18
theorem Wy {a : List V} {H : List Ob} {R : V → List Ob → Prop} : Ret C 18 a H R ↔ WP C 18 Bh ⟨ae a, 0, H⟩ (aB C Tryz.f18 H R) := ah anI aoE al8 amH
@[simp] theorem aly : C.locs 18 = [2, 3] := by kernel_rfl
noncomputable def GH : Code := match Tryz.f19.body with | some c => c | none => .skip
theorem anY : C.fids 19 = true := by kernel_rfl
theorem amv : Tryz.f19.body = some GH := rfl
theorem aom : C.prim 19 = none := rfl
theorem anL : C.funcs 19 = some Tryz.f19 := Tryz.func19
theorem amk {a : List V} {H : List Ob} {R : V → List Ob → Prop} : Ret C 19 a H R ↔ WP C 19 GH ⟨ae a, 0, H⟩ (aB C Tryz.f19 H R) := ah aom anY anL amv
@[simp] theorem ane : C.locs 19 = [] := by kernel_rfl
noncomputable def zM : Code := match Tryz.f28.body with | some c => c | none => .skip
theorem aoa : C.fids 28 = true := by kernel_rfl
theorem alM : Tryz.f28.body = some zM := rfl
theorem amW : C.prim 28 = none := rfl
theorem aoG : C.funcs 28 = some Tryz.f28 := Tryz.func28
theorem V6 {a : List V} {H : List Ob} {R : V → List Ob → Prop} : Ret C 28 a H R ↔ WP C 28 zM ⟨ae a, 0, H⟩ (aB C Tryz.f28 H R) := ah amW aoa aoG alM
@[simp] theorem anb : C.locs 28 = [2] := by kernel_rfl
noncomputable def xE : Code := match Tryz.f29.body with | some c => c | none => .skip
theorem anX : C.fids 29 = true := by kernel_rfl
theorem anR : Tryz.f29.body = some xE := rfl
theorem ao2 : C.prim 29 = none := rfl
theorem aoK : C.funcs 29 = some Tryz.f29 := Tryz.func29
theorem aok {a : List V} {H : List Ob} {R : V → List Ob → Prop} : Ret C 29 a H R ↔ WP C 29 xE ⟨ae a, 0, H⟩ (aB C Tryz.f29 H R) := ah ao2 anX aoK anR
@[simp] theorem amj : C.locs 29 = [] := by kernel_rfl
noncomputable def Kr : Code := match Tryz.f32.body with | some c => c | none => .skip
theorem al2 : C.fids 32 = true := by kernel_rfl
theorem anj : Tryz.f32.body = some Kr := rfl
theorem alJ : C.prim 32 = none := rfl
theorem ak1 : C.funcs 32 = some Tryz.f32 := Tryz.func32
theorem anG {a : List V} {H : List Ob} {R : V → List Ob → Prop} : Ret C 32 a H R ↔ WP C 32 Kr ⟨ae a, 0, H⟩ (aB C Tryz.f32 H R) := ah alJ al2 ak1 anj
@[simp] theorem am4 : C.locs 32 = [1, 2, 3] := by kernel_rfl
noncomputable def Am : Code := match Tryz.f33.body with | some c => c | none => .skip
theorem amF : C.fids 33 = true := by kernel_rfl
theorem al3 : Tryz.f33.body = some Am := rfl
theorem ame : C.prim 33 = none := rfl
theorem amI : C.funcs 33 = some Tryz.f33 := Tryz.func33
theorem anT {a : List V} {H : List Ob} {R : V → List Ob → Prop} : Ret C 33 a H R ↔ WP C 33 Am ⟨ae a, 0, H⟩ (aB C Tryz.f33 H R) := ah ame amF amI al3
@[simp] theorem ao4 : C.locs 33 = [] := by kernel_rfl
noncomputable def xO : Code := match Tryz.f36.body with | some c => c | none => .skip
theorem aob : C.fids 36 = true := by kernel_rfl
theorem aoO : Tryz.f36.body = some xO := rfl
theorem aoe : C.prim 36 = none := rfl
theorem ale : C.funcs 36 = some Tryz.f36 := Tryz.func36
theorem Vq {a : List V} {H : List Ob} {R : V → List Ob → Prop} : Ret C 36 a H R ↔ WP C 36 xO ⟨ae a, 0, H⟩ (aB C Tryz.f36 H R) := ah aoe aob ale aoO
@[simp] theorem ao3 : C.locs 36 = [2, 3] := by kernel_rfl
noncomputable def zH : Code := match Tryz.f37.body with | some c => c | none => .skip
theorem alX : C.fids 37 = true := by kernel_rfl
theorem amg : Tryz.f37.body = some zH := rfl
theorem aoB : C.prim 37 = none := rfl
theorem alA : C.funcs 37 = some Tryz.f37 := Tryz.func37
theorem Wj {a : List V} {H : List Ob} {R : V → List Ob → Prop} : Ret C 37 a H R ↔ WP C 37 zH ⟨ae a, 0, H⟩ (aB C Tryz.f37 H R) := ah aoB alX alA amg
@[simp] theorem aoI : C.locs 37 = [2, 3] := by kernel_rfl
noncomputable def xm : Code := match Tryz.f38.body with | some c => c | none => .skip
theorem an5 : C.fids 38 = true := by kernel_rfl
theorem al1 : Tryz.f38.body = some xm := rfl
theorem aoz : C.prim 38 = none := rfl
theorem aoW : C.funcs 38 = some Tryz.f38 := Tryz.func38
theorem anA {a : List V} {H : List Ob} {R : V → List Ob → Prop} : Ret C 38 a H R ↔ WP C 38 xm ⟨ae a, 0, H⟩ (aB C Tryz.f38 H R) := ah aoz an5 aoW al1
@[simp] theorem am3 : C.locs 38 = [] := by kernel_rfl
noncomputable def Kt : Code := match Tryz.f40.body with | some c => c | none => .skip
theorem anv : C.fids 40 = true := by kernel_rfl
theorem alb : Tryz.f40.body = some Kt := rfl
theorem aoh : C.prim 40 = none := rfl
theorem amh : C.funcs 40 = some Tryz.f40 := Tryz.func40
theorem aon {a : List V} {H : List Ob} {R : V → List Ob → Prop} : Ret C 40 a H R ↔ WP C 40 Kt ⟨ae a, 0, H⟩ (aB C Tryz.f40 H R) := ah aoh anv amh alb
@[simp] theorem ali : C.locs 40 = [2] := by kernel_rfl
noncomputable def Lh : Code := match Tryz.f41.body with | some c => c | none => .skip
theorem amQ : C.fids 41 = true := by kernel_rfl
theorem an1 : Tryz.f41.body = some Lh := rfl
theorem ang : C.prim 41 = none := rfl
theorem ao8 : C.funcs 41 = some Tryz.f41 := Tryz.func41
theorem an2 {a : List V} {H : List Ob} {R : V → List Ob → Prop} : Ret C 41 a H R ↔ WP C 41 Lh ⟨ae a, 0, H⟩ (aB C Tryz.f41 H R) := ah ang amQ ao8 an1
@[simp] theorem alT : C.locs 41 = [] := by kernel_rfl
noncomputable def KU : Code := match Tryz.f43.body with | some c => c | none => .skip
theorem aou : C.fids 43 = true := by kernel_rfl
theorem alV : Tryz.f43.body = some KU := rfl
theorem anJ : C.prim 43 = none := rfl
theorem amN : C.funcs 43 = some Tryz.f43 := Tryz.func43
theorem ald {a : List V} {H : List Ob} {R : V → List Ob → Prop} : Ret C 43 a H R ↔ WP C 43 KU ⟨ae a, 0, H⟩ (aB C Tryz.f43 H R) := ah anJ aou amN alV
@[simp] theorem ana : C.locs 43 = [2] := by kernel_rfl
noncomputable def JV : Code := match Tryz.f44.body with | some c => c | none => .skip
theorem ama : C.fids 44 = true := by kernel_rfl
theorem anx : Tryz.f44.body = some JV := rfl
theorem alH : C.prim 44 = none := rfl
theorem ant : C.funcs 44 = some Tryz.f44 := Tryz.func44
theorem alx {a : List V} {H : List Ob} {R : V → List Ob → Prop} : Ret C 44 a H R ↔ WP C 44 JV ⟨ae a, 0, H⟩ (aB C Tryz.f44 H R) := ah alH ama ant anx
@[simp] theorem alc : C.locs 44 = [2] := by kernel_rfl
noncomputable def zZ : Code := match Tryz.f45.body with | some c => c | none => .skip
theorem anP : C.fids 45 = true := by kernel_rfl
theorem amX : Tryz.f45.body = some zZ := rfl
theorem ank : C.prim 45 = none := rfl
theorem anr : C.funcs 45 = some Tryz.f45 := Tryz.func45
theorem VZ {a : List V} {H : List Ob} {R : V → List Ob → Prop} : Ret C 45 a H R ↔ WP C 45 zZ ⟨ae a, 0, H⟩ (aB C Tryz.f45 H R) := ah ank anP anr amX
@[simp] theorem alB : C.locs 45 = [2] := by kernel_rfl
noncomputable def LH : Code := match Tryz.f47.body with | some c => c | none => .skip
theorem aml : C.fids 47 = true := by kernel_rfl
theorem alu : Tryz.f47.body = some LH := rfl
theorem amf : C.prim 47 = none := rfl
theorem als : C.funcs 47 = some Tryz.f47 := Tryz.func47
theorem aop {a : List V} {H : List Ob} {R : V → List Ob → Prop} : Ret C 47 a H R ↔ WP C 47 LH ⟨ae a, 0, H⟩ (aB C Tryz.f47 H R) := ah amf aml als alu
@[simp] theorem alG : C.locs 47 = [1, 2, 3] := by kernel_rfl
noncomputable def J6 : Code := match Tryz.f49.body with | some c => c | none => .skip
theorem amq : C.fids 49 = true := by kernel_rfl
theorem aoQ : Tryz.f49.body = some J6 := rfl
theorem anq : C.prim 49 = none := rfl
theorem anz : C.funcs 49 = some Tryz.f49 := Tryz.func49
theorem alD {a : List V} {H : List Ob} {R : V → List Ob → Prop} : Ret C 49 a H R ↔ WP C 49 J6 ⟨ae a, 0, H⟩ (aB C Tryz.f49 H R) := ah anq amq anz aoQ
@[simp] theorem ao6 : C.locs 49 = [] := by kernel_rfl
noncomputable def rE : Code := match Tryz.f50.body with | some c => c | none => .skip
theorem alj : C.fids 50 = true := by kernel_rfl
theorem apf : Tryz.f50.body = some rE := rfl
theorem alS : C.prim 50 = none := rfl
theorem ak9 : C.funcs 50 = some Tryz.f50 := Tryz.func50
theorem amE {a : List V} {H : List Ob} {R : V → List Ob → Prop} : Ret C 50 a H R ↔ WP C 50 rE ⟨ae a, 0, H⟩ (aB C Tryz.f50 H R) := ah alS alj ak9 apf
@[simp] theorem amU : C.locs 50 = [3, 6] := by kernel_rfl
noncomputable def LV : Code := match Tryz.f51.body with | some c => c | none => .skip
theorem alo : C.fids 51 = true := by kernel_rfl
theorem alW : Tryz.f51.body = some LV := rfl
theorem alz : C.prim 51 = none := rfl
theorem anB : C.funcs 51 = some Tryz.f51 := Tryz.func51
theorem ao9 {a : List V} {H : List Ob} {R : V → List Ob → Prop} : Ret C 51 a H R ↔ WP C 51 LV ⟨ae a, 0, H⟩ (aB C Tryz.f51 H R) := ah alz alo anB alW
@[simp] theorem aoC : C.locs 51 = [] := by kernel_rfl
noncomputable def xR : Code := match Tryz.f52.body with | some c => c | none => .skip
theorem amS : C.fids 52 = true := by kernel_rfl
theorem aov : Tryz.f52.body = some xR := rfl
theorem aoD : C.prim 52 = none := rfl
theorem ak0 : C.funcs 52 = some Tryz.f52 := Tryz.func52
theorem apc {a : List V} {H : List Ob} {R : V → List Ob → Prop} : Ret C 52 a H R ↔ WP C 52 xR ⟨ae a, 0, H⟩ (aB C Tryz.f52 H R) := ah aoD amS ak0 aov
@[simp] theorem amc : C.locs 52 = [6] := by kernel_rfl
noncomputable def LP : Code := match Tryz.f53.body with | some c => c | none => .skip
theorem ak6 : C.fids 53 = true := by kernel_rfl
theorem aoX : Tryz.f53.body = some LP := rfl
theorem anS : C.prim 53 = none := rfl
theorem anO : C.funcs 53 = some Tryz.f53 := Tryz.func53
theorem amK {a : List V} {H : List Ob} {R : V → List Ob → Prop} : Ret C 53 a H R ↔ WP C 53 LP ⟨ae a, 0, H⟩ (aB C Tryz.f53 H R) := ah anS ak6 anO aoX
@[simp] theorem ak5 : C.locs 53 = [] := by kernel_rfl
noncomputable def Kq : Code := match Tryz.f54.body with | some c => c | none => .skip
theorem ak3 : C.fids 54 = true := by kernel_rfl
theorem al0 : Tryz.f54.body = some Kq := rfl
theorem anD : C.prim 54 = none := rfl
theorem anM : C.funcs 54 = some Tryz.f54 := Tryz.func54
theorem an3 {a : List V} {H : List Ob} {R : V → List Ob → Prop} : Ret C 54 a H R ↔ WP C 54 Kq ⟨ae a, 0, H⟩ (aB C Tryz.f54 H R) := ah anD ak3 anM al0
@[simp] theorem alQ : C.locs 54 = [] := by kernel_rfl
noncomputable def LJ : Code := match Tryz.f56.body with | some c => c | none => .skip
theorem aow : C.fids 56 = true := by kernel_rfl
theorem aoZ : Tryz.f56.body = some LJ := rfl
theorem alO : C.prim 56 = none := rfl
theorem ao0 : C.funcs 56 = some Tryz.f56 := Tryz.func56
theorem aoN {a : List V} {H : List Ob} {R : V → List Ob → Prop} : Ret C 56 a H R ↔ WP C 56 LJ ⟨ae a, 0, H⟩ (aB C Tryz.f56 H R) := ah alO aow ao0 aoZ
@[simp] theorem anf : C.locs 56 = [] := by kernel_rfl
noncomputable def xq : Code := match Tryz.f58.body with | some c => c | none => .skip
theorem ak4 : C.fids 58 = true := by kernel_rfl
theorem aoq : Tryz.f58.body = some xq := rfl
theorem ak2 : C.prim 58 = none := rfl
theorem alq : C.funcs 58 = some Tryz.f58 := Tryz.func58
theorem aot {a : List V} {H : List Ob} {R : V → List Ob → Prop} : Ret C 58 a H R ↔ WP C 58 xq ⟨ae a, 0, H⟩ (aB C Tryz.f58 H R) := ah ak2 ak4 alq aoq
@[simp] theorem an7 : C.locs 58 = [1] := by kernel_rfl
noncomputable def Ko : Code := match Tryz.f59.body with | some c => c | none => .skip
theorem amy : C.fids 59 = true := by kernel_rfl
theorem anH : Tryz.f59.body = some Ko := rfl
theorem aoY : C.prim 59 = none := rfl
theorem aoy : C.funcs 59 = some Tryz.f59 := Tryz.func59
theorem anK {a : List V} {H : List Ob} {R : V → List Ob → Prop} : Ret C 59 a H R ↔ WP C 59 Ko ⟨ae a, 0, H⟩ (aB C Tryz.f59 H R) := ah aoY amy aoy anH
@[simp] theorem amV : C.locs 59 = [] := by kernel_rfl
noncomputable def MB : Code := match Tryz.f62.body with | some c => c | none => .skip
theorem amA : C.fids 62 = true := by kernel_rfl
theorem alf : Tryz.f62.body = some MB := rfl
theorem alK : C.prim 62 = none := rfl
theorem ami : C.funcs 62 = some Tryz.f62 := Tryz.func62
theorem aod {a : List V} {H : List Ob} {R : V → List Ob → Prop} : Ret C 62 a H R ↔ WP C 62 MB ⟨ae a, 0, H⟩ (aB C Tryz.f62 H R) := ah alK amA ami alf
@[simp] theorem aoP : C.locs 62 = [] := by kernel_rfl
noncomputable def xn : Code := match Tryz.f65.body with | some c => c | none => .skip
theorem aoH : C.fids 65 = true := by kernel_rfl
theorem aoF : Tryz.f65.body = some xn := rfl
theorem ape : C.prim 65 = none := rfl
theorem amC : C.funcs 65 = some Tryz.f65 := Tryz.func65
theorem ao7 {a : List V} {H : List Ob} {R : V → List Ob → Prop} : Ret C 65 a H R ↔ WP C 65 xn ⟨ae a, 0, H⟩ (aB C Tryz.f65 H R) := ah ape aoH amC aoF
@[simp] theorem an8 : C.locs 65 = [1, 4] := by kernel_rfl
noncomputable def JF : Code := match Tryz.f66.body with | some c => c | none => .skip
theorem alN : C.fids 66 = true := by kernel_rfl
theorem amb : Tryz.f66.body = some JF := rfl
theorem aog : C.prim 66 = none := rfl
theorem alr : C.funcs 66 = some Tryz.f66 := Tryz.func66
theorem alY {a : List V} {H : List Ob} {R : V → List Ob → Prop} : Ret C 66 a H R ↔ WP C 66 JF ⟨ae a, 0, H⟩ (aB C Tryz.f66 H R) := ah aog alN alr amb
@[simp] theorem anc : C.locs 66 = [] := by kernel_rfl
noncomputable def J9 : Code := match Tryz.f69.body with | some c => c | none => .skip
theorem aoR : C.fids 69 = true := by kernel_rfl
theorem al5 : Tryz.f69.body = some J9 := rfl
theorem ak8 : C.prim 69 = none := rfl
theorem anE : C.funcs 69 = some Tryz.f69 := Tryz.func69
theorem amL {a : List V} {H : List Ob} {R : V → List Ob → Prop} : Ret C 69 a H R ↔ WP C 69 J9 ⟨ae a, 0, H⟩ (aB C Tryz.f69 H R) := ah ak8 aoR anE al5
@[simp] theorem alC : C.locs 69 = [] := by kernel_rfl
noncomputable def Az : Code := match Tryz.f74.body with | some c => c | none => .skip
theorem akZ : C.fids 74 = true := by kernel_rfl
theorem amu : Tryz.f74.body = some Az := rfl
theorem ao5 : C.prim 74 = none := rfl
theorem aoM : C.funcs 74 = some Tryz.f74 := Tryz.func74
theorem alk {a : List V} {H : List Ob} {R : V → List Ob → Prop} : Ret C 74 a H R ↔ WP C 74 Az ⟨ae a, 0, H⟩ (aB C Tryz.f74 H R) := ah ao5 akZ aoM amu
@[simp] theorem aoi : C.locs 74 = [1, 4] := by kernel_rfl
noncomputable def nz : Code := match Tryz.f77.body with | some c => c | none => .skip
theorem VW : C.fids 77 = true := by kernel_rfl
theorem VV : Tryz.f77.body = some nz := rfl
theorem VM : C.prim 77 = none := rfl
theorem V8 : C.funcs 77 = some Tryz.f77 := Tryz.func77
theorem V4 {a : List V} {H : List Ob} {R : V → List Ob → Prop} : Ret C 77 a H R ↔ WP C 77 nz ⟨ae a, 0, H⟩ (aB C Tryz.f77 H R) := ah VM VW V8 VV
@[simp] theorem WC : C.locs 77 = [] := by kernel_rfl
noncomputable def zB : Code := match Tryz.f80.body with | some c => c | none => .skip
theorem aoJ : C.fids 80 = true := by kernel_rfl
theorem apd : Tryz.f80.body = some zB := rfl
theorem anQ : C.prim 80 = none := rfl
theorem alE : C.funcs 80 = some Tryz.f80 := Tryz.func80
theorem alv {a : List V} {H : List Ob} {R : V → List Ob → Prop} : Ret C 80 a H R ↔ WP C 80 zB ⟨ae a, 0, H⟩ (aB C Tryz.f80 H R) := ah anQ aoJ alE apd
@[simp] theorem am6 : C.locs 80 = [4] := by kernel_rfl
noncomputable def rP : Code := match Tryz.f83.body with | some c => c | none => .skip
theorem amr : C.fids 83 = true := by kernel_rfl
theorem aof : Tryz.f83.body = some rP := rfl
theorem al9 : C.prim 83 = none := rfl
theorem aoL : C.funcs 83 = some Tryz.f83 := Tryz.func83
theorem aoA {a : List V} {H : List Ob} {R : V → List Ob → Prop} : Ret C 83 a H R ↔ WP C 83 rP ⟨ae a, 0, H⟩ (aB C Tryz.f83 H R) := ah al9 amr aoL aof
@[simp] theorem aoU : C.locs 83 = [] := by kernel_rfl
noncomputable def Ld : Code := match Tryz.f86.body with | some c => c | none => .skip
theorem alR : C.fids 86 = true := by kernel_rfl
theorem ann : Tryz.f86.body = some Ld := rfl
theorem amo : C.prim 86 = none := rfl
theorem an0 : C.funcs 86 = some Tryz.f86 := Tryz.func86
theorem amM {a : List V} {H : List Ob} {R : V → List Ob → Prop} : Ret C 86 a H R ↔ WP C 86 Ld ⟨ae a, 0, H⟩ (aB C Tryz.f86 H R) := ah amo alR an0 ann
@[simp] theorem am7 : C.locs 86 = [] := by kernel_rfl
noncomputable def JK : Code := match Tryz.f87.body with | some c => c | none => .skip
theorem anu : C.fids 87 = true := by kernel_rfl
theorem anm : Tryz.f87.body = some JK := rfl
theorem amB : C.prim 87 = none := rfl
theorem an9 : C.funcs 87 = some Tryz.f87 := Tryz.func87
theorem aos {a : List V} {H : List Ob} {R : V → List Ob → Prop} : Ret C 87 a H R ↔ WP C 87 JK ⟨ae a, 0, H⟩ (aB C Tryz.f87 H R) := ah amB anu an9 anm
@[simp] theorem am8 : C.locs 87 = [] := by kernel_rfl
noncomputable def JI : Code := match Tryz.f89.body with | some c => c | none => .skip
theorem ano : C.fids 89 = true := by kernel_rfl
theorem anF : Tryz.f89.body = some JI := rfl
theorem anl : C.prim 89 = none := rfl
theorem an4 : C.funcs 89 = some Tryz.f89 := Tryz.func89
theorem am2 {a : List V} {H : List Ob} {R : V → List Ob → Prop} : Ret C 89 a H R ↔ WP C 89 JI ⟨ae a, 0, H⟩ (aB C Tryz.f89 H R) := ah anl ano an4 anF
@[simp] theorem apb : C.locs 89 = [2] := by kernel_rfl
noncomputable def Ky : Code := match Tryz.f90.body with | some c => c | none => .skip
theorem am1 : C.fids 90 = true := by kernel_rfl
theorem am9 : Tryz.f90.body = some Ky := rfl
theorem alm : C.prim 90 = none := rfl
theorem am5 : C.funcs 90 = some Tryz.f90 := Tryz.func90
theorem al6 {a : List V} {H : List Ob} {R : V → List Ob → Prop} : Ret C 90 a H R ↔ WP C 90 Ky ⟨ae a, 0, H⟩ (aB C Tryz.f90 H R) := ah alm am1 am5 am9
@[simp] theorem an6 : C.locs 90 = [] := by kernel_rfl
noncomputable def Af : Code := match Tryz.f92.body with | some c => c | none => .skip
theorem al4 : C.fids 92 = true := by kernel_rfl
theorem apa : Tryz.f92.body = some Af := rfl
theorem amw : C.prim 92 = none := rfl
theorem al7 : C.funcs 92 = some Tryz.f92 := Tryz.func92
theorem alZ {a : List V} {H : List Ob} {R : V → List Ob → Prop} : Ret C 92 a H R ↔ WP C 92 Af ⟨ae a, 0, H⟩ (aB C Tryz.f92 H R) := ah amw al4 al7 apa
@[simp] theorem aor : C.locs 92 = [] := by kernel_rfl
noncomputable def JP : Code := match Tryz.f94.body with | some c => c | none => .skip
theorem amz : C.fids 94 = true := by kernel_rfl
theorem amd : Tryz.f94.body = some JP := rfl
theorem alF : C.prim 94 = none := rfl
theorem amG : C.funcs 94 = some Tryz.f94 := Tryz.func94
theorem aoj {a : List V} {H : List Ob} {R : V → List Ob → Prop} : Ret C 94 a H R ↔ WP C 94 JP ⟨ae a, 0, H⟩ (aB C Tryz.f94 H R) := ah alF amz amG amd
@[simp] theorem anp : C.locs 94 = [] := by kernel_rfl
noncomputable def JY : Code := match Tryz.f95.body with | some c => c | none => .skip
theorem aoV : C.fids 95 = true := by kernel_rfl
theorem anW : Tryz.f95.body = some JY := rfl
theorem amO : C.prim 95 = none := rfl
theorem aoT : C.funcs 95 = some Tryz.f95 := Tryz.func95
theorem ao1 {a : List V} {H : List Ob} {R : V → List Ob → Prop} : Ret C 95 a H R ↔ WP C 95 JY ⟨ae a, 0, H⟩ (aB C Tryz.f95 H R) := ah amO aoV aoT anW
@[simp] theorem amx : C.locs 95 = [] := by kernel_rfl
noncomputable def JH : Code := match Tryz.f98.body with | some c => c | none => .skip
theorem anN : C.fids 98 = true := by kernel_rfl
theorem alg : Tryz.f98.body = some JH := rfl
theorem amY : C.prim 98 = none := rfl
theorem amT : C.funcs 98 = some Tryz.f98 := Tryz.func98
theorem anw {a : List V} {H : List Ob} {R : V → List Ob → Prop} : Ret C 98 a H R ↔ WP C 98 JH ⟨ae a, 0, H⟩ (aB C Tryz.f98 H R) := ah amY anN amT alg
@[simp] theorem aoS : C.locs 98 = [] := by kernel_rfl
noncomputable def FT : Code := match Tryz.f103.body with | some c => c | none => .skip
theorem acO : C.fids 103 = true := by kernel_rfl
theorem aho : Tryz.f103.body = some FT := rfl
theorem Z7 : C.prim 103 = none := rfl
theorem agh : C.funcs 103 = some Tryz.f103 := Tryz.func103
theorem afz {a : List V} {H : List Ob} {R : V → List Ob → Prop} : Ret C 103 a H R ↔ WP C 103 FT ⟨ae a, 0, H⟩ (aB C Tryz.f103 H R) := ah Z7 acO agh aho
@[simp] theorem akJ : C.locs 103 = [] := by kernel_rfl
noncomputable def Dv : Code := match Tryz.f104.body with | some c => c | none => .skip
theorem agK : C.fids 104 = true := by kernel_rfl
theorem aeF : Tryz.f104.body = some Dv := rfl
theorem ach : C.prim 104 = none := rfl
theorem ab1 : C.funcs 104 = some Tryz.f104 := Tryz.func104
theorem Zi {a : List V} {H : List Ob} {R : V → List Ob → Prop} : Ret C 104 a H R ↔ WP C 104 Dv ⟨ae a, 0, H⟩ (aB C Tryz.f104 H R) := ah ach agK ab1 aeF
@[simp] theorem ajg : C.locs 104 = [] := by kernel_rfl
noncomputable def vz : Code := match Tryz.f105.body with | some c => c | none => .skip
theorem ait : C.fids 105 = true := by kernel_rfl
theorem Yv : Tryz.f105.body = some vz := rfl
theorem adp : C.prim 105 = none := rfl
theorem Yq : C.funcs 105 = some Tryz.f105 := Tryz.func105
theorem TA {a : List V} {H : List Ob} {R : V → List Ob → Prop} : Ret C 105 a H R ↔ WP C 105 vz ⟨ae a, 0, H⟩ (aB C Tryz.f105 H R) := ah adp ait Yq Yv
@[simp] theorem ajq : C.locs 105 = [2, 3] := by kernel_rfl
noncomputable def GU : Code := match Tryz.f107.body with | some c => c | none => .skip
theorem aa4 : C.fids 107 = true := by kernel_rfl
theorem ZK : Tryz.f107.body = some GU := rfl
theorem ahp : C.prim 107 = none := rfl
theorem abX : C.funcs 107 = some Tryz.f107 := Tryz.func107
theorem aeM {a : List V} {H : List Ob} {R : V → List Ob → Prop} : Ret C 107 a H R ↔ WP C 107 GU ⟨ae a, 0, H⟩ (aB C Tryz.f107 H R) := ah ahp aa4 abX ZK
@[simp] theorem akH : C.locs 107 = [] := by kernel_rfl
noncomputable def E5 : Code := match Tryz.f108.body with | some c => c | none => .skip
theorem aed : C.fids 108 = true := by kernel_rfl
theorem ahl : Tryz.f108.body = some E5 := rfl
theorem aax : C.prim 108 = none := rfl
theorem agQ : C.funcs 108 = some Tryz.f108 := Tryz.func108
theorem aav {a : List V} {H : List Ob} {R : V → List Ob → Prop} : Ret C 108 a H R ↔ WP C 108 E5 ⟨ae a, 0, H⟩ (aB C Tryz.f108 H R) := ah aax aed agQ ahl
@[simp] theorem aiG : C.locs 108 = [] := by kernel_rfl
noncomputable def zg : Code := match Tryz.f109.body with | some c => c | none => .skip
theorem aam : C.fids 109 = true := by kernel_rfl
theorem agC : Tryz.f109.body = some zg := rfl
theorem abq : C.prim 109 = none := rfl
theorem adi : C.funcs 109 = some Tryz.f109 := Tryz.func109
theorem abr {a : List V} {H : List Ob} {R : V → List Ob → Prop} : Ret C 109 a H R ↔ WP C 109 zg ⟨ae a, 0, H⟩ (aB C Tryz.f109 H R) := ah abq aam adi agC
@[simp] theorem akv : C.locs 109 = [] := by kernel_rfl
noncomputable def ED : Code := match Tryz.f110.body with | some c => c | none => .skip
theorem ag6 : C.fids 110 = true := by kernel_rfl
theorem adq : Tryz.f110.body = some ED := rfl
theorem adX : C.prim 110 = none := rfl
theorem YH : C.funcs 110 = some Tryz.f110 := Tryz.func110
theorem XZ {a : List V} {H : List Ob} {R : V → List Ob → Prop} : Ret C 110 a H R ↔ WP C 110 ED ⟨ae a, 0, H⟩ (aB C Tryz.f110 H R) := ah adX ag6 YH adq
@[simp] theorem aj6 : C.locs 110 = [2] := by kernel_rfl
noncomputable def FM : Code := match Tryz.f111.body with | some c => c | none => .skip
theorem afn : C.fids 111 = true := by kernel_rfl
theorem acw : Tryz.f111.body = some FM := rfl
theorem Y6 : C.prim 111 = none := rfl
theorem aaL : C.funcs 111 = some Tryz.f111 := Tryz.func111
theorem abV {a : List V} {H : List Ob} {R : V → List Ob → Prop} : Ret C 111 a H R ↔ WP C 111 FM ⟨ae a, 0, H⟩ (aB C Tryz.f111 H R) := ah Y6 afn aaL acw
@[simp] theorem akL : C.locs 111 = [] := by kernel_rfl
noncomputable def wM : Code := match Tryz.f114.body with | some c => c | none => .skip
theorem abz : C.fids 114 = true := by kernel_rfl
theorem Zq : Tryz.f114.body = some wM := rfl
theorem acE : C.prim 114 = none := rfl
theorem aaX : C.funcs 114 = some Tryz.f114 := Tryz.func114
theorem afQ {a : List V} {H : List Ob} {R : V → List Ob → Prop} : Ret C 114 a H R ↔ WP C 114 wM ⟨ae a, 0, H⟩ (aB C Tryz.f114 H R) := ah acE abz aaX Zq
@[simp] theorem aj0 : C.locs 114 = [1] := by kernel_rfl
noncomputable def yP : Code := match Tryz.f115.body with | some c => c | none => .skip
theorem aaO : C.fids 115 = true := by kernel_rfl
theorem ah7 : Tryz.f115.body = some yP := rfl
theorem X8 : C.prim 115 = none := rfl
theorem acX : C.funcs 115 = some Tryz.f115 := Tryz.func115
theorem aaU {a : List V} {H : List Ob} {R : V → List Ob → Prop} : Ret C 115 a H R ↔ WP C 115 yP ⟨ae a, 0, H⟩ (aB C Tryz.f115 H R) := ah X8 aaO acX ah7
@[simp] theorem ajs : C.locs 115 = [2, 4] := by kernel_rfl
noncomputable def vS : Code := match Tryz.f118.body with | some c => c | none => .skip
theorem acV : C.fids 118 = true := by kernel_rfl
theorem XC : Tryz.f118.body = some vS := rfl
theorem aaQ : C.prim 118 = none := rfl
theorem adI : C.funcs 118 = some Tryz.f118 := Tryz.func118
theorem TF {a : List V} {H : List Ob} {R : V → List Ob → Prop} : Ret C 118 a H R ↔ WP C 118 vS ⟨ae a, 0, H⟩ (aB C Tryz.f118 H R) := ah aaQ acV adI XC
@[simp] theorem aje : C.locs 118 = [2] := by kernel_rfl
noncomputable def Gh : Code := match Tryz.f119.body with | some c => c | none => .skip
theorem aaW : C.fids 119 = true := by kernel_rfl
theorem abn : Tryz.f119.body = some Gh := rfl
theorem Xi : C.prim 119 = none := rfl
theorem ahV : C.funcs 119 = some Tryz.f119 := Tryz.func119
theorem X4 {a : List V} {H : List Ob} {R : V → List Ob → Prop} : Ret C 119 a H R ↔ WP C 119 Gh ⟨ae a, 0, H⟩ (aB C Tryz.f119 H R) := ah Xi aaW ahV abn
@[simp] theorem akr : C.locs 119 = [] := by kernel_rfl
noncomputable def sS : Code := match Tryz.f120.body with | some c => c | none => .skip
theorem aeZ : C.fids 120 = true := by kernel_rfl
theorem adG : Tryz.f120.body = some sS := rfl
theorem agi : C.prim 120 = none := rfl
theorem aih : C.funcs 120 = some Tryz.f120 := Tryz.func120
theorem Zy {a : List V} {H : List Ob} {R : V → List Ob → Prop} : Ret C 120 a H R ↔ WP C 120 sS ⟨ae a, 0, H⟩ (aB C Tryz.f120 H R) := ah agi aeZ aih adG
@[simp] theorem akh : C.locs 120 = [3, 6, 8, 10, 12] := by kernel_rfl
noncomputable def Ea : Code := match Tryz.f121.body with | some c => c | none => .skip
theorem ZY : C.fids 121 = true := by kernel_rfl
theorem agr : Tryz.f121.body = some Ea := rfl
theorem ZT : C.prim 121 = none := rfl
theorem aio : C.funcs 121 = some Tryz.f121 := Tryz.func121
theorem aiu {a : List V} {H : List Ob} {R : V → List Ob → Prop} : Ret C 121 a H R ↔ WP C 121 Ea ⟨ae a, 0, H⟩ (aB C Tryz.f121 H R) := ah ZT ZY aio agr
@[simp] theorem aiC : C.locs 121 = [1, 2, 3] := by kernel_rfl
noncomputable def yT : Code := match Tryz.f122.body with | some c => c | none => .skip
theorem agO : C.fids 122 = true := by kernel_rfl
theorem YA : Tryz.f122.body = some yT := rfl
theorem afq : C.prim 122 = none := rfl
theorem Xp : C.funcs 122 = some Tryz.f122 := Tryz.func122
theorem agY {a : List V} {H : List Ob} {R : V → List Ob → Prop} : Ret C 122 a H R ↔ WP C 122 yT ⟨ae a, 0, H⟩ (aB C Tryz.f122 H R) := ah afq agO Xp YA
@[simp] theorem aiz : C.locs 122 = [] := by kernel_rfl
noncomputable def wU : Code := match Tryz.f123.body with | some c => c | none => .skip
theorem ag3 : C.fids 123 = true := by kernel_rfl
theorem afB : Tryz.f123.body = some wU := rfl
theorem X9 : C.prim 123 = none := rfl
theorem ace : C.funcs 123 = some Tryz.f123 := Tryz.func123
theorem aar {a : List V} {H : List Ob} {R : V → List Ob → Prop} : Ret C 123 a H R ↔ WP C 123 wU ⟨ae a, 0, H⟩ (aB C Tryz.f123 H R) := ah X9 ag3 ace afB
@[simp] theorem ai8 : C.locs 123 = [] := by kernel_rfl
noncomputable def zh : Code := match Tryz.f124.body with | some c => c | none => .skip
theorem aev : C.fids 124 = true := by kernel_rfl
theorem afv : Tryz.f124.body = some zh := rfl
theorem Za : C.prim 124 = none := rfl
theorem agX : C.funcs 124 = some Tryz.f124 := Tryz.func124
theorem Xw {a : List V} {H : List Ob} {R : V → List Ob → Prop} : Ret C 124 a H R ↔ WP C 124 zh ⟨ae a, 0, H⟩ (aB C Tryz.f124 H R) := ah Za aev agX afv
@[simp] theorem akW : C.locs 124 = [] := by kernel_rfl
noncomputable def FD : Code := match Tryz.f125.body with | some c => c | none => .skip
theorem XU : C.fids 125 = true := by kernel_rfl
theorem aaF : Tryz.f125.body = some FD := rfl
theorem acH : C.prim 125 = none := rfl
theorem adM : C.funcs 125 = some Tryz.f125 := Tryz.func125
theorem aa1 {a : List V} {H : List Ob} {R : V → List Ob → Prop} : Ret C 125 a H R ↔ WP C 125 FD ⟨ae a, 0, H⟩ (aB C Tryz.f125 H R) := ah acH XU adM aaF
@[simp] theorem akI : C.locs 125 = [] := by kernel_rfl
noncomputable def vK : Code := match Tryz.f126.body with | some c => c | none => .skip
theorem agx : C.fids 126 = true := by kernel_rfl
theorem acA : Tryz.f126.body = some vK := rfl
theorem YY : C.prim 126 = none := rfl
theorem ahi : C.funcs 126 = some Tryz.f126 := Tryz.func126
theorem abt {a : List V} {H : List Ob} {R : V → List Ob → Prop} : Ret C 126 a H R ↔ WP C 126 vK ⟨ae a, 0, H⟩ (aB C Tryz.f126 H R) := ah YY agx ahi acA
@[simp] theorem akR : C.locs 126 = [11] := by kernel_rfl
noncomputable def sG : Code := match Tryz.f127.body with | some c => c | none => .skip
theorem aeu : C.fids 127 = true := by kernel_rfl
theorem aik : Tryz.f127.body = some sG := rfl
theorem acz : C.prim 127 = none := rfl
theorem agn : C.funcs 127 = some Tryz.f127 := Tryz.func127
theorem MM {a : List V} {H : List Ob} {R : V → List Ob → Prop} : Ret C 127 a H R ↔ WP C 127 sG ⟨ae a, 0, H⟩ (aB C Tryz.f127 H R) := ah acz aeu agn aik
@[simp] theorem aiZ : C.locs 127 = [2, 3] := by kernel_rfl
noncomputable def D7 : Code := match Tryz.f128.body with | some c => c | none => .skip
theorem ZA : C.fids 128 = true := by kernel_rfl
theorem Xj : Tryz.f128.body = some D7 := rfl
theorem aij : C.prim 128 = none := rfl
theorem ZQ : C.funcs 128 = some Tryz.f128 := Tryz.func128
theorem adz {a : List V} {H : List Ob} {R : V → List Ob → Prop} : Ret C 128 a H R ↔ WP C 128 D7 ⟨ae a, 0, H⟩ (aB C Tryz.f128 H R) := ah aij ZA ZQ Xj
@[simp] theorem aj7 : C.locs 128 = [] := by kernel_rfl
noncomputable def vC : Code := match Tryz.f130.body with | some c => c | none => .skip
theorem Yx : C.fids 130 = true := by kernel_rfl
theorem adf : Tryz.f130.body = some vC := rfl
theorem XO : C.prim 130 = none := rfl
theorem adT : C.funcs 130 = some Tryz.f130 := Tryz.func130
theorem PM {a : List V} {H : List Ob} {R : V → List Ob → Prop} : Ret C 130 a H R ↔ WP C 130 vC ⟨ae a, 0, H⟩ (aB C Tryz.f130 H R) := ah XO Yx adT adf
@[simp] theorem akx : C.locs 130 = [2] := by kernel_rfl
noncomputable def Ey : Code := match Tryz.f132.body with | some c => c | none => .skip
theorem Xv : C.fids 132 = true := by kernel_rfl
theorem XE : Tryz.f132.body = some Ey := rfl
theorem aco : C.prim 132 = none := rfl
theorem YJ : C.funcs 132 = some Tryz.f132 := Tryz.func132
theorem aes {a : List V} {H : List Ob} {R : V → List Ob → Prop} : Ret C 132 a H R ↔ WP C 132 Ey ⟨ae a, 0, H⟩ (aB C Tryz.f132 H R) := ah aco Xv YJ XE
@[simp] theorem ajR : C.locs 132 = [] := by kernel_rfl
noncomputable def DV : Code := match Tryz.f135.body with | some c => c | none => .skip
theorem Zb : C.fids 135 = true := by kernel_rfl
theorem ahu : Tryz.f135.body = some DV := rfl
theorem adY : C.prim 135 = none := rfl
theorem afe : C.funcs 135 = some Tryz.f135 := Tryz.func135
theorem agG {a : List V} {H : List Ob} {R : V → List Ob → Prop} : Ret C 135 a H R ↔ WP C 135 DV ⟨ae a, 0, H⟩ (aB C Tryz.f135 H R) := ah adY Zb afe ahu
@[simp] theorem akk : C.locs 135 = [] := by kernel_rfl
noncomputable def Gt : Code := match Tryz.f139.body with | some c => c | none => .skip
theorem ahP : C.fids 139 = true := by kernel_rfl
theorem Yh : Tryz.f139.body = some Gt := rfl
theorem ZJ : C.prim 139 = none := rfl
theorem Ye : C.funcs 139 = some Tryz.f139 := Tryz.func139
theorem ahj {a : List V} {H : List Ob} {R : V → List Ob → Prop} : Ret C 139 a H R ↔ WP C 139 Gt ⟨ae a, 0, H⟩ (aB C Tryz.f139 H R) := ah ZJ ahP Ye Yh
@[simp] theorem ajO : C.locs 139 = [1, 2, 3] := by kernel_rfl
noncomputable def wJ : Code := match Tryz.f140.body with | some c => c | none => .skip
theorem X5 : C.fids 140 = true := by kernel_rfl
theorem Yo : Tryz.f140.body = some wJ := rfl
theorem abW : C.prim 140 = none := rfl
theorem agb : C.funcs 140 = some Tryz.f140 := Tryz.func140
theorem Yk {a : List V} {H : List Ob} {R : V → List Ob → Prop} : Ret C 140 a H R ↔ WP C 140 wJ ⟨ae a, 0, H⟩ (aB C Tryz.f140 H R) := ah abW X5 agb Yo
@[simp] theorem akG : C.locs 140 = [] := by kernel_rfl
noncomputable def zi : Code := match Tryz.f142.body with | some c => c | none => .skip
theorem agS : C.fids 142 = true := by kernel_rfl
theorem agt : Tryz.f142.body = some zi := rfl
theorem XR : C.prim 142 = none := rfl
theorem ae2 : C.funcs 142 = some Tryz.f142 := Tryz.func142
theorem afh {a : List V} {H : List Ob} {R : V → List Ob → Prop} : Ret C 142 a H R ↔ WP C 142 zi ⟨ae a, 0, H⟩ (aB C Tryz.f142 H R) := ah XR agS ae2 agt
@[simp] theorem ajD : C.locs 142 = [] := by kernel_rfl
noncomputable def Ef : Code := match Tryz.f143.body with | some c => c | none => .skip
theorem X0 : C.fids 143 = true := by kernel_rfl
theorem acW : Tryz.f143.body = some Ef := rfl
theorem aap : C.prim 143 = none := rfl
theorem Y8 : C.funcs 143 = some Tryz.f143 := Tryz.func143
theorem X3 {a : List V} {H : List Ob} {R : V → List Ob → Prop} : Ret C 143 a H R ↔ WP C 143 Ef ⟨ae a, 0, H⟩ (aB C Tryz.f143 H R) := ah aap X0 Y8 acW
@[simp] theorem aja : C.locs 143 = [] := by kernel_rfl
noncomputable def vY : Code := match Tryz.f146.body with | some c => c | none => .skip
theorem abQ : C.fids 146 = true := by kernel_rfl
theorem aft : Tryz.f146.body = some vY := rfl
theorem af0 : C.prim 146 = none := rfl
theorem Zu : C.funcs 146 = some Tryz.f146 := Tryz.func146
theorem abB {a : List V} {H : List Ob} {R : V → List Ob → Prop} : Ret C 146 a H R ↔ WP C 146 vY ⟨ae a, 0, H⟩ (aB C Tryz.f146 H R) := ah af0 abQ Zu aft
@[simp] theorem aiV : C.locs 146 = [1] := by kernel_rfl
noncomputable def wC : Code := match Tryz.f150.body with | some c => c | none => .skip
theorem aeW : C.fids 150 = true := by kernel_rfl
theorem YL : Tryz.f150.body = some wC := rfl
theorem acM : C.prim 150 = none := rfl
theorem aa3 : C.funcs 150 = some Tryz.f150 := Tryz.func150
theorem SX {a : List V} {H : List Ob} {R : V → List Ob → Prop} : Ret C 150 a H R ↔ WP C 150 wC ⟨ae a, 0, H⟩ (aB C Tryz.f150 H R) := ah acM aeW aa3 YL
@[simp] theorem ajK : C.locs 150 = [2, 3] := by kernel_rfl
noncomputable def EM : Code := match Tryz.f159.body with | some c => c | none => .skip
theorem aej : C.fids 159 = true := by kernel_rfl
theorem ab7 : Tryz.f159.body = some EM := rfl
theorem WY : C.prim 159 = none := rfl
theorem acs : C.funcs 159 = some Tryz.f159 := Tryz.func159
theorem YT {a : List V} {H : List Ob} {R : V → List Ob → Prop} : Ret C 159 a H R ↔ WP C 159 EM ⟨ae a, 0, H⟩ (aB C Tryz.f159 H R) := ah WY aej acs ab7
@[simp] theorem aiN : C.locs 159 = [] := by kernel_rfl
noncomputable def vH : Code := match Tryz.f160.body with | some c => c | none => .skip
theorem ZC : C.fids 160 = true := by kernel_rfl
theorem ahX : Tryz.f160.body = some vH := rfl
theorem Yg : C.prim 160 = none := rfl
theorem abT : C.funcs 160 = some Tryz.f160 := Tryz.func160
theorem afE {a : List V} {H : List Ob} {R : V → List Ob → Prop} : Ret C 160 a H R ↔ WP C 160 vH ⟨ae a, 0, H⟩ (aB C Tryz.f160 H R) := ah Yg ZC abT ahX
@[simp] theorem akq : C.locs 160 = [3, 5, 9] := by kernel_rfl
noncomputable def Fh : Code := match Tryz.f161.body with | some c => c | none => .skip
theorem af1 : C.fids 161 = true := by kernel_rfl
theorem X7 : Tryz.f161.body = some Fh := rfl
theorem aa6 : C.prim 161 = none := rfl
theorem aaz : C.funcs 161 = some Tryz.f161 := Tryz.func161
theorem ZW {a : List V} {H : List Ob} {R : V → List Ob → Prop} : Ret C 161 a H R ↔ WP C 161 Fh ⟨ae a, 0, H⟩ (aB C Tryz.f161 H R) := ah aa6 af1 aaz X7
@[simp] theorem akE : C.locs 161 = [] := by kernel_rfl
noncomputable def Gz : Code := match Tryz.f162.body with | some c => c | none => .skip
theorem abh : C.fids 162 = true := by kernel_rfl
theorem aii : Tryz.f162.body = some Gz := rfl
theorem aeH : C.prim 162 = none := rfl
theorem ZG : C.funcs 162 = some Tryz.f162 := Tryz.func162
theorem adt {a : List V} {H : List Ob} {R : V → List Ob → Prop} : Ret C 162 a H R ↔ WP C 162 Gz ⟨ae a, 0, H⟩ (aB C Tryz.f162 H R) := ah aeH abh ZG aii
@[simp] theorem aiQ : C.locs 162 = [2] := by kernel_rfl
noncomputable def yI : Code := match Tryz.f168.body with | some c => c | none => .skip
theorem Zk : C.fids 168 = true := by kernel_rfl
theorem YS : Tryz.f168.body = some yI := rfl
theorem acf : C.prim 168 = none := rfl
theorem aeD : C.funcs 168 = some Tryz.f168 := Tryz.func168
theorem Ya {a : List V} {H : List Ob} {R : V → List Ob → Prop} : Ret C 168 a H R ↔ WP C 168 yI ⟨ae a, 0, H⟩ (aB C Tryz.f168 H R) := ah acf Zk aeD YS
@[simp] theorem aiL : C.locs 168 = [4] := by kernel_rfl
noncomputable def vU : Code := match Tryz.f169.body with | some c => c | none => .skip
theorem aa2 : C.fids 169 = true := by kernel_rfl
theorem abI : Tryz.f169.body = some vU := rfl
theorem ab5 : C.prim 169 = none := rfl
theorem acG : C.funcs 169 = some Tryz.f169 := Tryz.func169
theorem abP {a : List V} {H : List Ob} {R : V → List Ob → Prop} : Ret C 169 a H R ↔ WP C 169 vU ⟨ae a, 0, H⟩ (aB C Tryz.f169 H R) := ah ab5 aa2 acG abI
@[simp] theorem ai5 : C.locs 169 = [] := by kernel_rfl
noncomputable def yS : Code := match Tryz.f171.body with | some c => c | none => .skip
theorem abO : C.fids 171 = true := by kernel_rfl
theorem XT : Tryz.f171.body = some yS := rfl
theorem afS : C.prim 171 = none := rfl
theorem abo : C.funcs 171 = some Tryz.f171 := Tryz.func171
theorem agL {a : List V} {H : List Ob} {R : V → List Ob → Prop} : Ret C 171 a H R ↔ WP C 171 yS ⟨ae a, 0, H⟩ (aB C Tryz.f171 H R) := ah afS abO abo XT
@[simp] theorem aj3 : C.locs 171 = [] := by kernel_rfl
noncomputable def EX : Code := match Tryz.f172.body with | some c => c | none => .skip
theorem abl : C.fids 172 = true := by kernel_rfl
theorem acR : Tryz.f172.body = some EX := rfl
theorem adV : C.prim 172 = none := rfl
theorem Yy : C.funcs 172 = some Tryz.f172 := Tryz.func172
theorem aep {a : List V} {H : List Ob} {R : V → List Ob → Prop} : Ret C 172 a H R ↔ WP C 172 EX ⟨ae a, 0, H⟩ (aB C Tryz.f172 H R) := ah adV abl Yy acR
@[simp] theorem ai3 : C.locs 172 = [2] := by kernel_rfl
noncomputable def uZ : Code := match Tryz.f173.body with | some c => c | none => .skip
theorem air : C.fids 173 = true := by kernel_rfl
theorem adH : Tryz.f173.body = some uZ := rfl
theorem agI : C.prim 173 = none := rfl
theorem ad2 : C.funcs 173 = some Tryz.f173 := Tryz.func173
theorem aan {a : List V} {H : List Ob} {R : V → List Ob → Prop} : Ret C 173 a H R ↔ WP C 173 uZ ⟨ae a, 0, H⟩ (aB C Tryz.f173 H R) := ah agI air ad2 adH
@[simp] theorem ajd : C.locs 173 = [] := by kernel_rfl
noncomputable def qx : Code := match Tryz.f178.body with | some c => c | none => .skip
theorem agW : C.fids 178 = true := by kernel_rfl
theorem aeI : Tryz.f178.body = some qx := rfl
theorem ag8 : C.prim 178 = none := rfl
theorem abj : C.funcs 178 = some Tryz.f178 := Tryz.func178
theorem Vx {a : List V} {H : List Ob} {R : V → List Ob → Prop} : Ret C 178 a H R ↔ WP C 178 qx ⟨ae a, 0, H⟩ (aB C Tryz.f178 H R) := ah ag8 agW abj aeI
@[simp] theorem akc : C.locs 178 = [] := by kernel_rfl
noncomputable def GY : Code := match Tryz.f180.body with | some c => c | none => .skip
theorem agv : C.fids 180 = true := by kernel_rfl
theorem adD : Tryz.f180.body = some GY := rfl
theorem ahO : C.prim 180 = none := rfl
theorem Xb : C.funcs 180 = some Tryz.f180 := Tryz.func180
theorem ag0 {a : List V} {H : List Ob} {R : V → List Ob → Prop} : Ret C 180 a H R ↔ WP C 180 GY ⟨ae a, 0, H⟩ (aB C Tryz.f180 H R) := ah ahO agv Xb adD
@[simp] theorem aiI : C.locs 180 = [] := by kernel_rfl
noncomputable def qw : Code := match Tryz.f183.body with | some c => c | none => .skip
theorem agp : C.fids 183 = true := by kernel_rfl
theorem ad6 : Tryz.f183.body = some qw := rfl
theorem abg : C.prim 183 = none := rfl
theorem abZ : C.funcs 183 = some Tryz.f183 := Tryz.func183
theorem Jr {a : List V} {H : List Ob} {R : V → List Ob → Prop} : Ret C 183 a H R ↔ WP C 183 qw ⟨ae a, 0, H⟩ (aB C Tryz.f183 H R) := ah abg agp abZ ad6
@[simp] theorem akV : C.locs 183 = [2] := by kernel_rfl
noncomputable def ja : Code := match Tryz.f184.body with | some c => c | none => .skip
theorem SA : C.fids 184 = true := by kernel_rfl
theorem TG : Tryz.f184.body = some ja := rfl
theorem RG : C.prim 184 = none := rfl
theorem QQ : C.funcs 184 = some Tryz.f184 := Tryz.func184
theorem QN {a : List V} {H : List Ob} {R : V → List Ob → Prop} : Ret C 184 a H R ↔ WP C 184 ja ⟨ae a, 0, H⟩ (aB C Tryz.f184 H R) := ah RG SA QQ TG
@[simp] theorem UA : C.locs 184 = [] := by kernel_rfl
noncomputable def Eh : Code := match Tryz.f188.body with | some c => c | none => .skip
theorem ain : C.fids 188 = true := by kernel_rfl
theorem ais : Tryz.f188.body = some Eh := rfl
theorem ab8 : C.prim 188 = none := rfl
theorem aip : C.funcs 188 = some Tryz.f188 := Tryz.func188
theorem ahs {a : List V} {H : List Ob} {R : V → List Ob → Prop} : Ret C 188 a H R ↔ WP C 188 Eh ⟨ae a, 0, H⟩ (aB C Tryz.f188 H R) := ah ab8 ain aip ais
@[simp] theorem aiA : C.locs 188 = [1, 2, 3] := by kernel_rfl
noncomputable def Et : Code := match Tryz.f189.body with | some c => c | none => .skip
theorem aag : C.fids 189 = true := by kernel_rfl
theorem adc : Tryz.f189.body = some Et := rfl
theorem Zl : C.prim 189 = none := rfl
theorem agF : C.funcs 189 = some Tryz.f189 := Tryz.func189
theorem acj {a : List V} {H : List Ob} {R : V → List Ob → Prop} : Ret C 189 a H R ↔ WP C 189 Et ⟨ae a, 0, H⟩ (aB C Tryz.f189 H R) := ah Zl aag agF adc
@[simp] theorem ajT : C.locs 189 = [1, 2, 3] := by kernel_rfl
noncomputable def Dz : Code := match Tryz.f190.body with | some c => c | none => .skip
theorem Yi : C.fids 190 = true := by kernel_rfl
theorem afK : Tryz.f190.body = some Dz := rfl
theorem afc : C.prim 190 = none := rfl
theorem Z9 : C.funcs 190 = some Tryz.f190 := Tryz.func190
theorem XM {a : List V} {H : List Ob} {R : V → List Ob → Prop} : Ret C 190 a H R ↔ WP C 190 Dz ⟨ae a, 0, H⟩ (aB C Tryz.f190 H R) := ah afc Yi Z9 afK
@[simp] theorem ajU : C.locs 190 = [] := by kernel_rfl
noncomputable def ER : Code := match Tryz.f192.body with | some c => c | none => .skip
theorem acQ : C.fids 192 = true := by kernel_rfl
theorem ah4 : Tryz.f192.body = some ER := rfl
theorem ZB : C.prim 192 = none := rfl
theorem acl : C.funcs 192 = some Tryz.f192 := Tryz.func192
theorem aea {a : List V} {H : List Ob} {R : V → List Ob → Prop} : Ret C 192 a H R ↔ WP C 192 ER ⟨ae a, 0, H⟩ (aB C Tryz.f192 H R) := ah ZB acQ acl ah4
@[simp] theorem ajN : C.locs 192 = [] := by kernel_rfl
noncomputable def GZ : Code := match Tryz.f195.body with | some c => c | none => .skip
theorem aaq : C.fids 195 = true := by kernel_rfl
theorem afV : Tryz.f195.body = some GZ := rfl
theorem XA : C.prim 195 = none := rfl
theorem Yw : C.funcs 195 = some Tryz.f195 := Tryz.func195
theorem ahd {a : List V} {H : List Ob} {R : V → List Ob → Prop} : Ret C 195 a H R ↔ WP C 195 GZ ⟨ae a, 0, H⟩ (aB C Tryz.f195 H R) := ah XA aaq Yw afV
@[simp] theorem akK : C.locs 195 = [1, 2, 3, 5] := by kernel_rfl
noncomputable def qE : Code := match Tryz.f196.body with | some c => c | none => .skip
theorem Yt : C.fids 196 = true := by kernel_rfl
theorem acm : Tryz.f196.body = some qE := rfl
theorem aaZ : C.prim 196 = none := rfl
theorem acp : C.funcs 196 = some Tryz.f196 := Tryz.func196
theorem Hu {a : List V} {H : List Ob} {R : V → List Ob → Prop} : Ret C 196 a H R ↔ WP C 196 qE ⟨ae a, 0, H⟩ (aB C Tryz.f196 H R) := ah aaZ Yt acp acm
@[simp] theorem ajZ : C.locs 196 = [2, 3] := by kernel_rfl
noncomputable def EK : Code := match Tryz.f197.body with | some c => c | none => .skip
theorem Xm : C.fids 197 = true := by kernel_rfl
theorem agm : Tryz.f197.body = some EK := rfl
theorem acd : C.prim 197 = none := rfl
theorem aas : C.funcs 197 = some Tryz.f197 := Tryz.func197
theorem Z8 {a : List V} {H : List Ob} {R : V → List Ob → Prop} : Ret C 197 a H R ↔ WP C 197 EK ⟨ae a, 0, H⟩ (aB C Tryz.f197 H R) := ah acd Xm aas agm
@[simp] theorem akM : C.locs 197 = [] := by kernel_rfl
noncomputable def Gf : Code := match Tryz.f198.body with | some c => c | none => .skip
theorem af7 : C.fids 198 = true := by kernel_rfl
theorem adl : Tryz.f198.body = some Gf := rfl
theorem Xo : C.prim 198 = none := rfl
theorem YX : C.funcs 198 = some Tryz.f198 := Tryz.func198
theorem ahv {a : List V} {H : List Ob} {R : V → List Ob → Prop} : Ret C 198 a H R ↔ WP C 198 Gf ⟨ae a, 0, H⟩ (aB C Tryz.f198 H R) := ah Xo af7 YX adl
@[simp] theorem akQ : C.locs 198 = [] := by kernel_rfl
noncomputable def Fz : Code := match Tryz.f199.body with | some c => c | none => .skip
theorem ahW : C.fids 199 = true := by kernel_rfl
theorem aia : Tryz.f199.body = some Fz := rfl
theorem abE : C.prim 199 = none := rfl
theorem ahL : C.funcs 199 = some Tryz.f199 := Tryz.func199
theorem adg {a : List V} {H : List Ob} {R : V → List Ob → Prop} : Ret C 199 a H R ↔ WP C 199 Fz ⟨ae a, 0, H⟩ (aB C Tryz.f199 H R) := ah abE ahW ahL aia
@[simp] theorem aiJ : C.locs 199 = [] := by kernel_rfl
noncomputable def DX : Code := match Tryz.f200.body with | some c => c | none => .skip
theorem acC : C.fids 200 = true := by kernel_rfl
theorem af8 : Tryz.f200.body = some DX := rfl
theorem ac6 : C.prim 200 = none := rfl
theorem aib : C.funcs 200 = some Tryz.f200 := Tryz.func200
theorem ahF {a : List V} {H : List Ob} {R : V → List Ob → Prop} : Ret C 200 a H R ↔ WP C 200 DX ⟨ae a, 0, H⟩ (aB C Tryz.f200 H R) := ah ac6 acC aib af8
@[simp] theorem ajh : C.locs 200 = [] := by kernel_rfl
noncomputable def vg : Code := match Tryz.f203.body with | some c => c | none => .skip
theorem aaE : C.fids 203 = true := by kernel_rfl
theorem ab2 : Tryz.f203.body = some vg := rfl
theorem agd : C.prim 203 = none := rfl
theorem ag5 : C.funcs 203 = some Tryz.f203 := Tryz.func203
theorem ae9 {a : List V} {H : List Ob} {R : V → List Ob → Prop} : Ret C 203 a H R ↔ WP C 203 vg ⟨ae a, 0, H⟩ (aB C Tryz.f203 H R) := ah agd aaE ag5 ab2
@[simp] theorem ajS : C.locs 203 = [3] := by kernel_rfl
noncomputable def qB : Code := match Tryz.f204.body with | some c => c | none => .skip
theorem aiw : C.fids 204 = true := by kernel_rfl
theorem aaN : Tryz.f204.body = some qB := rfl
theorem Yr : C.prim 204 = none := rfl
theorem ahw : C.funcs 204 = some Tryz.f204 := Tryz.func204
theorem ada {a : List V} {H : List Ob} {R : V → List Ob → Prop} : Ret C 204 a H R ↔ WP C 204 qB ⟨ae a, 0, H⟩ (aB C Tryz.f204 H R) := ah Yr aiw ahw aaN
@[simp] theorem akU : C.locs 204 = [3, 6] := by kernel_rfl
noncomputable def jc : Code := match Tryz.f207.body with | some c => c | none => .skip
theorem SS : C.fids 207 = true := by kernel_rfl
theorem Pz : Tryz.f207.body = some jc := rfl
theorem Qw : C.prim 207 = none := rfl
theorem SY : C.funcs 207 = some Tryz.f207 := Tryz.func207
theorem RI {a : List V} {H : List Ob} {R : V → List Ob → Prop} : Ret C 207 a H R ↔ WP C 207 jc ⟨ae a, 0, H⟩ (aB C Tryz.f207 H R) := ah Qw SS SY Pz
@[simp] theorem U9 : C.locs 207 = [] := by kernel_rfl
noncomputable def EN : Code := match Tryz.f208.body with | some c => c | none => .skip
theorem ahM : C.fids 208 = true := by kernel_rfl
theorem afk : Tryz.f208.body = some EN := rfl
theorem aac : C.prim 208 = none := rfl
theorem aeX : C.funcs 208 = some Tryz.f208 := Tryz.func208
theorem abu {a : List V} {H : List Ob} {R : V → List Ob → Prop} : Ret C 208 a H R ↔ WP C 208 EN ⟨ae a, 0, H⟩ (aB C Tryz.f208 H R) := ah aac ahM aeX afk
@[simp] theorem aiD : C.locs 208 = [1, 2] := by kernel_rfl
noncomputable def zl : Code := match Tryz.f210.body with | some c => c | none => .skip
theorem afm : C.fids 210 = true := by kernel_rfl
theorem acB : Tryz.f210.body = some zl := rfl
theorem ah0 : C.prim 210 = none := rfl
theorem YZ : C.funcs 210 = some Tryz.f210 := Tryz.func210
theorem aa9 {a : List V} {H : List Ob} {R : V → List Ob → Prop} : Ret C 210 a H R ↔ WP C 210 zl ⟨ae a, 0, H⟩ (aB C Tryz.f210 H R) := ah ah0 afm YZ acB
@[simp] theorem aku : C.locs 210 = [] := by kernel_rfl
noncomputable def kJ : Code := match Tryz.f211.body with | some c => c | none => .skip
theorem PY : C.fids 211 = true := by kernel_rfl
theorem Qp : Tryz.f211.body = some kJ := rfl
theorem QS : C.prim 211 = none := rfl
theorem Qd : C.funcs 211 = some Tryz.f211 := Tryz.func211
theorem QZ {a : List V} {H : List Ob} {R : V → List Ob → Prop} : Ret C 211 a H R ↔ WP C 211 kJ ⟨ae a, 0, H⟩ (aB C Tryz.f211 H R) := ah QS PY Qd Qp
@[simp] theorem Vd : C.locs 211 = [] := by kernel_rfl
noncomputable def qj : Code := match Tryz.f212.body with | some c => c | none => .skip
theorem acg : C.fids 212 = true := by kernel_rfl
theorem aef : Tryz.f212.body = some qj := rfl
theorem abH : C.prim 212 = none := rfl
theorem aak : C.funcs 212 = some Tryz.f212 := Tryz.func212
theorem ae7 {a : List V} {H : List Ob} {R : V → List Ob → Prop} : Ret C 212 a H R ↔ WP C 212 qj ⟨ae a, 0, H⟩ (aB C Tryz.f212 H R) := ah abH acg aak aef
@[simp] theorem aiM : C.locs 212 = [] := by kernel_rfl
noncomputable def uQ : Code := match Tryz.f213.body with | some c => c | none => .skip
theorem aer : C.fids 213 = true := by kernel_rfl
theorem aaP : Tryz.f213.body = some uQ := rfl
theorem Zp : C.prim 213 = none := rfl
theorem afu : C.funcs 213 = some Tryz.f213 := Tryz.func213
theorem acv {a : List V} {H : List Ob} {R : V → List Ob → Prop} : Ret C 213 a H R ↔ WP C 213 uQ ⟨ae a, 0, H⟩ (aB C Tryz.f213 H R) := ah Zp aer afu aaP
@[simp] theorem aji : C.locs 213 = [5, 8] := by kernel_rfl
noncomputable def oh : Code := match Tryz.f216.body with | some c => c | none => .skip
theorem Ze : C.fids 216 = true := by kernel_rfl
theorem adC : Tryz.f216.body = some oh := rfl
theorem aba : C.prim 216 = none := rfl
theorem ag7 : C.funcs 216 = some Tryz.f216 := Tryz.func216
theorem aay {a : List V} {H : List Ob} {R : V → List Ob → Prop} : Ret C 216 a H R ↔ WP C 216 oh ⟨ae a, 0, H⟩ (aB C Tryz.f216 H R) := ah aba Ze ag7 adC
@[simp] theorem ajP : C.locs 216 = [1] := by kernel_rfl
noncomputable def yU : Code := match Tryz.f217.body with | some c => c | none => .skip
theorem Yj : C.fids 217 = true := by kernel_rfl
theorem ahh : Tryz.f217.body = some yU := rfl
theorem aaC : C.prim 217 = none := rfl
theorem ac0 : C.funcs 217 = some Tryz.f217 := Tryz.func217
theorem adr {a : List V} {H : List Ob} {R : V → List Ob → Prop} : Ret C 217 a H R ↔ WP C 217 yU ⟨ae a, 0, H⟩ (aB C Tryz.f217 H R) := ah aaC Yj ac0 ahh
@[simp] theorem ajQ : C.locs 217 = [2, 3, 4, 6] := by kernel_rfl
noncomputable def Eu : Code := match Tryz.f218.body with | some c => c | none => .skip
theorem agj : C.fids 218 = true := by kernel_rfl
theorem agN : Tryz.f218.body = some Eu := rfl
theorem aaS : C.prim 218 = none := rfl
theorem XF : C.funcs 218 = some Tryz.f218 := Tryz.func218
theorem agP {a : List V} {H : List Ob} {R : V → List Ob → Prop} : Ret C 218 a H R ↔ WP C 218 Eu ⟨ae a, 0, H⟩ (aB C Tryz.f218 H R) := ah aaS agj XF agN
@[simp] theorem aix : C.locs 218 = [1, 2, 3] := by kernel_rfl
noncomputable def Fe : Code := match Tryz.f219.body with | some c => c | none => .skip
theorem abf : C.fids 219 = true := by kernel_rfl
theorem Y9 : Tryz.f219.body = some Fe := rfl
theorem YM : C.prim 219 = none := rfl
theorem ahR : C.funcs 219 = some Tryz.f219 := Tryz.func219
theorem ae8 {a : List V} {H : List Ob} {R : V → List Ob → Prop} : Ret C 219 a H R ↔ WP C 219 Fe ⟨ae a, 0, H⟩ (aB C Tryz.f219 H R) := ah YM abf ahR Y9
@[simp] theorem ajG : C.locs 219 = [] := by kernel_rfl
noncomputable def Ez : Code := match Tryz.f220.body with | some c => c | none => .skip
theorem Yd : C.fids 220 = true := by kernel_rfl
theorem XV : Tryz.f220.body = some Ez := rfl
theorem YR : C.prim 220 = none := rfl
theorem XP : C.funcs 220 = some Tryz.f220 := Tryz.func220
theorem ahZ {a : List V} {H : List Ob} {R : V → List Ob → Prop} : Ret C 220 a H R ↔ WP C 220 Ez ⟨ae a, 0, H⟩ (aB C Tryz.f220 H R) := ah YR Yd XP XV
@[simp] theorem ajp : C.locs 220 = [1] := by kernel_rfl
noncomputable def lL : Code := match Tryz.f221.body with | some c => c | none => .skip
theorem Yz : C.fids 221 = true := by kernel_rfl
theorem Xa : Tryz.f221.body = some lL := rfl
theorem ZL : C.prim 221 = none := rfl
theorem adQ : C.funcs 221 = some Tryz.f221 := Tryz.func221
theorem ZX {a : List V} {H : List Ob} {R : V → List Ob → Prop} : Ret C 221 a H R ↔ WP C 221 lL ⟨ae a, 0, H⟩ (aB C Tryz.f221 H R) := ah ZL Yz adQ Xa
@[simp] theorem ajC : C.locs 221 = [1] := by kernel_rfl
noncomputable def F8 : Code := match Tryz.f222.body with | some c => c | none => .skip
theorem agU : C.fids 222 = true := by kernel_rfl
theorem aaD : Tryz.f222.body = some F8 := rfl
theorem ad3 : C.prim 222 = none := rfl
theorem ahA : C.funcs 222 = some Tryz.f222 := Tryz.func222
theorem aiv {a : List V} {H : List Ob} {R : V → List Ob → Prop} : Ret C 222 a H R ↔ WP C 222 F8 ⟨ae a, 0, H⟩ (aB C Tryz.f222 H R) := ah ad3 agU ahA aaD
@[simp] theorem aju : C.locs 222 = [] := by kernel_rfl
noncomputable def y8 : Code := match Tryz.f223.body with | some c => c | none => .skip
theorem ado : C.fids 223 = true := by kernel_rfl
theorem acN : Tryz.f223.body = some y8 := rfl
theorem Zn : C.prim 223 = none := rfl
theorem aaM : C.funcs 223 = some Tryz.f223 := Tryz.func223
theorem aek {a : List V} {H : List Ob} {R : V → List Ob → Prop} : Ret C 223 a H R ↔ WP C 223 y8 ⟨ae a, 0, H⟩ (aB C Tryz.f223 H R) := ah Zn ado aaM acN
@[simp] theorem akw : C.locs 223 = [3] := by kernel_rfl
noncomputable def DR : Code := match Tryz.f227.body with | some c => c | none => .skip
theorem ad8 : C.fids 227 = true := by kernel_rfl
theorem Yf : Tryz.f227.body = some DR := rfl
theorem adn : C.prim 227 = none := rfl
theorem ahm : C.funcs 227 = some Tryz.f227 := Tryz.func227
theorem Zh {a : List V} {H : List Ob} {R : V → List Ob → Prop} : Ret C 227 a H R ↔ WP C 227 DR ⟨ae a, 0, H⟩ (aB C Tryz.f227 H R) := ah adn ad8 ahm Yf
@[simp] theorem ajr : C.locs 227 = [] := by kernel_rfl
noncomputable def Ej : Code := match Tryz.f231.body with | some c => c | none => .skip
theorem aff : C.fids 231 = true := by kernel_rfl
theorem ahD : Tryz.f231.body = some Ej := rfl
theorem adK : C.prim 231 = none := rfl
theorem afd : C.funcs 231 = some Tryz.f231 := Tryz.func231
theorem XN {a : List V} {H : List Ob} {R : V → List Ob → Prop} : Ret C 231 a H R ↔ WP C 231 Ej ⟨ae a, 0, H⟩ (aB C Tryz.f231 H R) := ah adK aff afd ahD
@[simp] theorem akd : C.locs 231 = [] := by kernel_rfl
noncomputable def En : Code := match Tryz.f232.body with | some c => c | none => .skip
theorem aeT : C.fids 232 = true := by kernel_rfl
theorem Xq : Tryz.f232.body = some En := rfl
theorem ac1 : C.prim 232 = none := rfl
theorem Zc : C.funcs 232 = some Tryz.f232 := Tryz.func232
theorem XD {a : List V} {H : List Ob} {R : V → List Ob → Prop} : Ret C 232 a H R ↔ WP C 232 En ⟨ae a, 0, H⟩ (aB C Tryz.f232 H R) := ah ac1 aeT Zc Xq
@[simp] theorem aiW : C.locs 232 = [1] := by kernel_rfl
noncomputable def Fq : Code := match Tryz.f234.body with | some c => c | none => .skip
theorem ahz : C.fids 234 = true := by kernel_rfl
theorem aao : Tryz.f234.body = some Fq := rfl
theorem YV : C.prim 234 = none := rfl
theorem Zm : C.funcs 234 = some Tryz.f234 := Tryz.func234
theorem adw {a : List V} {H : List Ob} {R : V → List Ob → Prop} : Ret C 234 a H R ↔ WP C 234 Fq ⟨ae a, 0, H⟩ (aB C Tryz.f234 H R) := ah YV ahz Zm aao
@[simp] theorem akz : C.locs 234 = [] := by kernel_rfl
noncomputable def yX : Code := match Tryz.f235.body with | some c => c | none => .skip
theorem Yl : C.fids 235 = true := by kernel_rfl
theorem ac2 : Tryz.f235.body = some yX := rfl
theorem ahJ : C.prim 235 = none := rfl
theorem Xf : C.funcs 235 = some Tryz.f235 := Tryz.func235
theorem VG {a : List V} {H : List Ob} {R : V → List Ob → Prop} : Ret C 235 a H R ↔ WP C 235 yX ⟨ae a, 0, H⟩ (aB C Tryz.f235 H R) := ah ahJ Yl Xf ac2
@[simp] theorem akY : C.locs 235 = [] := by kernel_rfl
noncomputable def wQ : Code := match Tryz.f236.body with | some c => c | none => .skip
theorem abp : C.fids 236 = true := by kernel_rfl
theorem abk : Tryz.f236.body = some wQ := rfl
theorem abJ : C.prim 236 = none := rfl
theorem aaV : C.funcs 236 = some Tryz.f236 := Tryz.func236
theorem adE {a : List V} {H : List Ob} {R : V → List Ob → Prop} : Ret C 236 a H R ↔ WP C 236 wQ ⟨ae a, 0, H⟩ (aB C Tryz.f236 H R) := ah abJ abp aaV abk
@[simp] theorem aiX : C.locs 236 = [] := by kernel_rfl
noncomputable def DY : Code := match Tryz.f237.body with | some c => c | none => .skip
theorem agy : C.fids 237 = true := by kernel_rfl
theorem aa0 : Tryz.f237.body = some DY := rfl
theorem acJ : C.prim 237 = none := rfl
theorem afN : C.funcs 237 = some Tryz.f237 := Tryz.func237
theorem ae5 {a : List V} {H : List Ob} {R : V → List Ob → Prop} : Ret C 237 a H R ↔ WP C 237 DY ⟨ae a, 0, H⟩ (aB C Tryz.f237 H R) := ah acJ agy afN aa0
@[simp] theorem ajM : C.locs 237 = [] := by kernel_rfl
noncomputable def pY : Code := match Tryz.f238.body with | some c => c | none => .skip
theorem SH : C.fids 238 = true := by kernel_rfl
theorem RS : Tryz.f238.body = some pY := rfl
theorem QP : C.prim 238 = none := rfl
theorem Rx : C.funcs 238 = some Tryz.f238 := Tryz.func238
theorem PX {a : List V} {H : List Ob} {R : V → List Ob → Prop} : Ret C 238 a H R ↔ WP C 238 pY ⟨ae a, 0, H⟩ (aB C Tryz.f238 H R) := ah QP SH Rx RS
@[simp] theorem TV : C.locs 238 = [] := by kernel_rfl
noncomputable def kX : Code := match Tryz.f247.body with | some c => c | none => .skip
theorem agZ : C.fids 247 = true := by kernel_rfl
theorem aeK : Tryz.f247.body = some kX := rfl
theorem acy : C.prim 247 = none := rfl
theorem acD : C.funcs 247 = some Tryz.f247 := Tryz.func247
theorem ag4 {a : List V} {H : List Ob} {R : V → List Ob → Prop} : Ret C 247 a H R ↔ WP C 247 kX ⟨ae a, 0, H⟩ (aB C Tryz.f247 H R) := ah acy agZ acD aeK
@[simp] theorem aiH : C.locs 247 = [1] := by kernel_rfl
noncomputable def vN : Code := match Tryz.f248.body with | some c => c | none => .skip
theorem agf : C.fids 248 = true := by kernel_rfl
theorem ahI : Tryz.f248.body = some vN := rfl
theorem aau : C.prim 248 = none := rfl
theorem abw : C.funcs 248 = some Tryz.f248 := Tryz.func248
theorem Xd {a : List V} {H : List Ob} {R : V → List Ob → Prop} : Ret C 248 a H R ↔ WP C 248 vN ⟨ae a, 0, H⟩ (aB C Tryz.f248 H R) := ah aau agf abw ahI
@[simp] theorem akX : C.locs 248 = [3, 4] := by kernel_rfl
noncomputable def GR : Code := match Tryz.f249.body with | some c => c | none => .skip
theorem acx : C.fids 249 = true := by kernel_rfl
theorem ahb : Tryz.f249.body = some GR := rfl
theorem WZ : C.prim 249 = none := rfl
theorem Yc : C.funcs 249 = some Tryz.f249 := Tryz.func249
theorem afT {a : List V} {H : List Ob} {R : V → List Ob → Prop} : Ret C 249 a H R ↔ WP C 249 GR ⟨ae a, 0, H⟩ (aB C Tryz.f249 H R) := ah WZ acx Yc ahb
@[simp] theorem aiR : C.locs 249 = [2] := by kernel_rfl
noncomputable def kw : Code := match Tryz.f250.body with | some c => c | none => .skip
theorem PK : C.fids 250 = true := by kernel_rfl
theorem QK : Tryz.f250.body = some kw := rfl
theorem Tq : C.prim 250 = none := rfl
theorem Qb : C.funcs 250 = some Tryz.f250 := Tryz.func250
theorem PP {a : List V} {H : List Ob} {R : V → List Ob → Prop} : Ret C 250 a H R ↔ WP C 250 kw ⟨ae a, 0, H⟩ (aB C Tryz.f250 H R) := ah Tq PK Qb QK
@[simp] theorem Va : C.locs 250 = [] := by kernel_rfl
noncomputable def Ff : Code := match Tryz.f256.body with | some c => c | none => .skip
theorem agq : C.fids 256 = true := by kernel_rfl
theorem ac3 : Tryz.f256.body = some Ff := rfl
theorem afa : C.prim 256 = none := rfl
theorem aaT : C.funcs 256 = some Tryz.f256 := Tryz.func256
theorem ac9 {a : List V} {H : List Ob} {R : V → List Ob → Prop} : Ret C 256 a H R ↔ WP C 256 Ff ⟨ae a, 0, H⟩ (aB C Tryz.f256 H R) := ah afa agq aaT ac3
@[simp] theorem ako : C.locs 256 = [1] := by kernel_rfl
noncomputable def EZ : Code := match Tryz.f257.body with | some c => c | none => .skip
theorem Ym : C.fids 257 = true := by kernel_rfl
theorem Xk : Tryz.f257.body = some EZ := rfl
theorem afR : C.prim 257 = none := rfl
theorem Xn : C.funcs 257 = some Tryz.f257 := Tryz.func257
theorem aez {a : List V} {H : List Ob} {R : V → List Ob → Prop} : Ret C 257 a H R ↔ WP C 257 EZ ⟨ae a, 0, H⟩ (aB C Tryz.f257 H R) := ah afR Ym Xn Xk
@[simp] theorem akj : C.locs 257 = [] := by kernel_rfl
noncomputable def Fp : Code := match Tryz.f259.body with | some c => c | none => .skip
theorem aeB : C.fids 259 = true := by kernel_rfl
theorem af2 : Tryz.f259.body = some Fp := rfl
theorem af4 : C.prim 259 = none := rfl
theorem afH : C.funcs 259 = some Tryz.f259 := Tryz.func259
theorem acY {a : List V} {H : List Ob} {R : V → List Ob → Prop} : Ret C 259 a H R ↔ WP C 259 Fp ⟨ae a, 0, H⟩ (aB C Tryz.f259 H R) := ah af4 aeB afH af2
@[simp] theorem ai9 : C.locs 259 = [] := by kernel_rfl
@[simp] theorem aiT : C.locs 264 = [] := by kernel_rfl
@[simp] theorem ajo : C.locs 265 = [] := by kernel_rfl
noncomputable def Ed : Code := match Tryz.f266.body with | some c => c | none => .skip
theorem ah6 : C.fids 266 = true := by kernel_rfl
theorem Zz : Tryz.f266.body = some Ed := rfl
theorem aeO : C.prim 266 = none := rfl
theorem ah3 : C.funcs 266 = some Tryz.f266 := Tryz.func266
theorem ZH {a : List V} {H : List Ob} {R : V → List Ob → Prop} : Ret C 266 a H R ↔ WP C 266 Ed ⟨ae a, 0, H⟩ (aB C Tryz.f266 H R) := ah aeO ah6 ah3 Zz
@[simp] theorem akT : C.locs 266 = [2] := by kernel_rfl
noncomputable def EC : Code := match Tryz.f267.body with | some c => c | none => .skip
theorem aaJ : C.fids 267 = true := by kernel_rfl
theorem XJ : Tryz.f267.body = some EC := rfl
theorem Zt : C.prim 267 = none := rfl
theorem adW : C.funcs 267 = some Tryz.f267 := Tryz.func267
theorem Xg {a : List V} {H : List Ob} {R : V → List Ob → Prop} : Ret C 267 a H R ↔ WP C 267 EC ⟨ae a, 0, H⟩ (aB C Tryz.f267 H R) := ah Zt aaJ adW XJ
@[simp] theorem ajY : C.locs 267 = [] := by kernel_rfl
noncomputable def FQ : Code := match Tryz.f268.body with | some c => c | none => .skip
theorem aeU : C.fids 268 = true := by kernel_rfl
theorem YP : Tryz.f268.body = some FQ := rfl
theorem YU : C.prim 268 = none := rfl
theorem Y4 : C.funcs 268 = some Tryz.f268 := Tryz.func268
theorem Zv {a : List V} {H : List Ob} {R : V → List Ob → Prop} : Ret C 268 a H R ↔ WP C 268 FQ ⟨ae a, 0, H⟩ (aB C Tryz.f268 H R) := ah YU aeU Y4 YP
@[simp] theorem akf : C.locs 268 = [] := by kernel_rfl
@[simp] theorem aiy : C.locs 269 = [] := by kernel_rfl
@[simp] theorem ajx : C.locs 270 = [] := by kernel_rfl
noncomputable def FY : Code := match Tryz.f273.body with | some c => c | none => .skip
theorem aaj : C.fids 273 = true := by kernel_rfl
theorem WW : Tryz.f273.body = some FY := rfl
theorem ab9 : C.prim 273 = none := rfl
theorem ahc : C.funcs 273 = some Tryz.f273 := Tryz.func273
theorem ae3 {a : List V} {H : List Ob} {R : V → List Ob → Prop} : Ret C 273 a H R ↔ WP C 273 FY ⟨ae a, 0, H⟩ (aB C Tryz.f273 H R) := ah ab9 aaj ahc WW
@[simp] theorem aiY : C.locs 273 = [] := by kernel_rfl
noncomputable def E8 : Code := match Tryz.f274.body with | some c => c | none => .skip
theorem XK : C.fids 274 = true := by kernel_rfl
theorem Zx : Tryz.f274.body = some E8 := rfl
theorem aet : C.prim 274 = none := rfl
theorem afI : C.funcs 274 = some Tryz.f274 := Tryz.func274
theorem YK {a : List V} {H : List Ob} {R : V → List Ob → Prop} : Ret C 274 a H R ↔ WP C 274 E8 ⟨ae a, 0, H⟩ (aB C Tryz.f274 H R) := ah aet XK afI Zx
@[simp] theorem ajV : C.locs 274 = [2] := by kernel_rfl
noncomputable def vG : Code := match Tryz.f275.body with | some c => c | none => .skip
theorem adA : C.fids 275 = true := by kernel_rfl
theorem acr : Tryz.f275.body = some vG := rfl
theorem YW : C.prim 275 = none := rfl
theorem aca : C.funcs 275 = some Tryz.f275 := Tryz.func275
theorem ads {a : List V} {H : List Ob} {R : V → List Ob → Prop} : Ret C 275 a H R ↔ WP C 275 vG ⟨ae a, 0, H⟩ (aB C Tryz.f275 H R) := ah YW adA aca acr
@[simp] theorem akB : C.locs 275 = [] := by kernel_rfl
noncomputable def zx : Code := match Tryz.f276.body with | some c => c | none => .skip
theorem aeR : C.fids 276 = true := by kernel_rfl
theorem Xh : Tryz.f276.body = some zx := rfl
theorem agk : C.prim 276 = none := rfl
theorem adN : C.funcs 276 = some Tryz.f276 := Tryz.func276
theorem W9 {a : List V} {H : List Ob} {R : V → List Ob → Prop} : Ret C 276 a H R ↔ WP C 276 zx ⟨ae a, 0, H⟩ (aB C Tryz.f276 H R) := ah agk aeR adN Xh
@[simp] theorem aks : C.locs 276 = [] := by kernel_rfl
noncomputable def qH : Code := match Tryz.f277.body with | some c => c | none => .skip
theorem ad9 : C.fids 277 = true := by kernel_rfl
theorem acS : Tryz.f277.body = some qH := rfl
theorem ad4 : C.prim 277 = none := rfl
theorem Zo : C.funcs 277 = some Tryz.f277 := Tryz.func277
theorem Vt {a : List V} {H : List Ob} {R : V → List Ob → Prop} : Ret C 277 a H R ↔ WP C 277 qH ⟨ae a, 0, H⟩ (aB C Tryz.f277 H R) := ah ad4 ad9 Zo acS
@[simp] theorem aiK : C.locs 277 = [] := by kernel_rfl
noncomputable def DU : Code := match Tryz.f278.body with | some c => c | none => .skip
theorem abG : C.fids 278 = true := by kernel_rfl
theorem adZ : Tryz.f278.body = some DU := rfl
theorem abC : C.prim 278 = none := rfl
theorem acU : C.funcs 278 = some Tryz.f278 := Tryz.func278
theorem afM {a : List V} {H : List Ob} {R : V → List Ob → Prop} : Ret C 278 a H R ↔ WP C 278 DU ⟨ae a, 0, H⟩ (aB C Tryz.f278 H R) := ah abC abG acU adZ
@[simp] theorem aki : C.locs 278 = [] := by kernel_rfl
noncomputable def Gv : Code := match Tryz.f279.body with | some c => c | none => .skip
theorem abD : C.fids 279 = true := by kernel_rfl
theorem afj : Tryz.f279.body = some Gv := rfl
theorem abS : C.prim 279 = none := rfl
theorem adv : C.funcs 279 = some Tryz.f279 := Tryz.func279
theorem acP {a : List V} {H : List Ob} {R : V → List Ob → Prop} : Ret C 279 a H R ↔ WP C 279 Gv ⟨ae a, 0, H⟩ (aB C Tryz.f279 H R) := ah abS abD adv afj
@[simp] theorem ajc : C.locs 279 = [] := by kernel_rfl
noncomputable def y5 : Code := match Tryz.f280.body with | some c => c | none => .skip
theorem adx : C.fids 280 = true := by kernel_rfl
theorem ahY : Tryz.f280.body = some y5 := rfl
theorem abe : C.prim 280 = none := rfl
theorem agl : C.funcs 280 = some Tryz.f280 := Tryz.func280
theorem acT {a : List V} {H : List Ob} {R : V → List Ob → Prop} : Ret C 280 a H R ↔ WP C 280 y5 ⟨ae a, 0, H⟩ (aB C Tryz.f280 H R) := ah abe adx agl ahY
@[simp] theorem aiS : C.locs 280 = [2] := by kernel_rfl
noncomputable def DI : Code := match Tryz.f281.body with | some c => c | none => .skip
theorem aeo : C.fids 281 = true := by kernel_rfl
theorem adU : Tryz.f281.body = some DI := rfl
theorem ahn : C.prim 281 = none := rfl
theorem XW : C.funcs 281 = some Tryz.f281 := Tryz.func281
theorem ahU {a : List V} {H : List Ob} {R : V → List Ob → Prop} : Ret C 281 a H R ↔ WP C 281 DI ⟨ae a, 0, H⟩ (aB C Tryz.f281 H R) := ah ahn aeo XW adU
@[simp] theorem aj1 : C.locs 281 = [2] := by kernel_rfl
noncomputable def DZ : Code := match Tryz.f282.body with | some c => c | none => .skip
theorem X6 : C.fids 282 = true := by kernel_rfl
theorem adb : Tryz.f282.body = some DZ := rfl
theorem aid : C.prim 282 = none := rfl
theorem ac8 : C.funcs 282 = some Tryz.f282 := Tryz.func282
theorem afp {a : List V} {H : List Ob} {R : V → List Ob → Prop} : Ret C 282 a H R ↔ WP C 282 DZ ⟨ae a, 0, H⟩ (aB C Tryz.f282 H R) := ah aid X6 ac8 adb
@[simp] theorem akt : C.locs 282 = [3, 6, 7, 9] := by kernel_rfl
noncomputable def He : Code := match Tryz.f283.body with | some c => c | none => .skip
theorem abM : C.fids 283 = true := by kernel_rfl
theorem af5 : Tryz.f283.body = some He := rfl
theorem acK : C.prim 283 = none := rfl
theorem ac5 : C.funcs 283 = some Tryz.f283 := Tryz.func283
theorem afr {a : List V} {H : List Ob} {R : V → List Ob → Prop} : Ret C 283 a H R ↔ WP C 283 He ⟨ae a, 0, H⟩ (aB C Tryz.f283 H R) := ah acK abM ac5 af5
@[simp] theorem akP : C.locs 283 = [5, 6] := by kernel_rfl
noncomputable def EG : Code := match Tryz.f284.body with | some c => c | none => .skip
theorem Y3 : C.fids 284 = true := by kernel_rfl
theorem Z4 : Tryz.f284.body = some EG := rfl
theorem aaK : C.prim 284 = none := rfl
theorem af6 : C.funcs 284 = some Tryz.f284 := Tryz.func284
theorem ady {a : List V} {H : List Ob} {R : V → List Ob → Prop} : Ret C 284 a H R ↔ WP C 284 EG ⟨ae a, 0, H⟩ (aB C Tryz.f284 H R) := ah aaK Y3 af6 Z4
@[simp] theorem ajb : C.locs 284 = [5] := by kernel_rfl
noncomputable def yM : Code := match Tryz.f286.body with | some c => c | none => .skip
theorem Yn : C.fids 286 = true := by kernel_rfl
theorem abv : Tryz.f286.body = some yM := rfl
theorem aeC : C.prim 286 = none := rfl
theorem afA : C.funcs 286 = some Tryz.f286 := Tryz.func286
theorem Y7 {a : List V} {H : List Ob} {R : V → List Ob → Prop} : Ret C 286 a H R ↔ WP C 286 yM ⟨ae a, 0, H⟩ (aB C Tryz.f286 H R) := ah aeC Yn afA abv
@[simp] theorem akD : C.locs 286 = [] := by kernel_rfl
noncomputable def zt : Code := match Tryz.f287.body with | some c => c | none => .skip
theorem ab6 : C.fids 287 = true := by kernel_rfl
theorem ZO : Tryz.f287.body = some zt := rfl
theorem acZ : C.prim 287 = none := rfl
theorem aiq : C.funcs 287 = some Tryz.f287 := Tryz.func287
theorem aeg {a : List V} {H : List Ob} {R : V → List Ob → Prop} : Ret C 287 a H R ↔ WP C 287 zt ⟨ae a, 0, H⟩ (aB C Tryz.f287 H R) := ah acZ ab6 aiq ZO
@[simp] theorem ajl : C.locs 287 = [] := by kernel_rfl
noncomputable def FH : Code := match Tryz.f288.body with | some c => c | none => .skip
theorem abK : C.fids 288 = true := by kernel_rfl
theorem aex : Tryz.f288.body = some FH := rfl
theorem ah1 : C.prim 288 = none := rfl
theorem ahQ : C.funcs 288 = some Tryz.f288 := Tryz.func288
theorem ahr {a : List V} {H : List Ob} {R : V → List Ob → Prop} : Ret C 288 a H R ↔ WP C 288 FH ⟨ae a, 0, H⟩ (aB C Tryz.f288 H R) := ah ah1 abK ahQ aex
@[simp] theorem ajL : C.locs 288 = [] := by kernel_rfl
noncomputable def pG : Code := match Tryz.f289.body with | some c => c | none => .skip
theorem RN : C.fids 289 = true := by kernel_rfl
theorem PZ : Tryz.f289.body = some pG := rfl
theorem SI : C.prim 289 = none := rfl
theorem Sj : C.funcs 289 = some Tryz.f289 := Tryz.func289
theorem Rh {a : List V} {H : List Ob} {R : V → List Ob → Prop} : Ret C 289 a H R ↔ WP C 289 pG ⟨ae a, 0, H⟩ (aB C Tryz.f289 H R) := ah SI RN Sj PZ
@[simp] theorem UZ : C.locs 289 = [] := by kernel_rfl
noncomputable def qg : Code := match Tryz.f290.body with | some c => c | none => .skip
theorem PI : C.fids 290 = true := by kernel_rfl
theorem QF : Tryz.f290.body = some qg := rfl
theorem PE : C.prim 290 = none := rfl
theorem Sv : C.funcs 290 = some Tryz.f290 := Tryz.func290
theorem QG {a : List V} {H : List Ob} {R : V → List Ob → Prop} : Ret C 290 a H R ↔ WP C 290 qg ⟨ae a, 0, H⟩ (aB C Tryz.f290 H R) := ah PE PI Sv QF
@[simp] theorem Uo : C.locs 290 = [] := by kernel_rfl
noncomputable def rW : Code := match Tryz.f292.body with | some c => c | none => .skip
theorem aaA : C.fids 292 = true := by kernel_rfl
theorem afO : Tryz.f292.body = some rW := rfl
theorem afg : C.prim 292 = none := rfl
theorem aae : C.funcs 292 = some Tryz.f292 := Tryz.func292
theorem agc {a : List V} {H : List Ob} {R : V → List Ob → Prop} : Ret C 292 a H R ↔ WP C 292 rW ⟨ae a, 0, H⟩ (aB C Tryz.f292 H R) := ah afg aaA aae afO
@[simp] theorem aiE : C.locs 292 = [] := by kernel_rfl
noncomputable def y7 : Code := match Tryz.f293.body with | some c => c | none => .skip
theorem ab4 : C.fids 293 = true := by kernel_rfl
theorem abb : Tryz.f293.body = some y7 := rfl
theorem adh : C.prim 293 = none := rfl
theorem afs : C.funcs 293 = some Tryz.f293 := Tryz.func293
theorem ahC {a : List V} {H : List Ob} {R : V → List Ob → Prop} : Ret C 293 a H R ↔ WP C 293 y7 ⟨ae a, 0, H⟩ (aB C Tryz.f293 H R) := ah adh ab4 afs abb
@[simp] theorem ajH : C.locs 293 = [4] := by kernel_rfl
noncomputable def yL : Code := match Tryz.f294.body with | some c => c | none => .skip
theorem Xr : C.fids 294 = true := by kernel_rfl
theorem afW : Tryz.f294.body = some yL := rfl
theorem Z5 : C.prim 294 = none := rfl
theorem YD : C.funcs 294 = some Tryz.f294 := Tryz.func294
theorem afl {a : List V} {H : List Ob} {R : V → List Ob → Prop} : Ret C 294 a H R ↔ WP C 294 yL ⟨ae a, 0, H⟩ (aB C Tryz.f294 H R) := ah Z5 Xr YD afW
@[simp] theorem akm : C.locs 294 = [2] := by kernel_rfl
noncomputable def Ep : Code := match Tryz.f297.body with | some c => c | none => .skip
theorem adB : C.fids 297 = true := by kernel_rfl
theorem ahq : Tryz.f297.body = some Ep := rfl
theorem aeE : C.prim 297 = none := rfl
theorem ZM : C.funcs 297 = some Tryz.f297 := Tryz.func297
theorem ahf {a : List V} {H : List Ob} {R : V → List Ob → Prop} : Ret C 297 a H R ↔ WP C 297 Ep ⟨ae a, 0, H⟩ (aB C Tryz.f297 H R) := ah aeE adB ZM ahq
@[simp] theorem aj9 : C.locs 297 = [] := by kernel_rfl
noncomputable def rX : Code := match Tryz.f298.body with | some c => c | none => .skip
theorem abL : C.fids 298 = true := by kernel_rfl
theorem ad7 : Tryz.f298.body = some rX := rfl
theorem aeN : C.prim 298 = none := rfl
theorem ahy : C.funcs 298 = some Tryz.f298 := Tryz.func298
theorem agw {a : List V} {H : List Ob} {R : V → List Ob → Prop} : Ret C 298 a H R ↔ WP C 298 rX ⟨ae a, 0, H⟩ (aB C Tryz.f298 H R) := ah aeN abL ahy ad7
@[simp] theorem ai4 : C.locs 298 = [3, 6] := by kernel_rfl
noncomputable def zf : Code := match Tryz.f299.body with | some c => c | none => .skip
theorem ZF : C.fids 299 = true := by kernel_rfl
theorem ahN : Tryz.f299.body = some zf := rfl
theorem XQ : C.prim 299 = none := rfl
theorem agu : C.funcs 299 = some Tryz.f299 := Tryz.func299
theorem abm {a : List V} {H : List Ob} {R : V → List Ob → Prop} : Ret C 299 a H R ↔ WP C 299 zf ⟨ae a, 0, H⟩ (aB C Tryz.f299 H R) := ah XQ ZF agu ahN
@[simp] theorem ajz : C.locs 299 = [3, 6] := by kernel_rfl
noncomputable def Gp : Code := match Tryz.f300.body with | some c => c | none => .skip
theorem ahG : C.fids 300 = true := by kernel_rfl
theorem ag9 : Tryz.f300.body = some Gp := rfl
theorem aci : C.prim 300 = none := rfl
theorem Xy : C.funcs 300 = some Tryz.f300 := Tryz.func300
theorem adP {a : List V} {H : List Ob} {R : V → List Ob → Prop} : Ret C 300 a H R ↔ WP C 300 Gp ⟨ae a, 0, H⟩ (aB C Tryz.f300 H R) := ah aci ahG Xy ag9
@[simp] theorem aky : C.locs 300 = [] := by kernel_rfl
noncomputable def Gg : Code := match Tryz.f301.body with | some c => c | none => .skip
theorem age : C.fids 301 = true := by kernel_rfl
theorem afP : Tryz.f301.body = some Gg := rfl
theorem ah9 : C.prim 301 = none := rfl
theorem ahg : C.funcs 301 = some Tryz.f301 := Tryz.func301
theorem aaR {a : List V} {H : List Ob} {R : V → List Ob → Prop} : Ret C 301 a H R ↔ WP C 301 Gg ⟨ae a, 0, H⟩ (aB C Tryz.f301 H R) := ah ah9 age ahg afP
@[simp] theorem ajX : C.locs 301 = [] := by kernel_rfl
noncomputable def wu : Code := match Tryz.f302.body with | some c => c | none => .skip
theorem ZE : C.fids 302 = true := by kernel_rfl
theorem aaB : Tryz.f302.body = some wu := rfl
theorem afL : C.prim 302 = none := rfl
theorem aab : C.funcs 302 = some Tryz.f302 := Tryz.func302
theorem afF {a : List V} {H : List Ob} {R : V → List Ob → Prop} : Ret C 302 a H R ↔ WP C 302 wu ⟨ae a, 0, H⟩ (aB C Tryz.f302 H R) := ah afL ZE aab aaB
@[simp] theorem ai0 : C.locs 302 = [] := by kernel_rfl
noncomputable def sF : Code := match Tryz.f303.body with | some c => c | none => .skip
theorem aeb : C.fids 303 = true := by kernel_rfl
theorem Zj : Tryz.f303.body = some sF := rfl
theorem aah : C.prim 303 = none := rfl
theorem aaY : C.funcs 303 = some Tryz.f303 := Tryz.func303
theorem aad {a : List V} {H : List Ob} {R : V → List Ob → Prop} : Ret C 303 a H R ↔ WP C 303 sF ⟨ae a, 0, H⟩ (aB C Tryz.f303 H R) := ah aah aeb aaY Zj
@[simp] theorem ajB : C.locs 303 = [] := by kernel_rfl
noncomputable def zo : Code := match Tryz.f304.body with | some c => c | none => .skip
theorem aeY : C.fids 304 = true := by kernel_rfl
theorem ZI : Tryz.f304.body = some zo := rfl
theorem YF : C.prim 304 = none := rfl
theorem ag1 : C.funcs 304 = some Tryz.f304 := Tryz.func304
theorem afJ {a : List V} {H : List Ob} {R : V → List Ob → Prop} : Ret C 304 a H R ↔ WP C 304 zo ⟨ae a, 0, H⟩ (aB C Tryz.f304 H R) := ah YF aeY ag1 ZI
@[simp] theorem akS : C.locs 304 = [] := by kernel_rfl
noncomputable def Ei : Code := match Tryz.f308.body with | some c => c | none => .skip
theorem ahS : C.fids 308 = true := by kernel_rfl
theorem af9 : Tryz.f308.body = some Ei := rfl
theorem aa5 : C.prim 308 = none := rfl
theorem ael : C.funcs 308 = some Tryz.f308 := Tryz.func308
theorem Zw {a : List V} {H : List Ob} {R : V → List Ob → Prop} : Ret C 308 a H R ↔ WP C 308 Ei ⟨ae a, 0, H⟩ (aB C Tryz.f308 H R) := ah aa5 ahS ael af9
@[simp] theorem aj2 : C.locs 308 = [] := by kernel_rfl
noncomputable def sU : Code := match Tryz.f312.body with | some c => c | none => .skip
theorem ZZ : C.fids 312 = true := by kernel_rfl
theorem acF : Tryz.f312.body = some sU := rfl
theorem abU : C.prim 312 = none := rfl
theorem afG : C.funcs 312 = some Tryz.f312 := Tryz.func312
theorem P8 {a : List V} {H : List Ob} {R : V → List Ob → Prop} : Ret C 312 a H R ↔ WP C 312 sU ⟨ae a, 0, H⟩ (aB C Tryz.f312 H R) := ah abU ZZ afG acF
@[simp] theorem akb : C.locs 312 = [] := by kernel_rfl
noncomputable def qC : Code := match Tryz.f313.body with | some c => c | none => .skip
theorem SC : C.fids 313 = true := by kernel_rfl
theorem RP : Tryz.f313.body = some qC := rfl
theorem QV : C.prim 313 = none := rfl
theorem Qk : C.funcs 313 = some Tryz.f313 := Tryz.func313
theorem Ql {a : List V} {H : List Ob} {R : V → List Ob → Prop} : Ret C 313 a H R ↔ WP C 313 qC ⟨ae a, 0, H⟩ (aB C Tryz.f313 H R) := ah QV SC Qk RP
@[simp] theorem UO : C.locs 313 = [] := by kernel_rfl
@[simp] theorem akF : C.locs 322 = [] := by kernel_rfl
noncomputable def FW : Code := match Tryz.f323.body with | some c => c | none => .skip
theorem XG : C.fids 323 = true := by kernel_rfl
theorem aeL : Tryz.f323.body = some FW := rfl
theorem afo : C.prim 323 = none := rfl
theorem Xc : C.funcs 323 = some Tryz.f323 := Tryz.func323
theorem agA {a : List V} {H : List Ob} {R : V → List Ob → Prop} : Ret C 323 a H R ↔ WP C 323 FW ⟨ae a, 0, H⟩ (aB C Tryz.f323 H R) := ah afo XG Xc aeL
@[simp] theorem akC : C.locs 323 = [] := by kernel_rfl
noncomputable def pJ : Code := match Tryz.f324.body with | some c => c | none => .skip
theorem Qs : C.fids 324 = true := by kernel_rfl
theorem Ry : Tryz.f324.body = some pJ := rfl
theorem SL : C.prim 324 = none := rfl
theorem Sm : C.funcs 324 = some Tryz.f324 := Tryz.func324
theorem QA {a : List V} {H : List Ob} {R : V → List Ob → Prop} : Ret C 324 a H R ↔ WP C 324 pJ ⟨ae a, 0, H⟩ (aB C Tryz.f324 H R) := ah SL Qs Sm Ry
@[simp] theorem UK : C.locs 324 = [] := by kernel_rfl
noncomputable def ES : Code := match Tryz.f325.body with | some c => c | none => .skip
theorem aig : C.fids 325 = true := by kernel_rfl
theorem YB : Tryz.f325.body = some ES := rfl
theorem agD : C.prim 325 = none := rfl
theorem agM : C.funcs 325 = some Tryz.f325 := Tryz.func325
theorem ZR {a : List V} {H : List Ob} {R : V → List Ob → Prop} : Ret C 325 a H R ↔ WP C 325 ES ⟨ae a, 0, H⟩ (aB C Tryz.f325 H R) := ah agD aig agM YB
@[simp] theorem ajm : C.locs 325 = [] := by kernel_rfl
noncomputable def DW : Code := match Tryz.f329.body with | some c => c | none => .skip
theorem YO : C.fids 329 = true := by kernel_rfl
theorem aem : Tryz.f329.body = some DW := rfl
theorem ags : C.prim 329 = none := rfl
theorem aee : C.funcs 329 = some Tryz.f329 := Tryz.func329
theorem afU {a : List V} {H : List Ob} {R : V → List Ob → Prop} : Ret C 329 a H R ↔ WP C 329 DW ⟨ae a, 0, H⟩ (aB C Tryz.f329 H R) := ah ags YO aee aem
@[simp] theorem ajJ : C.locs 329 = [] := by kernel_rfl
@[simp] theorem akg : C.locs 330 = [] := by kernel_rfl
@[simp] theorem ai2 : C.locs 331 = [] := by kernel_rfl
@[simp] theorem ake : C.locs 332 = [] := by kernel_rfl
noncomputable def DK : Code := match Tryz.f333.body with | some c => c | none => .skip
theorem ahk : C.fids 333 = true := by kernel_rfl
theorem aat : Tryz.f333.body = some DK := rfl
theorem afi : C.prim 333 = none := rfl
theorem Xl : C.funcs 333 = some Tryz.f333 := Tryz.func333
theorem Xx {a : List V} {H : List Ob} {R : V → List Ob → Prop} : Ret C 333 a H R ↔ WP C 333 DK ⟨ae a, 0, H⟩ (aB C Tryz.f333 H R) := ah afi ahk Xl aat
@[simp] theorem ajf : C.locs 333 = [] := by kernel_rfl
noncomputable def FI : Code := match Tryz.f334.body with | some c => c | none => .skip
theorem aht : C.fids 334 = true := by kernel_rfl
theorem ah8 : Tryz.f334.body = some FI := rfl
theorem aeh : C.prim 334 = none := rfl
theorem Zd : C.funcs 334 = some Tryz.f334 := Tryz.func334
theorem aai {a : List V} {H : List Ob} {R : V → List Ob → Prop} : Ret C 334 a H R ↔ WP C 334 FI ⟨ae a, 0, H⟩ (aB C Tryz.f334 H R) := ah aeh aht Zd ah8
@[simp] theorem akO : C.locs 334 = [] := by kernel_rfl
noncomputable def uT : Code := match Tryz.f335.body with | some c => c | none => .skip
theorem aeJ : C.fids 335 = true := by kernel_rfl
theorem aei : Tryz.f335.body = some uT := rfl
theorem ahE : C.prim 335 = none := rfl
theorem ahK : C.funcs 335 = some Tryz.f335 := Tryz.func335
theorem VA {a : List V} {H : List Ob} {R : V → List Ob → Prop} : Ret C 335 a H R ↔ WP C 335 uT ⟨ae a, 0, H⟩ (aB C Tryz.f335 H R) := ah ahE aeJ ahK aei
@[simp] theorem ajI : C.locs 335 = [4, 7] := by kernel_rfl
noncomputable def Gj : Code := match Tryz.f336.body with | some c => c | none => .skip
theorem YE : C.fids 336 = true := by kernel_rfl
theorem ack : Tryz.f336.body = some Gj := rfl
theorem Y5 : C.prim 336 = none := rfl
theorem Xz : C.funcs 336 = some Tryz.f336 := Tryz.func336
theorem aeP {a : List V} {H : List Ob} {R : V → List Ob → Prop} : Ret C 336 a H R ↔ WP C 336 Gj ⟨ae a, 0, H⟩ (aB C Tryz.f336 H R) := ah Y5 YE Xz ack
@[simp] theorem ajy : C.locs 336 = [] := by kernel_rfl
noncomputable def yR : Code := match Tryz.f337.body with | some c => c | none => .skip
theorem agV : C.fids 337 = true := by kernel_rfl
theorem abx : Tryz.f337.body = some yR := rfl
theorem aec : C.prim 337 = none := rfl
theorem ab3 : C.funcs 337 = some Tryz.f337 := Tryz.func337
theorem VB {a : List V} {H : List Ob} {R : V → List Ob → Prop} : Ret C 337 a H R ↔ WP C 337 yR ⟨ae a, 0, H⟩ (aB C Tryz.f337 H R) := ah aec agV ab3 abx
@[simp] theorem ai1 : C.locs 337 = [] := by kernel_rfl
noncomputable def lY : Code := match Tryz.f338.body with | some c => c | none => .skip
theorem Ru : C.fids 338 = true := by kernel_rfl
theorem PG : Tryz.f338.body = some lY := rfl
theorem Rn : C.prim 338 = none := rfl
theorem Q4 : C.funcs 338 = some Tryz.f338 := Tryz.func338
theorem Tc {a : List V} {H : List Ob} {R : V → List Ob → Prop} : Ret C 338 a H R ↔ WP C 338 lY ⟨ae a, 0, H⟩ (aB C Tryz.f338 H R) := ah Rn Ru Q4 PG
@[simp] theorem UQ : C.locs 338 = [] := by kernel_rfl
noncomputable def Em : Code := match Tryz.f342.body with | some c => c | none => .skip
theorem ade : C.fids 342 = true := by kernel_rfl
theorem Xt : Tryz.f342.body = some Em := rfl
theorem abN : C.prim 342 = none := rfl
theorem abA : C.funcs 342 = some Tryz.f342 := Tryz.func342
theorem agR {a : List V} {H : List Ob} {R : V → List Ob → Prop} : Ret C 342 a H R ↔ WP C 342 Em ⟨ae a, 0, H⟩ (aB C Tryz.f342 H R) := ah abN ade abA Xt
@[simp] theorem ajn : C.locs 342 = [] := by kernel_rfl
noncomputable def uS : Code := match Tryz.f343.body with | some c => c | none => .skip
theorem aeA : C.fids 343 = true := by kernel_rfl
theorem aim : Tryz.f343.body = some uS := rfl
theorem ahH : C.prim 343 = none := rfl
theorem YI : C.funcs 343 = some Tryz.f343 := Tryz.func343
theorem Vu {a : List V} {H : List Ob} {R : V → List Ob → Prop} : Ret C 343 a H R ↔ WP C 343 uS ⟨ae a, 0, H⟩ (aB C Tryz.f343 H R) := ah ahH aeA YI aim
@[simp] theorem ajk : C.locs 343 = [] := by kernel_rfl
noncomputable def DT : Code := match Tryz.f344.body with | some c => c | none => .skip
theorem XI : C.fids 344 = true := by kernel_rfl
theorem afX : Tryz.f344.body = some DT := rfl
theorem ZV : C.prim 344 = none := rfl
theorem adF : C.funcs 344 = some Tryz.f344 := Tryz.func344
theorem adO {a : List V} {H : List Ob} {R : V → List Ob → Prop} : Ret C 344 a H R ↔ WP C 344 DT ⟨ae a, 0, H⟩ (aB C Tryz.f344 H R) := ah ZV XI adF afX
@[simp] theorem akA : C.locs 344 = [] := by kernel_rfl
noncomputable def D5 : Code := match Tryz.f346.body with | some c => c | none => .skip
theorem aa7 : C.fids 346 = true := by kernel_rfl
theorem YN : Tryz.f346.body = some D5 := rfl
theorem XB : C.prim 346 = none := rfl
theorem Zf : C.funcs 346 = some Tryz.f346 := Tryz.func346
theorem acb {a : List V} {H : List Ob} {R : V → List Ob → Prop} : Ret C 346 a H R ↔ WP C 346 D5 ⟨ae a, 0, H⟩ (aB C Tryz.f346 H R) := ah XB aa7 Zf YN
@[simp] theorem ajF : C.locs 346 = [1, 2] := by kernel_rfl
noncomputable def FO : Code := match Tryz.f347.body with | some c => c | none => .skip
theorem aga : C.fids 347 = true := by kernel_rfl
theorem ah5 : Tryz.f347.body = some FO := rfl
theorem aaw : C.prim 347 = none := rfl
theorem YQ : C.funcs 347 = some Tryz.f347 := Tryz.func347
theorem aeq {a : List V} {H : List Ob} {R : V → List Ob → Prop} : Ret C 347 a H R ↔ WP C 347 FO ⟨ae a, 0, H⟩ (aB C Tryz.f347 H R) := ah aaw aga YQ ah5
@[simp] theorem aka : C.locs 347 = [] := by kernel_rfl
noncomputable def qJ : Code := match Tryz.f349.body with | some c => c | none => .skip
theorem PW : C.fids 349 = true := by kernel_rfl
theorem RZ : Tryz.f349.body = some qJ := rfl
theorem RU : C.prim 349 = none := rfl
theorem QX : C.funcs 349 = some Tryz.f349 := Tryz.func349
theorem QL {a : List V} {H : List Ob} {R : V → List Ob → Prop} : Ret C 349 a H R ↔ WP C 349 qJ ⟨ae a, 0, H⟩ (aB C Tryz.f349 H R) := ah RU PW QX RZ
@[simp] theorem TP : C.locs 349 = [] := by kernel_rfl
@[simp] theorem ajW : C.locs 351 = [] := by kernel_rfl
@[simp] theorem ai6 : C.locs 352 = [9] := by kernel_rfl
@[simp] theorem aj8 : C.locs 354 = [] := by kernel_rfl
noncomputable def EO : Code := match Tryz.f355.body with | some c => c | none => .skip
theorem aaG : C.fids 355 = true := by kernel_rfl
theorem agH : Tryz.f355.body = some EO := rfl
theorem abd : C.prim 355 = none := rfl
theorem adR : C.funcs 355 = some Tryz.f355 := Tryz.func355
theorem agE {a : List V} {H : List Ob} {R : V → List Ob → Prop} : Ret C 355 a H R ↔ WP C 355 EO ⟨ae a, 0, H⟩ (aB C Tryz.f355 H R) := ah abd aaG adR agH
@[simp] theorem ajv : C.locs 355 = [] := by kernel_rfl
noncomputable def Ew : Code := match Tryz.f356.body with | some c => c | none => .skip
theorem XY : C.fids 356 = true := by kernel_rfl
theorem aha : Tryz.f356.body = some Ew := rfl
theorem acu : C.prim 356 = none := rfl
theorem ZP : C.funcs 356 = some Tryz.f356 := Tryz.func356
theorem Xe {a : List V} {H : List Ob} {R : V → List Ob → Prop} : Ret C 356 a H R ↔ WP C 356 Ew ⟨ae a, 0, H⟩ (aB C Tryz.f356 H R) := ah acu XY ZP aha
@[simp] theorem ai7 : C.locs 356 = [2] := by kernel_rfl
noncomputable def yJ : Code := match Tryz.f357.body with | some c => c | none => .skip
theorem ae1 : C.fids 357 = true := by kernel_rfl
theorem agT : Tryz.f357.body = some yJ := rfl
theorem ag2 : C.prim 357 = none := rfl
theorem ac7 : C.funcs 357 = some Tryz.f357 := Tryz.func357
theorem Vw {a : List V} {H : List Ob} {R : V → List Ob → Prop} : Ret C 357 a H R ↔ WP C 357 yJ ⟨ae a, 0, H⟩ (aB C Tryz.f357 H R) := ah ag2 ae1 ac7 agT
@[simp] theorem akN : C.locs 357 = [] := by kernel_rfl
noncomputable def FB : Code := match Tryz.f358.body with | some c => c | none => .skip
theorem aew : C.fids 358 = true := by kernel_rfl
theorem Yb : Tryz.f358.body = some FB := rfl
theorem aie : C.prim 358 = none := rfl
theorem ae0 : C.funcs 358 = some Tryz.f358 := Tryz.func358
theorem adm {a : List V} {H : List Ob} {R : V → List Ob → Prop} : Ret C 358 a H R ↔ WP C 358 FB ⟨ae a, 0, H⟩ (aB C Tryz.f358 H R) := ah aie aew ae0 Yb
@[simp] theorem ajt : C.locs 358 = [2] := by kernel_rfl
noncomputable def kH : Code := match Tryz.f359.body with | some c => c | none => .skip
theorem Rf : C.fids 359 = true := by kernel_rfl
theorem PD : Tryz.f359.body = some kH := rfl
theorem Qr : C.prim 359 = none := rfl
theorem QH : C.funcs 359 = some Tryz.f359 := Tryz.func359
theorem SE {a : List V} {H : List Ob} {R : V → List Ob → Prop} : Ret C 359 a H R ↔ WP C 359 kH ⟨ae a, 0, H⟩ (aB C Tryz.f359 H R) := ah Qr Rf QH PD
@[simp] theorem Ue : C.locs 359 = [] := by kernel_rfl
@[simp] theorem aiU : C.locs 384 = [] := by kernel_rfl
@[simp] theorem aiF : C.locs 385 = [] := by kernel_rfl
@[simp] theorem aiO : C.ord 8 18 = some ⟨[0, 1, 2, 3, 4], [], [], [(0, 9), (1, 3)], [], []⟩ := by kernel_rfl
@[simp] theorem ajj : C.ord 19 6 = none := by kernel_rfl
@[simp] theorem Ua : C.ord 38 6 = none := by kernel_rfl
@[simp] theorem TQ : C.ord 53 6 = none := by kernel_rfl
@[simp] theorem ajw : C.ord 59 4 = none := by kernel_rfl
@[simp] theorem ajA : C.ord 65 6 = none := by kernel_rfl
@[simp] theorem UV : C.ord 69 6 = none := by kernel_rfl
@[simp] theorem ajE : C.ord 74 7 = some ⟨[0, 1, 2, 3, 4, 5, 6, 7, 8, 9, 10, 11, 12, 13, 14, 15, 16, 17, 18, 19, 20, 22, 23, 21, 24, 25, 26, 27], [], [], [(0, 4), (5, 1), (6, 4), (15, 1), (23, 4)], [], []⟩ := by kernel_rfl
@[simp] theorem ac4 : C.ord 74 13 = some ⟨[0, 1, 2, 3, 4, 5, 6, 7, 8, 9, 10], [], [], [(4, 1)], [], []⟩ := by kernel_rfl
@[simp] theorem akn : C.ord 80 6 = some ⟨[0, 1, 2, 3, 4, 5, 6, 7, 8, 9, 10, 11, 12, 13, 14, 15, 17, 18, 16, 19, 20, 21, 22], [], [], [(2, 4), (18, 4)], [], []⟩ := by kernel_rfl
@[simp] theorem QO : C.ord 103 6 = none := by kernel_rfl
@[simp] theorem RD : C.ord 104 6 = none := by kernel_rfl
@[simp] theorem Yp : C.ord 120 1 = some ⟨[0, 1, 2, 3, 4], [], [], [(0, 3)], [], []⟩ := by kernel_rfl
@[simp] theorem WS : C.ord 120 10 = some ⟨[0, 1, 2, 3, 4, 6, 5, 7], [], [4], [(0, 8), (7, 10)], [], []⟩ := by kernel_rfl
@[simp] theorem WV : C.ord 120 18 = some ⟨[0, 1, 2, 3, 4, 5, 6], [], [], [(1, 12), (3, 8)], [], []⟩ := by kernel_rfl
@[simp] theorem WT : C.ord 126 16 = none := by kernel_rfl
@[simp] theorem ZN : C.ord 135 4 = none := by kernel_rfl
@[simp] theorem abR : C.ord 159 4 = none := by kernel_rfl
@[simp] theorem agz : C.ord 160 2 = none := by kernel_rfl
@[simp] theorem afb : C.ord 160 7 = none := by kernel_rfl
@[simp] theorem ah2 : C.ord 161 5 = some ⟨[0, 1, 2, 3, 4, 5, 6, 7, 8, 9, 10, 11, 12, 13, 14, 15, 16], [14], [6], [], [], []⟩ := by kernel_rfl
@[simp] theorem aaf : C.ord 168 6 = none := by kernel_rfl
@[simp] theorem acn : C.ord 180 4 = none := by kernel_rfl
@[simp] theorem afC : C.ord 188 5 = some ⟨[0, 1, 2, 3, 4, 5, 6, 7, 9, 10, 11, 12, 13, 14, 8, 15, 16, 17, 18, 19, 20], [8, 15], [7, 14], [(1, 3), (3, 1), (10, 1), (20, 3)], [], []⟩ := by kernel_rfl
@[simp] theorem aey : C.ord 192 1 = some ⟨[0, 1, 2, 3, 4, 5, 6, 7, 8, 9, 10], [5], [3], [], [], []⟩ := by kernel_rfl
@[simp] theorem ae4 : C.ord 195 5 = some ⟨[0, 1, 2, 3, 4, 5, 6, 7, 8, 9, 10, 11], [], [], [(1, 3), (3, 5), (5, 5), (11, 3)], [], []⟩ := by kernel_rfl
@[simp] theorem YC : C.ord 198 4 = some ⟨[0, 1, 2, 3, 4, 5, 6, 7], [6], [4], [], [], []⟩ := by kernel_rfl
@[simp] theorem aaI : C.ord 199 4 = some ⟨[0, 1, 2, 3, 4, 5, 6, 7], [6], [4], [], [], []⟩ := by kernel_rfl
@[simp] theorem ZU : C.ord 199 7 = some ⟨[0, 1, 2, 3, 4, 5, 6, 7], [6], [4], [], [], []⟩ := by kernel_rfl
@[simp] theorem adS : C.ord 200 4 = some ⟨[0, 1, 2, 3, 4, 5, 6, 7], [6], [4], [], [], []⟩ := by kernel_rfl
@[simp] theorem afD : C.ord 204 6 = some ⟨[0, 1, 2, 3, 5, 6, 4, 7, 8, 9, 10], [], [], [(0, 3), (10, 6)], [(2, 0), (6, 1)], [(4, [1])]⟩ := by kernel_rfl
@[simp] theorem aeS : C.ord 208 1 = some ⟨[0, 1, 3, 4, 2, 5, 6, 7], [], [], [(1, 1), (4, 1), (7, 2)], [], []⟩ := by kernel_rfl
@[simp] theorem WR : C.ord 213 10 = some ⟨[0, 1, 2, 3, 4, 5, 6, 7, 8, 9, 10, 11, 12, 13, 14, 15, 16, 17], [15], [4, 7], [], [], []⟩ := by kernel_rfl
@[simp] theorem aby : C.ord 217 8 = none := by kernel_rfl
@[simp] theorem XX : C.ord 217 9 = none := by kernel_rfl
@[simp] theorem aic : C.ord 218 5 = some ⟨[0, 1, 2, 3, 4, 5, 6, 7, 8, 9, 10, 11], [], [], [(1, 3), (3, 1), (11, 3)], [], []⟩ := by kernel_rfl
@[simp] theorem XH : C.ord 227 4 = some ⟨[0, 1, 2, 3, 4, 5, 6, 7, 8, 9, 10, 11, 12, 13, 14, 16, 17, 18, 19, 15, 20, 21, 22, 23], [15], [19], [], [], []⟩ := by kernel_rfl
@[simp] theorem WX : C.ord 247 6 = none := by kernel_rfl
@[simp] theorem WQ : C.ord 247 11 = none := by kernel_rfl
@[simp] theorem ahx : C.ord 256 8 = some ⟨[0, 1, 2, 3, 4, 8, 9, 5, 6, 7, 10, 11, 12, 13, 14, 15, 16, 17, 18, 19, 20, 21, 22, 23, 24], [5, 6], [8], [(1, 1), (19, 1)], [], []⟩ := by kernel_rfl
@[simp] theorem ahe : C.ord 278 4 = some ⟨[0, 1, 2, 3, 4, 5, 6], [5], [3], [], [], []⟩ := by kernel_rfl
@[simp] theorem aa8 : C.ord 288 1 = some ⟨[0, 2, 1, 3, 4], [1], [2], [], [], []⟩ := by kernel_rfl
@[simp] theorem afZ : C.ord 297 4 = some ⟨[0, 1, 2, 3, 4, 5, 6, 7, 8, 9, 10, 11, 12, 13, 14, 15, 16, 17], [14], [9], [], [], []⟩ := by kernel_rfl
@[simp] theorem Yu : C.ord 299 5 = some ⟨[0, 1, 3, 4, 5, 7, 8, 9, 10, 2, 6, 11, 12, 13, 14], [2, 6], [5, 10], [(0, 3), (14, 6)], [], []⟩ := by kernel_rfl
@[simp] theorem ad5 : C.ord 312 6 = none := by kernel_rfl
@[simp] theorem WU : C.ord 312 11 = none := by kernel_rfl
@[simp] theorem aif : C.ord 334 6 = some ⟨[0, 1, 2, 3, 4, 5, 6, 7, 8, 10, 11, 12, 13, 9, 14, 15, 16], [9], [13], [], [], []⟩ := by kernel_rfl
@[simp] theorem afY : C.ord 335 5 = some ⟨[0, 1, 2, 3, 5, 6, 8, 9, 4, 7, 10, 11, 12, 13], [], [], [(1, 7), (3, 7), (6, 7), (9, 7), (12, 4)], [], []⟩ := by kernel_rfl
@[simp] theorem agB : C.ord 342 5 = none := by kernel_rfl
@[simp] theorem acI : C.ord 347 1 = some ⟨[0, 2, 1, 3, 4, 5], [1], [2], [], [], []⟩ := by kernel_rfl
end Go.Proofs.Try1
end
