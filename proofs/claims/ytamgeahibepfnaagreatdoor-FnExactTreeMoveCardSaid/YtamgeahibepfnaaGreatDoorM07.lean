/- Part 07 of the proof of a law: the interpreter, its soundness, and what functions of the program compute over it. Conditions: none but those that each theorem names. -/
import Derived.Test.YtamgeahibepfnaaGreatDoorM06
import Derived.KernelRfl

set_option linter.all false
set_option maxRecDepth 20000
set_option maxHeartbeats 40000000
section
namespace Go.Proofs.Try1
open Go Go.Lite
noncomputable def C : Ctx := ctxOf Tryz.prog tabs
@[simp] theorem ty2 : C.ty 2 = ⟨.int .i64, 1, 8, [.int .i64 0]⟩ := by kernel_rfl
@[simp] theorem ty3 : C.ty 3 = ⟨.int .i64, 1, 8, [.int .i64 0]⟩ := by kernel_rfl
@[simp] theorem ty4 : C.ty 4 = ⟨.bool, 1, 1, [.bool false]⟩ := by kernel_rfl
@[simp] theorem ty5 : C.ty 5 = ⟨.int .u8, 1, 1, [.int .u8 0]⟩ := by kernel_rfl
@[simp] theorem ty9 : C.ty 9 = ⟨.str, 1, 16, [.str []]⟩ := by kernel_rfl
@[simp] theorem anb : C.ty 21 = ⟨.int .i32, 1, 4, [.int .i32 0]⟩ := by kernel_rfl
@[simp] theorem WZ : C.ty 22 = ⟨.slice 99, 1, 24, [.slc none 0]⟩ := by kernel_rfl
@[simp] theorem aeV : C.ty 27 = ⟨.slice 178, 1, 24, [.slc none 0]⟩ := by kernel_rfl
@[simp] theorem MX : C.ty 29 = ⟨.struct [(0, 22), (1, 27)], 2, 48, [.slc none 0, .slc none 0]⟩ := by kernel_rfl
@[simp] theorem anh : C.ty 30 = ⟨.slice 9, 1, 24, [.slc none 0]⟩ := by kernel_rfl
@[simp] theorem Vj : C.ty 35 = ⟨.slice 102, 1, 24, [.slc none 0]⟩ := by kernel_rfl
@[simp] theorem abI : C.ty 41 = ⟨.slice 188, 1, 24, [.slc none 0]⟩ := by kernel_rfl
@[simp] theorem SK : C.ty 43 = ⟨.struct [(0, 35), (1, 41)], 2, 48, [.slc none 0, .slc none 0]⟩ := by kernel_rfl
@[simp] theorem Zo : C.ty 55 = ⟨.slice 227, 1, 24, [.slc none 0]⟩ := by kernel_rfl
@[simp] theorem adZ : C.ty 56 = ⟨.slice 29, 1, 24, [.slc none 0]⟩ := by kernel_rfl
@[simp] theorem ani : C.ty 58 = ⟨.struct [(0, 55), (1, 56)], 2, 48, [.slc none 0, .slc none 0]⟩ := by kernel_rfl
@[simp] theorem YS : C.ty 67 = ⟨.slice 232, 1, 24, [.slc none 0]⟩ := by kernel_rfl
@[simp] theorem XV : C.ty 68 = ⟨.slice 43, 1, 24, [.slc none 0]⟩ := by kernel_rfl
@[simp] theorem ank : C.ty 70 = ⟨.struct [(0, 67), (1, 68)], 2, 48, [.slc none 0, .slc none 0]⟩ := by kernel_rfl
@[simp] theorem anj : C.ty 84 = ⟨.struct [(0, 70), (2, 68), (3, 2)], 4, 80, [.slc none 0, .slc none 0, .slc none 0, .int .i64 0]⟩ := by kernel_rfl
@[simp] theorem ND : C.ty 99 = ⟨.struct [(0, 9), (1, 9)], 2, 32, [.str [], .str []]⟩ := by kernel_rfl
@[simp] theorem Gm : C.ty 102 = ⟨.struct [(0, 9), (1, 9)], 2, 32, [.str [], .str []]⟩ := by kernel_rfl
@[simp] theorem am8 : C.ty 116 = ⟨.func, 1, 8, [.nilfn]⟩ := by kernel_rfl
@[simp] theorem amO : C.ty 121 = ⟨.ptr, 1, 8, [.ptr none]⟩ := by kernel_rfl
@[simp] theorem amY : C.ty 130 = ⟨.func, 1, 8, [.nilfn]⟩ := by kernel_rfl
@[simp] theorem am4 : C.ty 150 = ⟨.func, 1, 8, [.nilfn]⟩ := by kernel_rfl
@[simp] theorem am6 : C.ty 160 = ⟨.func, 1, 8, [.nilfn]⟩ := by kernel_rfl
@[simp] theorem amN : C.ty 162 = ⟨.ptr, 1, 8, [.ptr none]⟩ := by kernel_rfl
@[simp] theorem amV : C.ty 164 = ⟨.func, 1, 8, [.nilfn]⟩ := by kernel_rfl
@[simp] theorem BD : C.ty 178 = ⟨.struct [(0, 9), (1, 30)], 2, 40, [.str [], .slc none 0]⟩ := by kernel_rfl
@[simp] theorem MB : C.ty 188 = ⟨.struct [(0, 9), (1, 30)], 2, 40, [.str [], .slc none 0]⟩ := by kernel_rfl
@[simp] theorem BP : C.ty 227 = ⟨.struct [(0, 9), (1, 30), (2, 30), (3, 30)], 4, 88, [.str [], .slc none 0, .slc none 0, .slc none 0]⟩ := by kernel_rfl
@[simp] theorem LC : C.ty 232 = ⟨.struct [(0, 9), (1, 30), (2, 30), (3, 30)], 4, 88, [.str [], .slc none 0, .slc none 0, .slc none 0]⟩ := by kernel_rfl
@[simp] theorem amT : C.ty 234 = ⟨.slice 35, 1, 24, [.slc none 0]⟩ := by kernel_rfl
@[simp] theorem acJ : C.ty 242 = ⟨.slice 5, 1, 24, [.slc none 0]⟩ := by kernel_rfl
@[simp] theorem am2 : C.ty 245 = ⟨.struct [(0, 35), (1, 2)], 2, 32, [.slc none 0, .int .i64 0]⟩ := by kernel_rfl
@[simp] theorem amS : C.ty 249 = ⟨.struct [(0, 43), (2, 2)], 3, 56, [.slc none 0, .slc none 0, .int .i64 0]⟩ := by kernel_rfl
@[simp] theorem amR : C.ty 277 = ⟨.slice 30, 1, 24, [.slc none 0]⟩ := by kernel_rfl
@[simp] theorem am1 : C.ty 280 = ⟨.func, 1, 8, [.nilfn]⟩ := by kernel_rfl
@[simp] theorem amQ : C.ty 294 = ⟨.func, 1, 8, [.nilfn]⟩ := by kernel_rfl
@[simp] theorem amU : C.ty 297 = ⟨.func, 1, 8, [.nilfn]⟩ := by kernel_rfl
@[simp] theorem am7 : C.ty 309 = ⟨.array 256 4, 256, 256, List.replicate 256 (.bool false)⟩ := by kernel_rfl
@[simp] theorem am5 : C.ty 313 = ⟨.ptr, 1, 8, [.ptr none]⟩ := by kernel_rfl
@[simp] theorem am0 : C.ty 348 = ⟨.int .u64, 1, 8, [.int .u64 0]⟩ := by kernel_rfl
@[simp] theorem am3 : C.ty 362 = ⟨.func, 1, 8, [.nilfn]⟩ := by kernel_rfl
@[simp] theorem amZ : C.ty 381 = ⟨.array 256 5, 256, 256, List.replicate 256 (.int .u8 0)⟩ := by kernel_rfl
@[simp] theorem amP : C.ty 383 = ⟨.struct [(0, 5), (1, 5)], 2, 2, [.int .u8 0, .int .u8 0]⟩ := by kernel_rfl
@[simp] theorem amW : C.ty 384 = ⟨.array 16 383, 32, 32, List.replicate 32 (.int .u8 0)⟩ := by kernel_rfl
noncomputable def y9 : Code := match Tryz.f7.body with | some c => c | none => .skip
theorem fi7 : C.fids 7 = true := by kernel_rfl
theorem bo7 : Tryz.f7.body = some y9 := rfl
theorem pr7 : C.prim 7 = none := rfl
theorem fu7 : C.funcs 7 = some Tryz.f7 := Tryz.func7
theorem op7 {a : List V} {H : List Ob} {R : V → List Ob → Prop} : Ret C 7 a H R ↔ WP C 7 y9 ⟨af a, 0, H⟩ (aF C Tryz.f7 H R) := ah pr7 fi7 fu7 bo7
@[simp] theorem amX : C.locs 7 = [4, 6, 10, 11, 14, 18] := by kernel_rfl
noncomputable def zu : Code := match Tryz.f10.body with | some c => c | none => .skip
theorem ai7 : C.fids 10 = true := by kernel_rfl
theorem alv : Tryz.f10.body = some zu := rfl
theorem alg : C.prim 10 = none := rfl
theorem akx : C.funcs 10 = some Tryz.f10 := Tryz.func10
theorem U1 {a : List V} {H : List Ob} {R : V → List Ob → Prop} : Ret C 10 a H R ↔ WP C 10 zu ⟨af a, 0, H⟩ (aF C Tryz.f10 H R) := ah alg ai7 akx alv
@[simp] theorem al8 : C.locs 10 = [2] := by kernel_rfl
noncomputable def EC : Code := match Tryz.f11.body with | some c => c | none => .skip
theorem ajf : C.fids 11 = true := by kernel_rfl
theorem aki : Tryz.f11.body = some EC := rfl
theorem alr : C.prim 11 = none := rfl
theorem amk : C.funcs 11 = some Tryz.f11 := Tryz.func11
theorem akD {a : List V} {H : List Ob} {R : V → List Ob → Prop} : Ret C 11 a H R ↔ WP C 11 EC ⟨af a, 0, H⟩ (aF C Tryz.f11 H R) := ah alr ajf amk aki
@[simp] theorem ajy : C.locs 11 = [] := by kernel_rfl
noncomputable def Jf : Code := match Tryz.f14.body with | some c => c | none => .skip
theorem ali : C.fids 14 = true := by kernel_rfl
theorem amB : Tryz.f14.body = some Jf := rfl
theorem ajm : C.prim 14 = none := rfl
theorem amw : C.funcs 14 = some Tryz.f14 := Tryz.func14
theorem al3 {a : List V} {H : List Ob} {R : V → List Ob → Prop} : Ret C 14 a H R ↔ WP C 14 Jf ⟨af a, 0, H⟩ (aF C Tryz.f14 H R) := ah ajm ali amw amB
@[simp] theorem akL : C.locs 14 = [1, 2, 3] := by kernel_rfl
noncomputable def I8 : Code := match Tryz.f15.body with | some c => c | none => .skip
theorem akU : C.fids 15 = true := by kernel_rfl
theorem aj3 : Tryz.f15.body = some I8 := rfl
theorem alz : C.prim 15 = none := rfl
theorem ajD : C.funcs 15 = some Tryz.f15 := Tryz.func15
theorem amI {a : List V} {H : List Ob} {R : V → List Ob → Prop} : Ret C 15 a H R ↔ WP C 15 I8 ⟨af a, 0, H⟩ (aF C Tryz.f15 H R) := ah alz akU ajD aj3
@[simp] theorem ajV : C.locs 15 = [] := by kernel_rfl
noncomputable def zt : Code := match Tryz.f18.body with | some c => c | none => .skip
theorem amg : C.fids 18 = true := by kernel_rfl
theorem al7 : Tryz.f18.body = some zt := rfl
theorem akb : C.prim 18 = none := rfl
theorem ajk : C.funcs 18 = some Tryz.f18 := Tryz.func18
theorem Vy {a : List V} {H : List Ob} {R : V → List Ob → Prop} : Ret C 18 a H R ↔ WP C 18 zt ⟨af a, 0, H⟩ (aF C Tryz.f18 H R) := ah akb amg ajk al7
@[simp] theorem ajI : C.locs 18 = [2, 3] := by kernel_rfl
noncomputable def FX : Code := match Tryz.f19.body with | some c => c | none => .skip
theorem alN : C.fids 19 = true := by kernel_rfl
theorem amM : Tryz.f19.body = some FX := rfl
theorem amx : C.prim 19 = none := rfl
theorem alR : C.funcs 19 = some Tryz.f19 := Tryz.func19
theorem alS {a : List V} {H : List Ob} {R : V → List Ob → Prop} : Ret C 19 a H R ↔ WP C 19 FX ⟨af a, 0, H⟩ (aF C Tryz.f19 H R) := ah amx alN alR amM
@[simp] theorem amz : C.locs 19 = [] := by kernel_rfl
noncomputable def zL : Code := match Tryz.f28.body with | some c => c | none => .skip
theorem ajS : C.fids 28 = true := by kernel_rfl
theorem ajW : Tryz.f28.body = some zL := rfl
theorem ajw : C.prim 28 = none := rfl
theorem amC : C.funcs 28 = some Tryz.f28 := Tryz.func28
theorem Vg {a : List V} {H : List Ob} {R : V → List Ob → Prop} : Ret C 28 a H R ↔ WP C 28 zL ⟨af a, 0, H⟩ (aF C Tryz.f28 H R) := ah ajw ajS amC ajW
@[simp] theorem ajN : C.locs 28 = [2] := by kernel_rfl
noncomputable def xh : Code := match Tryz.f29.body with | some c => c | none => .skip
theorem alD : C.fids 29 = true := by kernel_rfl
theorem akB : Tryz.f29.body = some xh := rfl
theorem amA : C.prim 29 = none := rfl
theorem ak4 : C.funcs 29 = some Tryz.f29 := Tryz.func29
theorem aml {a : List V} {H : List Ob} {R : V → List Ob → Prop} : Ret C 29 a H R ↔ WP C 29 xh ⟨af a, 0, H⟩ (aF C Tryz.f29 H R) := ah amA alD ak4 akB
@[simp] theorem amj : C.locs 29 = [] := by kernel_rfl
noncomputable def Je : Code := match Tryz.f32.body with | some c => c | none => .skip
theorem amo : C.fids 32 = true := by kernel_rfl
theorem ajT : Tryz.f32.body = some Je := rfl
theorem aj6 : C.prim 32 = none := rfl
theorem al1 : C.funcs 32 = some Tryz.f32 := Tryz.func32
theorem amq {a : List V} {H : List Ob} {R : V → List Ob → Prop} : Ret C 32 a H R ↔ WP C 32 Je ⟨af a, 0, H⟩ (aF C Tryz.f32 H R) := ah aj6 amo al1 ajT
@[simp] theorem al5 : C.locs 32 = [1, 2, 3] := by kernel_rfl
noncomputable def Aq : Code := match Tryz.f33.body with | some c => c | none => .skip
theorem amE : C.fids 33 = true := by kernel_rfl
theorem al4 : Tryz.f33.body = some Aq := rfl
theorem aje : C.prim 33 = none := rfl
theorem ajF : C.funcs 33 = some Tryz.f33 := Tryz.func33
theorem amd {a : List V} {H : List Ob} {R : V → List Ob → Prop} : Ret C 33 a H R ↔ WP C 33 Aq ⟨af a, 0, H⟩ (aF C Tryz.f33 H R) := ah aje amE ajF al4
@[simp] theorem aks : C.locs 33 = [] := by kernel_rfl
noncomputable def wU : Code := match Tryz.f36.body with | some c => c | none => .skip
theorem alX : C.fids 36 = true := by kernel_rfl
theorem alG : Tryz.f36.body = some wU := rfl
theorem ajg : C.prim 36 = none := rfl
theorem alF : C.funcs 36 = some Tryz.f36 := Tryz.func36
theorem Tv {a : List V} {H : List Ob} {R : V → List Ob → Prop} : Ret C 36 a H R ↔ WP C 36 wU ⟨af a, 0, H⟩ (aF C Tryz.f36 H R) := ah ajg alX alF alG
@[simp] theorem amF : C.locs 36 = [2, 3] := by kernel_rfl
noncomputable def zf : Code := match Tryz.f37.body with | some c => c | none => .skip
theorem ai4 : C.fids 37 = true := by kernel_rfl
theorem amJ : Tryz.f37.body = some zf := rfl
theorem alm : C.prim 37 = none := rfl
theorem als : C.funcs 37 = some Tryz.f37 := Tryz.func37
theorem U6 {a : List V} {H : List Ob} {R : V → List Ob → Prop} : Ret C 37 a H R ↔ WP C 37 zf ⟨af a, 0, H⟩ (aF C Tryz.f37 H R) := ah alm ai4 als amJ
@[simp] theorem alu : C.locs 37 = [2, 3] := by kernel_rfl
noncomputable def wZ : Code := match Tryz.f38.body with | some c => c | none => .skip
theorem ajc : C.fids 38 = true := by kernel_rfl
theorem akv : Tryz.f38.body = some wZ := rfl
theorem alc : C.prim 38 = none := rfl
theorem alV : C.funcs 38 = some Tryz.f38 := Tryz.func38
theorem ai3 {a : List V} {H : List Ob} {R : V → List Ob → Prop} : Ret C 38 a H R ↔ WP C 38 wZ ⟨af a, 0, H⟩ (aF C Tryz.f38 H R) := ah alc ajc alV akv
@[simp] theorem amh : C.locs 38 = [] := by kernel_rfl
noncomputable def Jk : Code := match Tryz.f40.body with | some c => c | none => .skip
theorem akS : C.fids 40 = true := by kernel_rfl
theorem ajj : Tryz.f40.body = some Jk := rfl
theorem ajM : C.prim 40 = none := rfl
theorem akr : C.funcs 40 = some Tryz.f40 := Tryz.func40
theorem ajh {a : List V} {H : List Ob} {R : V → List Ob → Prop} : Ret C 40 a H R ↔ WP C 40 Jk ⟨af a, 0, H⟩ (aF C Tryz.f40 H R) := ah ajM akS akr ajj
@[simp] theorem ajR : C.locs 40 = [2] := by kernel_rfl
noncomputable def KI : Code := match Tryz.f41.body with | some c => c | none => .skip
theorem alT : C.fids 41 = true := by kernel_rfl
theorem akt : Tryz.f41.body = some KI := rfl
theorem akM : C.prim 41 = none := rfl
theorem amy : C.funcs 41 = some Tryz.f41 := Tryz.func41
theorem aj2 {a : List V} {H : List Ob} {R : V → List Ob → Prop} : Ret C 41 a H R ↔ WP C 41 KI ⟨af a, 0, H⟩ (aF C Tryz.f41 H R) := ah akM alT amy akt
@[simp] theorem akj : C.locs 41 = [] := by kernel_rfl
noncomputable def Jq : Code := match Tryz.f43.body with | some c => c | none => .skip
theorem alb : C.fids 43 = true := by kernel_rfl
theorem ak1 : Tryz.f43.body = some Jq := rfl
theorem akl : C.prim 43 = none := rfl
theorem amv : C.funcs 43 = some Tryz.f43 := Tryz.func43
theorem ajv {a : List V} {H : List Ob} {R : V → List Ob → Prop} : Ret C 43 a H R ↔ WP C 43 Jq ⟨af a, 0, H⟩ (aF C Tryz.f43 H R) := ah akl alb amv ak1
@[simp] theorem aj1 : C.locs 43 = [2] := by kernel_rfl
noncomputable def I9 : Code := match Tryz.f44.body with | some c => c | none => .skip
theorem ak8 : C.fids 44 = true := by kernel_rfl
theorem akF : Tryz.f44.body = some I9 := rfl
theorem akW : C.prim 44 = none := rfl
theorem aly : C.funcs 44 = some Tryz.f44 := Tryz.func44
theorem ai8 {a : List V} {H : List Ob} {R : V → List Ob → Prop} : Ret C 44 a H R ↔ WP C 44 I9 ⟨af a, 0, H⟩ (aF C Tryz.f44 H R) := ah akW ak8 aly akF
@[simp] theorem alW : C.locs 44 = [2] := by kernel_rfl
noncomputable def Ac : Code := match Tryz.f45.body with | some c => c | none => .skip
theorem akg : C.fids 45 = true := by kernel_rfl
theorem ajs : Tryz.f45.body = some Ac := rfl
theorem akd : C.prim 45 = none := rfl
theorem akX : C.funcs 45 = some Tryz.f45 := Tryz.func45
theorem Vt {a : List V} {H : List Ob} {R : V → List Ob → Prop} : Ret C 45 a H R ↔ WP C 45 Ac ⟨af a, 0, H⟩ (aF C Tryz.f45 H R) := ah akd akg akX ajs
@[simp] theorem ak3 : C.locs 45 = [2] := by kernel_rfl
noncomputable def qw : Code := match Tryz.f46.body with | some c => c | none => .skip
theorem aji : C.fids 46 = true := by kernel_rfl
theorem akk : Tryz.f46.body = some qw := rfl
theorem amK : C.prim 46 = none := rfl
theorem alI : C.funcs 46 = some Tryz.f46 := Tryz.func46
theorem amc {a : List V} {H : List Ob} {R : V → List Ob → Prop} : Ret C 46 a H R ↔ WP C 46 qw ⟨af a, 0, H⟩ (aF C Tryz.f46 H R) := ah amK aji alI akk
@[simp] theorem akp : C.locs 46 = [4, 6, 8] := by kernel_rfl
noncomputable def Jj : Code := match Tryz.f47.body with | some c => c | none => .skip
theorem ajz : C.fids 47 = true := by kernel_rfl
theorem ala : Tryz.f47.body = some Jj := rfl
theorem al0 : C.prim 47 = none := rfl
theorem akT : C.funcs 47 = some Tryz.f47 := Tryz.func47
theorem aju {a : List V} {H : List Ob} {R : V → List Ob → Prop} : Ret C 47 a H R ↔ WP C 47 Jj ⟨af a, 0, H⟩ (aF C Tryz.f47 H R) := ah al0 ajz akT ala
@[simp] theorem alh : C.locs 47 = [1, 2, 3] := by kernel_rfl
noncomputable def AA : Code := match Tryz.f48.body with | some c => c | none => .skip
theorem ajr : C.fids 48 = true := by kernel_rfl
theorem ald : Tryz.f48.body = some AA := rfl
theorem ak0 : C.prim 48 = none := rfl
theorem akn : C.funcs 48 = some Tryz.f48 := Tryz.func48
theorem alC {a : List V} {H : List Ob} {R : V → List Ob → Prop} : Ret C 48 a H R ↔ WP C 48 AA ⟨af a, 0, H⟩ (aF C Tryz.f48 H R) := ah ak0 ajr akn ald
@[simp] theorem al9 : C.locs 48 = [8] := by kernel_rfl
noncomputable def Jv : Code := match Tryz.f56.body with | some c => c | none => .skip
theorem alY : C.fids 56 = true := by kernel_rfl
theorem ajG : Tryz.f56.body = some Jv := rfl
theorem ajL : C.prim 56 = none := rfl
theorem akw : C.funcs 56 = some Tryz.f56 := Tryz.func56
theorem amu {a : List V} {H : List Ob} {R : V → List Ob → Prop} : Ret C 56 a H R ↔ WP C 56 Jv ⟨af a, 0, H⟩ (aF C Tryz.f56 H R) := ah ajL alY akw ajG
@[simp] theorem alf : C.locs 56 = [] := by kernel_rfl
noncomputable def xn : Code := match Tryz.f58.body with | some c => c | none => .skip
theorem ams : C.fids 58 = true := by kernel_rfl
theorem alA : Tryz.f58.body = some xn := rfl
theorem amf : C.prim 58 = none := rfl
theorem ajd : C.funcs 58 = some Tryz.f58 := Tryz.func58
theorem alJ {a : List V} {H : List Ob} {R : V → List Ob → Prop} : Ret C 58 a H R ↔ WP C 58 xn ⟨af a, 0, H⟩ (aF C Tryz.f58 H R) := ah amf ams ajd alA
@[simp] theorem ajC : C.locs 58 = [1] := by kernel_rfl
noncomputable def JL : Code := match Tryz.f59.body with | some c => c | none => .skip
theorem ak2 : C.fids 59 = true := by kernel_rfl
theorem ako : Tryz.f59.body = some JL := rfl
theorem alx : C.prim 59 = none := rfl
theorem amL : C.funcs 59 = some Tryz.f59 := Tryz.func59
theorem ajp {a : List V} {H : List Ob} {R : V → List Ob → Prop} : Ret C 59 a H R ↔ WP C 59 JL ⟨af a, 0, H⟩ (aF C Tryz.f59 H R) := ah alx ak2 amL ako
@[simp] theorem aj0 : C.locs 59 = [] := by kernel_rfl
noncomputable def J7 : Code := match Tryz.f62.body with | some c => c | none => .skip
theorem akO : C.fids 62 = true := by kernel_rfl
theorem alP : Tryz.f62.body = some J7 := rfl
theorem akC : C.prim 62 = none := rfl
theorem ajb : C.funcs 62 = some Tryz.f62 := Tryz.func62
theorem aky {a : List V} {H : List Ob} {R : V → List Ob → Prop} : Ret C 62 a H R ↔ WP C 62 J7 ⟨af a, 0, H⟩ (aF C Tryz.f62 H R) := ah akC akO ajb alP
@[simp] theorem alH : C.locs 62 = [] := by kernel_rfl
noncomputable def xg : Code := match Tryz.f65.body with | some c => c | none => .skip
theorem aja : C.fids 65 = true := by kernel_rfl
theorem akm : Tryz.f65.body = some xg := rfl
theorem ai6 : C.prim 65 = none := rfl
theorem ami : C.funcs 65 = some Tryz.f65 := Tryz.func65
theorem akH {a : List V} {H : List Ob} {R : V → List Ob → Prop} : Ret C 65 a H R ↔ WP C 65 xg ⟨af a, 0, H⟩ (aF C Tryz.f65 H R) := ah ai6 aja ami akm
@[simp] theorem akQ : C.locs 65 = [1, 4] := by kernel_rfl
noncomputable def Ko : Code := match Tryz.f66.body with | some c => c | none => .skip
theorem alj : C.fids 66 = true := by kernel_rfl
theorem alE : Tryz.f66.body = some Ko := rfl
theorem ajU : C.prim 66 = none := rfl
theorem akR : C.funcs 66 = some Tryz.f66 := Tryz.func66
theorem akG {a : List V} {H : List Ob} {R : V → List Ob → Prop} : Ret C 66 a H R ↔ WP C 66 Ko ⟨af a, 0, H⟩ (aF C Tryz.f66 H R) := ah ajU alj akR alE
@[simp] theorem amm : C.locs 66 = [] := by kernel_rfl
noncomputable def KJ : Code := match Tryz.f69.body with | some c => c | none => .skip
theorem akq : C.fids 69 = true := by kernel_rfl
theorem ajt : Tryz.f69.body = some KJ := rfl
theorem akA : C.prim 69 = none := rfl
theorem alp : C.funcs 69 = some Tryz.f69 := Tryz.func69
theorem ama {a : List V} {H : List Ob} {R : V → List Ob → Prop} : Ret C 69 a H R ↔ WP C 69 KJ ⟨af a, 0, H⟩ (aF C Tryz.f69 H R) := ah akA akq alp ajt
@[simp] theorem alB : C.locs 69 = [] := by kernel_rfl
noncomputable def Ae : Code := match Tryz.f74.body with | some c => c | none => .skip
theorem alL : C.fids 74 = true := by kernel_rfl
theorem ak5 : Tryz.f74.body = some Ae := rfl
theorem akY : C.prim 74 = none := rfl
theorem ame : C.funcs 74 = some Tryz.f74 := Tryz.func74
theorem aln {a : List V} {H : List Ob} {R : V → List Ob → Prop} : Ret C 74 a H R ↔ WP C 74 Ae ⟨af a, 0, H⟩ (aF C Tryz.f74 H R) := ah akY alL ame ak5
@[simp] theorem akV : C.locs 74 = [1, 4] := by kernel_rfl
noncomputable def lY : Code := match Tryz.f77.body with | some c => c | none => .skip
theorem UO : C.fids 77 = true := by kernel_rfl
theorem Vr : Tryz.f77.body = some lY := rfl
theorem Vl : C.prim 77 = none := rfl
theorem Vo : C.funcs 77 = some Tryz.f77 := Tryz.func77
theorem Vm {a : List V} {H : List Ob} {R : V → List Ob → Prop} : Ret C 77 a H R ↔ WP C 77 lY ⟨af a, 0, H⟩ (aF C Tryz.f77 H R) := ah Vl UO Vo Vr
@[simp] theorem UR : C.locs 77 = [] := by kernel_rfl
noncomputable def Ad : Code := match Tryz.f80.body with | some c => c | none => .skip
theorem ak6 : C.fids 80 = true := by kernel_rfl
theorem alQ : Tryz.f80.body = some Ad := rfl
theorem amb : C.prim 80 = none := rfl
theorem akP : C.funcs 80 = some Tryz.f80 := Tryz.func80
theorem amD {a : List V} {H : List Ob} {R : V → List Ob → Prop} : Ret C 80 a H R ↔ WP C 80 Ad ⟨af a, 0, H⟩ (aF C Tryz.f80 H R) := ah amb ak6 akP alQ
@[simp] theorem amr : C.locs 80 = [4] := by kernel_rfl
noncomputable def qH : Code := match Tryz.f83.body with | some c => c | none => .skip
theorem alo : C.fids 83 = true := by kernel_rfl
theorem akI : Tryz.f83.body = some qH := rfl
theorem ajK : C.prim 83 = none := rfl
theorem akZ : C.funcs 83 = some Tryz.f83 := Tryz.func83
theorem amn {a : List V} {H : List Ob} {R : V → List Ob → Prop} : Ret C 83 a H R ↔ WP C 83 qH ⟨af a, 0, H⟩ (aF C Tryz.f83 H R) := ah ajK alo akZ akI
@[simp] theorem alq : C.locs 83 = [] := by kernel_rfl
noncomputable def Jh : Code := match Tryz.f86.body with | some c => c | none => .skip
theorem alk : C.fids 86 = true := by kernel_rfl
theorem aj7 : Tryz.f86.body = some Jh := rfl
theorem ak7 : C.prim 86 = none := rfl
theorem al6 : C.funcs 86 = some Tryz.f86 := Tryz.func86
theorem aj8 {a : List V} {H : List Ob} {R : V → List Ob → Prop} : Ret C 86 a H R ↔ WP C 86 Jh ⟨af a, 0, H⟩ (aF C Tryz.f86 H R) := ah ak7 alk al6 aj7
@[simp] theorem akK : C.locs 86 = [] := by kernel_rfl
noncomputable def Jb : Code := match Tryz.f87.body with | some c => c | none => .skip
theorem al2 : C.fids 87 = true := by kernel_rfl
theorem ajJ : Tryz.f87.body = some Jb := rfl
theorem akh : C.prim 87 = none := rfl
theorem akE : C.funcs 87 = some Tryz.f87 := Tryz.func87
theorem ajX {a : List V} {H : List Ob} {R : V → List Ob → Prop} : Ret C 87 a H R ↔ WP C 87 Jb ⟨af a, 0, H⟩ (aF C Tryz.f87 H R) := ah akh al2 akE ajJ
@[simp] theorem aj9 : C.locs 87 = [] := by kernel_rfl
noncomputable def Jt : Code := match Tryz.f89.body with | some c => c | none => .skip
theorem alK : C.fids 89 = true := by kernel_rfl
theorem ai9 : Tryz.f89.body = some Jt := rfl
theorem ajP : C.prim 89 = none := rfl
theorem ajl : C.funcs 89 = some Tryz.f89 := Tryz.func89
theorem alM {a : List V} {H : List Ob} {R : V → List Ob → Prop} : Ret C 89 a H R ↔ WP C 89 Jt ⟨af a, 0, H⟩ (aF C Tryz.f89 H R) := ah ajP alK ajl ai9
@[simp] theorem aku : C.locs 89 = [2] := by kernel_rfl
noncomputable def I4 : Code := match Tryz.f90.body with | some c => c | none => .skip
theorem amG : C.fids 90 = true := by kernel_rfl
theorem akJ : Tryz.f90.body = some I4 := rfl
theorem ajo : C.prim 90 = none := rfl
theorem ak9 : C.funcs 90 = some Tryz.f90 := Tryz.func90
theorem ajY {a : List V} {H : List Ob} {R : V → List Ob → Prop} : Ret C 90 a H R ↔ WP C 90 I4 ⟨af a, 0, H⟩ (aF C Tryz.f90 H R) := ah ajo amG ak9 akJ
@[simp] theorem ajO : C.locs 90 = [] := by kernel_rfl
noncomputable def Jw : Code := match Tryz.f94.body with | some c => c | none => .skip
theorem ajZ : C.fids 94 = true := by kernel_rfl
theorem ajn : Tryz.f94.body = some Jw := rfl
theorem akN : C.prim 94 = none := rfl
theorem ajQ : C.funcs 94 = some Tryz.f94 := Tryz.func94
theorem aka {a : List V} {H : List Ob} {R : V → List Ob → Prop} : Ret C 94 a H R ↔ WP C 94 Jw ⟨af a, 0, H⟩ (aF C Tryz.f94 H R) := ah akN ajZ ajQ ajn
@[simp] theorem ajE : C.locs 94 = [] := by kernel_rfl
noncomputable def JJ : Code := match Tryz.f95.body with | some c => c | none => .skip
theorem ajB : C.fids 95 = true := by kernel_rfl
theorem alO : Tryz.f95.body = some JJ := rfl
theorem akf : C.prim 95 = none := rfl
theorem akc : C.funcs 95 = some Tryz.f95 := Tryz.func95
theorem ajH {a : List V} {H : List Ob} {R : V → List Ob → Prop} : Ret C 95 a H R ↔ WP C 95 JJ ⟨af a, 0, H⟩ (aF C Tryz.f95 H R) := ah akf ajB akc alO
@[simp] theorem ai5 : C.locs 95 = [] := by kernel_rfl
noncomputable def JV : Code := match Tryz.f98.body with | some c => c | none => .skip
theorem alZ : C.fids 98 = true := by kernel_rfl
theorem ajq : Tryz.f98.body = some JV := rfl
theorem ajA : C.prim 98 = none := rfl
theorem ajx : C.funcs 98 = some Tryz.f98 := Tryz.func98
theorem akz {a : List V} {H : List Ob} {R : V → List Ob → Prop} : Ret C 98 a H R ↔ WP C 98 JV ⟨af a, 0, H⟩ (aF C Tryz.f98 H R) := ah ajA alZ ajx ajq
@[simp] theorem amH : C.locs 98 = [] := by kernel_rfl
noncomputable def CO : Code := match Tryz.f103.body with | some c => c | none => .skip
theorem aaB : C.fids 103 = true := by kernel_rfl
theorem adX : Tryz.f103.body = some CO := rfl
theorem Xf : C.prim 103 = none := rfl
theorem Za : C.funcs 103 = some Tryz.f103 := Tryz.func103
theorem V7 {a : List V} {H : List Ob} {R : V → List Ob → Prop} : Ret C 103 a H R ↔ WP C 103 CO ⟨af a, 0, H⟩ (aF C Tryz.f103 H R) := ah Xf aaB Za adX
@[simp] theorem ahh : C.locs 103 = [] := by kernel_rfl
noncomputable def CG : Code := match Tryz.f104.body with | some c => c | none => .skip
theorem XJ : C.fids 104 = true := by kernel_rfl
theorem abg : Tryz.f104.body = some CG := rfl
theorem agJ : C.prim 104 = none := rfl
theorem ae0 : C.funcs 104 = some Tryz.f104 := Tryz.func104
theorem ac8 {a : List V} {H : List Ob} {R : V → List Ob → Prop} : Ret C 104 a H R ↔ WP C 104 CG ⟨af a, 0, H⟩ (aF C Tryz.f104 H R) := ah agJ XJ ae0 abg
@[simp] theorem aiF : C.locs 104 = [] := by kernel_rfl
noncomputable def vz : Code := match Tryz.f105.body with | some c => c | none => .skip
theorem adT : C.fids 105 = true := by kernel_rfl
theorem agf : Tryz.f105.body = some vz := rfl
theorem ZP : C.prim 105 = none := rfl
theorem ab6 : C.funcs 105 = some Tryz.f105 := Tryz.func105
theorem PY {a : List V} {H : List Ob} {R : V → List Ob → Prop} : Ret C 105 a H R ↔ WP C 105 vz ⟨af a, 0, H⟩ (aF C Tryz.f105 H R) := ah ZP adT ab6 agf
@[simp] theorem aiL : C.locs 105 = [2, 3] := by kernel_rfl
noncomputable def Di : Code := match Tryz.f107.body with | some c => c | none => .skip
theorem adG : C.fids 107 = true := by kernel_rfl
theorem adR : Tryz.f107.body = some Di := rfl
theorem adY : C.prim 107 = none := rfl
theorem Zb : C.funcs 107 = some Tryz.f107 := Tryz.func107
theorem Zw {a : List V} {H : List Ob} {R : V → List Ob → Prop} : Ret C 107 a H R ↔ WP C 107 Di ⟨af a, 0, H⟩ (aF C Tryz.f107 H R) := ah adY adG Zb adR
@[simp] theorem ahm : C.locs 107 = [] := by kernel_rfl
noncomputable def Dt : Code := match Tryz.f108.body with | some c => c | none => .skip
theorem aaz : C.fids 108 = true := by kernel_rfl
theorem aaG : Tryz.f108.body = some Dt := rfl
theorem abA : C.prim 108 = none := rfl
theorem XL : C.funcs 108 = some Tryz.f108 := Tryz.func108
theorem aeB {a : List V} {H : List Ob} {R : V → List Ob → Prop} : Ret C 108 a H R ↔ WP C 108 Dt ⟨af a, 0, H⟩ (aF C Tryz.f108 H R) := ah abA aaz XL aaG
@[simp] theorem ag0 : C.locs 108 = [] := by kernel_rfl
noncomputable def yU : Code := match Tryz.f109.body with | some c => c | none => .skip
theorem Ya : C.fids 109 = true := by kernel_rfl
theorem YZ : Tryz.f109.body = some yU := rfl
theorem Zf : C.prim 109 = none := rfl
theorem VY : C.funcs 109 = some Tryz.f109 := Tryz.func109
theorem afs {a : List V} {H : List Ob} {R : V → List Ob → Prop} : Ret C 109 a H R ↔ WP C 109 yU ⟨af a, 0, H⟩ (aF C Tryz.f109 H R) := ah Zf Ya VY YZ
@[simp] theorem ain : C.locs 109 = [] := by kernel_rfl
noncomputable def CP : Code := match Tryz.f110.body with | some c => c | none => .skip
theorem ads : C.fids 110 = true := by kernel_rfl
theorem ac6 : Tryz.f110.body = some CP := rfl
theorem abh : C.prim 110 = none := rfl
theorem afF : C.funcs 110 = some Tryz.f110 := Tryz.func110
theorem afi {a : List V} {H : List Ob} {R : V → List Ob → Prop} : Ret C 110 a H R ↔ WP C 110 CP ⟨af a, 0, H⟩ (aF C Tryz.f110 H R) := ah abh ads afF ac6
@[simp] theorem aiK : C.locs 110 = [2] := by kernel_rfl
noncomputable def FH : Code := match Tryz.f111.body with | some c => c | none => .skip
theorem Zx : C.fids 111 = true := by kernel_rfl
theorem Yl : Tryz.f111.body = some FH := rfl
theorem aeI : C.prim 111 = none := rfl
theorem aai : C.funcs 111 = some Tryz.f111 := Tryz.func111
theorem YG {a : List V} {H : List Ob} {R : V → List Ob → Prop} : Ret C 111 a H R ↔ WP C 111 FH ⟨af a, 0, H⟩ (aF C Tryz.f111 H R) := ah aeI Zx aai Yl
@[simp] theorem aiG : C.locs 111 = [] := by kernel_rfl
noncomputable def iK : Code := match Tryz.f112.body with | some c => c | none => .skip
theorem X6 : C.fids 112 = true := by kernel_rfl
theorem Zy : Tryz.f112.body = some iK := rfl
theorem aaQ : C.prim 112 = none := rfl
theorem afA : C.funcs 112 = some Tryz.f112 := Tryz.func112
theorem afO {a : List V} {H : List Ob} {R : V → List Ob → Prop} : Ret C 112 a H R ↔ WP C 112 iK ⟨af a, 0, H⟩ (aF C Tryz.f112 H R) := ah aaQ X6 afA Zy
@[simp] theorem ahK : C.locs 112 = [4, 6, 8, 10, 12, 13] := by kernel_rfl
noncomputable def wP : Code := match Tryz.f113.body with | some c => c | none => .skip
theorem afU : C.fids 113 = true := by kernel_rfl
theorem age : Tryz.f113.body = some wP := rfl
theorem afG : C.prim 113 = none := rfl
theorem agb : C.funcs 113 = some Tryz.f113 := Tryz.func113
theorem Y4 {a : List V} {H : List Ob} {R : V → List Ob → Prop} : Ret C 113 a H R ↔ WP C 113 wP ⟨af a, 0, H⟩ (aF C Tryz.f113 H R) := ah afG afU agb age
@[simp] theorem aiM : C.locs 113 = [] := by kernel_rfl
noncomputable def wu : Code := match Tryz.f114.body with | some c => c | none => .skip
theorem aaE : C.fids 114 = true := by kernel_rfl
theorem Xn : Tryz.f114.body = some wu := rfl
theorem YH : C.prim 114 = none := rfl
theorem aaf : C.funcs 114 = some Tryz.f114 := Tryz.func114
theorem aac {a : List V} {H : List Ob} {R : V → List Ob → Prop} : Ret C 114 a H R ↔ WP C 114 wu ⟨af a, 0, H⟩ (aF C Tryz.f114 H R) := ah YH aaE aaf Xn
@[simp] theorem ahP : C.locs 114 = [1] := by kernel_rfl
noncomputable def yK : Code := match Tryz.f115.body with | some c => c | none => .skip
theorem ae8 : C.fids 115 = true := by kernel_rfl
theorem XU : Tryz.f115.body = some yK := rfl
theorem aaO : C.prim 115 = none := rfl
theorem adp : C.funcs 115 = some Tryz.f115 := Tryz.func115
theorem aaJ {a : List V} {H : List Ob} {R : V → List Ob → Prop} : Ret C 115 a H R ↔ WP C 115 yK ⟨af a, 0, H⟩ (aF C Tryz.f115 H R) := ah aaO ae8 adp XU
@[simp] theorem aho : C.locs 115 = [2, 4] := by kernel_rfl
noncomputable def EP : Code := match Tryz.f116.body with | some c => c | none => .skip
theorem ab2 : C.fids 116 = true := by kernel_rfl
theorem acs : Tryz.f116.body = some EP := rfl
theorem Wj : C.prim 116 = none := rfl
theorem ZX : C.funcs 116 = some Tryz.f116 := Tryz.func116
theorem aed {a : List V} {H : List Ob} {R : V → List Ob → Prop} : Ret C 116 a H R ↔ WP C 116 EP ⟨af a, 0, H⟩ (aF C Tryz.f116 H R) := ah Wj ab2 ZX acs
@[simp] theorem ahL : C.locs 116 = [] := by kernel_rfl
noncomputable def iM : Code := match Tryz.f117.body with | some c => c | none => .skip
theorem adI : C.fids 117 = true := by kernel_rfl
theorem XW : Tryz.f117.body = some iM := rfl
theorem afW : C.prim 117 = none := rfl
theorem aa6 : C.funcs 117 = some Tryz.f117 := Tryz.func117
theorem abS {a : List V} {H : List Ob} {R : V → List Ob → Prop} : Ret C 117 a H R ↔ WP C 117 iM ⟨af a, 0, H⟩ (aF C Tryz.f117 H R) := ah afW adI aa6 XW
@[simp] theorem ahY : C.locs 117 = [6] := by kernel_rfl
noncomputable def DI : Code := match Tryz.f128.body with | some c => c | none => .skip
theorem VT : C.fids 128 = true := by kernel_rfl
theorem acS : Tryz.f128.body = some DI := rfl
theorem aew : C.prim 128 = none := rfl
theorem WI : C.funcs 128 = some Tryz.f128 := Tryz.func128
theorem afT {a : List V} {H : List Ob} {R : V → List Ob → Prop} : Ret C 128 a H R ↔ WP C 128 DI ⟨af a, 0, H⟩ (aF C Tryz.f128 H R) := ah aew VT WI acS
@[simp] theorem aiW : C.locs 128 = [] := by kernel_rfl
noncomputable def uJ : Code := match Tryz.f130.body with | some c => c | none => .skip
theorem afc : C.fids 130 = true := by kernel_rfl
theorem Xh : Tryz.f130.body = some uJ := rfl
theorem aeE : C.prim 130 = none := rfl
theorem aby : C.funcs 130 = some Tryz.f130 := Tryz.func130
theorem OL {a : List V} {H : List Ob} {R : V → List Ob → Prop} : Ret C 130 a H R ↔ WP C 130 uJ ⟨af a, 0, H⟩ (aF C Tryz.f130 H R) := ah aeE afc aby Xh
@[simp] theorem aij : C.locs 130 = [2] := by kernel_rfl
noncomputable def FP : Code := match Tryz.f132.body with | some c => c | none => .skip
theorem WN : C.fids 132 = true := by kernel_rfl
theorem af8 : Tryz.f132.body = some FP := rfl
theorem YR : C.prim 132 = none := rfl
theorem ad6 : C.funcs 132 = some Tryz.f132 := Tryz.func132
theorem YE {a : List V} {H : List Ob} {R : V → List Ob → Prop} : Ret C 132 a H R ↔ WP C 132 FP ⟨af a, 0, H⟩ (aF C Tryz.f132 H R) := ah YR WN ad6 af8
@[simp] theorem aip : C.locs 132 = [] := by kernel_rfl
noncomputable def DT : Code := match Tryz.f135.body with | some c => c | none => .skip
theorem Wv : C.fids 135 = true := by kernel_rfl
theorem ae7 : Tryz.f135.body = some DT := rfl
theorem abp : C.prim 135 = none := rfl
theorem WQ : C.funcs 135 = some Tryz.f135 := Tryz.func135
theorem VZ {a : List V} {H : List Ob} {R : V → List Ob → Prop} : Ret C 135 a H R ↔ WP C 135 DT ⟨af a, 0, H⟩ (aF C Tryz.f135 H R) := ah abp Wv WQ ae7
@[simp] theorem ahS : C.locs 135 = [] := by kernel_rfl
noncomputable def yB : Code := match Tryz.f137.body with | some c => c | none => .skip
theorem acV : C.fids 137 = true := by kernel_rfl
theorem adl : Tryz.f137.body = some yB := rfl
theorem Y8 : C.prim 137 = none := rfl
theorem ZM : C.funcs 137 = some Tryz.f137 := Tryz.func137
theorem aag {a : List V} {H : List Ob} {R : V → List Ob → Prop} : Ret C 137 a H R ↔ WP C 137 yB ⟨af a, 0, H⟩ (aF C Tryz.f137 H R) := ah Y8 acV ZM adl
@[simp] theorem ag1 : C.locs 137 = [] := by kernel_rfl
noncomputable def Ee : Code := match Tryz.f139.body with | some c => c | none => .skip
theorem VN : C.fids 139 = true := by kernel_rfl
theorem Xg : Tryz.f139.body = some Ee := rfl
theorem abf : C.prim 139 = none := rfl
theorem XO : C.funcs 139 = some Tryz.f139 := Tryz.func139
theorem acX {a : List V} {H : List Ob} {R : V → List Ob → Prop} : Ret C 139 a H R ↔ WP C 139 Ee ⟨af a, 0, H⟩ (aF C Tryz.f139 H R) := ah abf VN XO Xg
@[simp] theorem aiS : C.locs 139 = [1, 2, 3] := by kernel_rfl
noncomputable def vG : Code := match Tryz.f140.body with | some c => c | none => .skip
theorem agv : C.fids 140 = true := by kernel_rfl
theorem acG : Tryz.f140.body = some vG := rfl
theorem ada : C.prim 140 = none := rfl
theorem af5 : C.funcs 140 = some Tryz.f140 := Tryz.func140
theorem WJ {a : List V} {H : List Ob} {R : V → List Ob → Prop} : Ret C 140 a H R ↔ WP C 140 vG ⟨af a, 0, H⟩ (aF C Tryz.f140 H R) := ah ada agv af5 acG
@[simp] theorem agV : C.locs 140 = [] := by kernel_rfl
noncomputable def yA : Code := match Tryz.f142.body with | some c => c | none => .skip
theorem Xq : C.fids 142 = true := by kernel_rfl
theorem aba : Tryz.f142.body = some yA := rfl
theorem aay : C.prim 142 = none := rfl
theorem ad4 : C.funcs 142 = some Tryz.f142 := Tryz.func142
theorem aeO {a : List V} {H : List Ob} {R : V → List Ob → Prop} : Ret C 142 a H R ↔ WP C 142 yA ⟨af a, 0, H⟩ (aF C Tryz.f142 H R) := ah aay Xq ad4 aba
@[simp] theorem ah6 : C.locs 142 = [] := by kernel_rfl
noncomputable def Eg : Code := match Tryz.f143.body with | some c => c | none => .skip
theorem acA : C.fids 143 = true := by kernel_rfl
theorem adS : Tryz.f143.body = some Eg := rfl
theorem ZU : C.prim 143 = none := rfl
theorem af6 : C.funcs 143 = some Tryz.f143 := Tryz.func143
theorem af2 {a : List V} {H : List Ob} {R : V → List Ob → Prop} : Ret C 143 a H R ↔ WP C 143 Eg ⟨af a, 0, H⟩ (aF C Tryz.f143 H R) := ah ZU acA af6 adS
@[simp] theorem aiP : C.locs 143 = [] := by kernel_rfl
noncomputable def uy : Code := match Tryz.f146.body with | some c => c | none => .skip
theorem Wp : C.fids 146 = true := by kernel_rfl
theorem agq : Tryz.f146.body = some uy := rfl
theorem afJ : C.prim 146 = none := rfl
theorem abX : C.funcs 146 = some Tryz.f146 := Tryz.func146
theorem adt {a : List V} {H : List Ob} {R : V → List Ob → Prop} : Ret C 146 a H R ↔ WP C 146 uy ⟨af a, 0, H⟩ (aF C Tryz.f146 H R) := ah afJ Wp abX agq
@[simp] theorem agX : C.locs 146 = [1] := by kernel_rfl
noncomputable def uO : Code := match Tryz.f147.body with | some c => c | none => .skip
theorem aeD : C.fids 147 = true := by kernel_rfl
theorem Yd : Tryz.f147.body = some uO := rfl
theorem Zh : C.prim 147 = none := rfl
theorem aeQ : C.funcs 147 = some Tryz.f147 := Tryz.func147
theorem WR {a : List V} {H : List Ob} {R : V → List Ob → Prop} : Ret C 147 a H R ↔ WP C 147 uO ⟨af a, 0, H⟩ (aF C Tryz.f147 H R) := ah Zh aeD aeQ Yd
@[simp] theorem ah0 : C.locs 147 = [] := by kernel_rfl
noncomputable def vX : Code := match Tryz.f150.body with | some c => c | none => .skip
theorem acR : C.fids 150 = true := by kernel_rfl
theorem Zt : Tryz.f150.body = some vX := rfl
theorem Yt : C.prim 150 = none := rfl
theorem Wh : C.funcs 150 = some Tryz.f150 := Tryz.func150
theorem QJ {a : List V} {H : List Ob} {R : V → List Ob → Prop} : Ret C 150 a H R ↔ WP C 150 vX ⟨af a, 0, H⟩ (aF C Tryz.f150 H R) := ah Yt acR Wh Zt
@[simp] theorem ahr : C.locs 150 = [2, 3] := by kernel_rfl
noncomputable def FD : Code := match Tryz.f159.body with | some c => c | none => .skip
theorem abu : C.fids 159 = true := by kernel_rfl
theorem VX : Tryz.f159.body = some FD := rfl
theorem V8 : C.prim 159 = none := rfl
theorem Xd : C.funcs 159 = some Tryz.f159 := Tryz.func159
theorem Yk {a : List V} {H : List Ob} {R : V → List Ob → Prop} : Ret C 159 a H R ↔ WP C 159 FD ⟨af a, 0, H⟩ (aF C Tryz.f159 H R) := ah V8 abu Xd VX
@[simp] theorem aic : C.locs 159 = [] := by kernel_rfl
noncomputable def vW : Code := match Tryz.f160.body with | some c => c | none => .skip
theorem agm : C.fids 160 = true := by kernel_rfl
theorem aaN : Tryz.f160.body = some vW := rfl
theorem abD : C.prim 160 = none := rfl
theorem acx : C.funcs 160 = some Tryz.f160 := Tryz.func160
theorem afY {a : List V} {H : List Ob} {R : V → List Ob → Prop} : Ret C 160 a H R ↔ WP C 160 vW ⟨af a, 0, H⟩ (aF C Tryz.f160 H R) := ah abD agm acx aaN
@[simp] theorem aie : C.locs 160 = [3, 5, 9] := by kernel_rfl
noncomputable def EX : Code := match Tryz.f161.body with | some c => c | none => .skip
theorem agA : C.fids 161 = true := by kernel_rfl
theorem afd : Tryz.f161.body = some EX := rfl
theorem abW : C.prim 161 = none := rfl
theorem afv : C.funcs 161 = some Tryz.f161 := Tryz.func161
theorem YN {a : List V} {H : List Ob} {R : V → List Ob → Prop} : Ret C 161 a H R ↔ WP C 161 EX ⟨af a, 0, H⟩ (aF C Tryz.f161 H R) := ah abW agA afv afd
@[simp] theorem ahn : C.locs 161 = [] := by kernel_rfl
noncomputable def Ea : Code := match Tryz.f162.body with | some c => c | none => .skip
theorem aer : C.fids 162 = true := by kernel_rfl
theorem afa : Tryz.f162.body = some Ea := rfl
theorem aaA : C.prim 162 = none := rfl
theorem aep : C.funcs 162 = some Tryz.f162 := Tryz.func162
theorem adH {a : List V} {H : List Ob} {R : V → List Ob → Prop} : Ret C 162 a H R ↔ WP C 162 Ea ⟨af a, 0, H⟩ (aF C Tryz.f162 H R) := ah aaA aer aep afa
@[simp] theorem aiu : C.locs 162 = [2] := by kernel_rfl
noncomputable def yw : Code := match Tryz.f168.body with | some c => c | none => .skip
theorem acL : C.fids 168 = true := by kernel_rfl
theorem YK : Tryz.f168.body = some yw := rfl
theorem aeR : C.prim 168 = none := rfl
theorem VK : C.funcs 168 = some Tryz.f168 := Tryz.func168
theorem afx {a : List V} {H : List Ob} {R : V → List Ob → Prop} : Ret C 168 a H R ↔ WP C 168 yw ⟨af a, 0, H⟩ (aF C Tryz.f168 H R) := ah aeR acL VK YK
@[simp] theorem aix : C.locs 168 = [4] := by kernel_rfl
noncomputable def vI : Code := match Tryz.f169.body with | some c => c | none => .skip
theorem afC : C.fids 169 = true := by kernel_rfl
theorem Xm : Tryz.f169.body = some vI := rfl
theorem afm : C.prim 169 = none := rfl
theorem XA : C.funcs 169 = some Tryz.f169 := Tryz.func169
theorem Wu {a : List V} {H : List Ob} {R : V → List Ob → Prop} : Ret C 169 a H R ↔ WP C 169 vI ⟨af a, 0, H⟩ (aF C Tryz.f169 H R) := ah afm afC XA Xm
@[simp] theorem ahw : C.locs 169 = [] := by kernel_rfl
noncomputable def yQ : Code := match Tryz.f171.body with | some c => c | none => .skip
theorem Yz : C.fids 171 = true := by kernel_rfl
theorem afP : Tryz.f171.body = some yQ := rfl
theorem aeK : C.prim 171 = none := rfl
theorem afr : C.funcs 171 = some Tryz.f171 := Tryz.func171
theorem aeU {a : List V} {H : List Ob} {R : V → List Ob → Prop} : Ret C 171 a H R ↔ WP C 171 yQ ⟨af a, 0, H⟩ (aF C Tryz.f171 H R) := ah aeK Yz afr afP
@[simp] theorem aib : C.locs 171 = [] := by kernel_rfl
noncomputable def Ed : Code := match Tryz.f172.body with | some c => c | none => .skip
theorem aeN : C.fids 172 = true := by kernel_rfl
theorem Zz : Tryz.f172.body = some Ed := rfl
theorem acY : C.prim 172 = none := rfl
theorem agn : C.funcs 172 = some Tryz.f172 := Tryz.func172
theorem acT {a : List V} {H : List Ob} {R : V → List Ob → Prop} : Ret C 172 a H R ↔ WP C 172 Ed ⟨af a, 0, H⟩ (aF C Tryz.f172 H R) := ah acY aeN agn Zz
@[simp] theorem aiO : C.locs 172 = [2] := by kernel_rfl
noncomputable def wo : Code := match Tryz.f173.body with | some c => c | none => .skip
theorem ac1 : C.fids 173 = true := by kernel_rfl
theorem Xx : Tryz.f173.body = some wo := rfl
theorem agB : C.prim 173 = none := rfl
theorem WS : C.funcs 173 = some Tryz.f173 := Tryz.func173
theorem adx {a : List V} {H : List Ob} {R : V → List Ob → Prop} : Ret C 173 a H R ↔ WP C 173 wo ⟨af a, 0, H⟩ (aF C Tryz.f173 H R) := ah agB ac1 WS Xx
@[simp] theorem ag7 : C.locs 173 = [] := by kernel_rfl
noncomputable def yC : Code := match Tryz.f178.body with | some c => c | none => .skip
theorem aez : C.fids 178 = true := by kernel_rfl
theorem WF : Tryz.f178.body = some yC := rfl
theorem aeu : C.prim 178 = none := rfl
theorem Y9 : C.funcs 178 = some Tryz.f178 := Tryz.func178
theorem ad8 {a : List V} {H : List Ob} {R : V → List Ob → Prop} : Ret C 178 a H R ↔ WP C 178 yC ⟨af a, 0, H⟩ (aF C Tryz.f178 H R) := ah aeu aez Y9 WF
@[simp] theorem aig : C.locs 178 = [] := by kernel_rfl
noncomputable def DZ : Code := match Tryz.f180.body with | some c => c | none => .skip
theorem X8 : C.fids 180 = true := by kernel_rfl
theorem aeS : Tryz.f180.body = some DZ := rfl
theorem agL : C.prim 180 = none := rfl
theorem Zi : C.funcs 180 = some Tryz.f180 := Tryz.func180
theorem abJ {a : List V} {H : List Ob} {R : V → List Ob → Prop} : Ret C 180 a H R ↔ WP C 180 DZ ⟨af a, 0, H⟩ (aF C Tryz.f180 H R) := ah agL X8 Zi aeS
@[simp] theorem ag6 : C.locs 180 = [] := by kernel_rfl
noncomputable def oP : Code := match Tryz.f183.body with | some c => c | none => .skip
theorem ZO : C.fids 183 = true := by kernel_rfl
theorem abk : Tryz.f183.body = some oP := rfl
theorem ZA : C.prim 183 = none := rfl
theorem Y7 : C.funcs 183 = some Tryz.f183 := Tryz.func183
theorem Iz {a : List V} {H : List Ob} {R : V → List Ob → Prop} : Ret C 183 a H R ↔ WP C 183 oP ⟨af a, 0, H⟩ (aF C Tryz.f183 H R) := ah ZA ZO Y7 abk
@[simp] theorem agS : C.locs 183 = [2] := by kernel_rfl
noncomputable def je : Code := match Tryz.f184.body with | some c => c | none => .skip
theorem Si : C.fids 184 = true := by kernel_rfl
theorem Qe : Tryz.f184.body = some je := rfl
theorem OM : C.prim 184 = none := rfl
theorem Px : C.funcs 184 = some Tryz.f184 := Tryz.func184
theorem Pv {a : List V} {H : List Ob} {R : V → List Ob → Prop} : Ret C 184 a H R ↔ WP C 184 je ⟨af a, 0, H⟩ (aF C Tryz.f184 H R) := ah OM Si Px Qe
@[simp] theorem Ul : C.locs 184 = [] := by kernel_rfl
noncomputable def CX : Code := match Tryz.f188.body with | some c => c | none => .skip
theorem ac0 : C.fids 188 = true := by kernel_rfl
theorem afH : Tryz.f188.body = some CX := rfl
theorem aaU : C.prim 188 = none := rfl
theorem afp : C.funcs 188 = some Tryz.f188 := Tryz.func188
theorem ab7 {a : List V} {H : List Ob} {R : V → List Ob → Prop} : Ret C 188 a H R ↔ WP C 188 CX ⟨af a, 0, H⟩ (aF C Tryz.f188 H R) := ah aaU ac0 afp afH
@[simp] theorem ait : C.locs 188 = [1, 2, 3] := by kernel_rfl
noncomputable def Df : Code := match Tryz.f189.body with | some c => c | none => .skip
theorem agk : C.fids 189 = true := by kernel_rfl
theorem agr : Tryz.f189.body = some Df := rfl
theorem ZI : C.prim 189 = none := rfl
theorem X5 : C.funcs 189 = some Tryz.f189 := Tryz.func189
theorem afz {a : List V} {H : List Ob} {R : V → List Ob → Prop} : Ret C 189 a H R ↔ WP C 189 Df ⟨af a, 0, H⟩ (aF C Tryz.f189 H R) := ah ZI agk X5 agr
@[simp] theorem aik : C.locs 189 = [1, 2, 3] := by kernel_rfl
noncomputable def Cm : Code := match Tryz.f190.body with | some c => c | none => .skip
theorem acl : C.fids 190 = true := by kernel_rfl
theorem afV : Tryz.f190.body = some Cm := rfl
theorem ac3 : C.prim 190 = none := rfl
theorem afZ : C.funcs 190 = some Tryz.f190 := Tryz.func190
theorem abZ {a : List V} {H : List Ob} {R : V → List Ob → Prop} : Ret C 190 a H R ↔ WP C 190 Cm ⟨af a, 0, H⟩ (aF C Tryz.f190 H R) := ah ac3 acl afZ afV
@[simp] theorem ahq : C.locs 190 = [] := by kernel_rfl
noncomputable def DK : Code := match Tryz.f192.body with | some c => c | none => .skip
theorem acu : C.fids 192 = true := by kernel_rfl
theorem Z4 : Tryz.f192.body = some DK := rfl
theorem aff : C.prim 192 = none := rfl
theorem abq : C.funcs 192 = some Tryz.f192 := Tryz.func192
theorem aaL {a : List V} {H : List Ob} {R : V → List Ob → Prop} : Ret C 192 a H R ↔ WP C 192 DK ⟨af a, 0, H⟩ (aF C Tryz.f192 H R) := ah aff acu abq Z4
@[simp] theorem ahu : C.locs 192 = [] := by kernel_rfl
noncomputable def uK : Code := match Tryz.f194.body with | some c => c | none => .skip
theorem Zr : C.fids 194 = true := by kernel_rfl
theorem WE : Tryz.f194.body = some uK := rfl
theorem abv : C.prim 194 = none := rfl
theorem aaM : C.funcs 194 = some Tryz.f194 := Tryz.func194
theorem UI {a : List V} {H : List Ob} {R : V → List Ob → Prop} : Ret C 194 a H R ↔ WP C 194 uK ⟨af a, 0, H⟩ (aF C Tryz.f194 H R) := ah abv Zr aaM WE
@[simp] theorem ahN : C.locs 194 = [] := by kernel_rfl
noncomputable def ET : Code := match Tryz.f195.body with | some c => c | none => .skip
theorem WU : C.fids 195 = true := by kernel_rfl
theorem aao : Tryz.f195.body = some ET := rfl
theorem adE : C.prim 195 = none := rfl
theorem XN : C.funcs 195 = some Tryz.f195 := Tryz.func195
theorem WY {a : List V} {H : List Ob} {R : V → List Ob → Prop} : Ret C 195 a H R ↔ WP C 195 ET ⟨af a, 0, H⟩ (aF C Tryz.f195 H R) := ah adE WU XN aao
@[simp] theorem ais : C.locs 195 = [1, 2, 3, 5] := by kernel_rfl
noncomputable def pY : Code := match Tryz.f196.body with | some c => c | none => .skip
theorem Z7 : C.fids 196 = true := by kernel_rfl
theorem WA : Tryz.f196.body = some pY := rfl
theorem ab8 : C.prim 196 = none := rfl
theorem XH : C.funcs 196 = some Tryz.f196 := Tryz.func196
theorem Il {a : List V} {H : List Ob} {R : V → List Ob → Prop} : Ret C 196 a H R ↔ WP C 196 pY ⟨af a, 0, H⟩ (aF C Tryz.f196 H R) := ah ab8 Z7 XH WA
@[simp] theorem aiE : C.locs 196 = [2, 3] := by kernel_rfl
noncomputable def Et : Code := match Tryz.f197.body with | some c => c | none => .skip
theorem YY : C.fids 197 = true := by kernel_rfl
theorem abB : Tryz.f197.body = some Et := rfl
theorem X9 : C.prim 197 = none := rfl
theorem ab5 : C.funcs 197 = some Tryz.f197 := Tryz.func197
theorem aex {a : List V} {H : List Ob} {R : V → List Ob → Prop} : Ret C 197 a H R ↔ WP C 197 Et ⟨af a, 0, H⟩ (aF C Tryz.f197 H R) := ah X9 YY ab5 abB
@[simp] theorem aiv : C.locs 197 = [] := by kernel_rfl
noncomputable def FB : Code := match Tryz.f198.body with | some c => c | none => .skip
theorem aas : C.fids 198 = true := by kernel_rfl
theorem Wl : Tryz.f198.body = some FB := rfl
theorem ZW : C.prim 198 = none := rfl
theorem af1 : C.funcs 198 = some Tryz.f198 := Tryz.func198
theorem Zd {a : List V} {H : List Ob} {R : V → List Ob → Prop} : Ret C 198 a H R ↔ WP C 198 FB ⟨af a, 0, H⟩ (aF C Tryz.f198 H R) := ah ZW aas af1 Wl
@[simp] theorem ahZ : C.locs 198 = [] := by kernel_rfl
noncomputable def Dp : Code := match Tryz.f199.body with | some c => c | none => .skip
theorem ZQ : C.fids 199 = true := by kernel_rfl
theorem Wq : Tryz.f199.body = some Dp := rfl
theorem aef : C.prim 199 = none := rfl
theorem adz : C.funcs 199 = some Tryz.f199 := Tryz.func199
theorem abN {a : List V} {H : List Ob} {R : V → List Ob → Prop} : Ret C 199 a H R ↔ WP C 199 Dp ⟨af a, 0, H⟩ (aF C Tryz.f199 H R) := ah aef ZQ adz Wq
@[simp] theorem aiB : C.locs 199 = [] := by kernel_rfl
noncomputable def ES : Code := match Tryz.f200.body with | some c => c | none => .skip
theorem Zg : C.fids 200 = true := by kernel_rfl
theorem aa8 : Tryz.f200.body = some ES := rfl
theorem Yg : C.prim 200 = none := rfl
theorem V6 : C.funcs 200 = some Tryz.f200 := Tryz.func200
theorem agz {a : List V} {H : List Ob} {R : V → List Ob → Prop} : Ret C 200 a H R ↔ WP C 200 ES ⟨af a, 0, H⟩ (aF C Tryz.f200 H R) := ah Yg Zg V6 aa8
@[simp] theorem ahj : C.locs 200 = [] := by kernel_rfl
noncomputable def Dc : Code := match Tryz.f201.body with | some c => c | none => .skip
theorem aad : C.fids 201 = true := by kernel_rfl
theorem ad5 : Tryz.f201.body = some Dc := rfl
theorem Zj : C.prim 201 = none := rfl
theorem ady : C.funcs 201 = some Tryz.f201 := Tryz.func201
theorem afB {a : List V} {H : List Ob} {R : V → List Ob → Prop} : Ret C 201 a H R ↔ WP C 201 Dc ⟨af a, 0, H⟩ (aF C Tryz.f201 H R) := ah Zj aad ady ad5
@[simp] theorem ahC : C.locs 201 = [2] := by kernel_rfl
noncomputable def yL : Code := match Tryz.f202.body with | some c => c | none => .skip
theorem acH : C.fids 202 = true := by kernel_rfl
theorem abK : Tryz.f202.body = some yL := rfl
theorem ack : C.prim 202 = none := rfl
theorem XT : C.funcs 202 = some Tryz.f202 := Tryz.func202
theorem UG {a : List V} {H : List Ob} {R : V → List Ob → Prop} : Ret C 202 a H R ↔ WP C 202 yL ⟨af a, 0, H⟩ (aF C Tryz.f202 H R) := ah ack acH XT abK
@[simp] theorem ahW : C.locs 202 = [2, 4] := by kernel_rfl
noncomputable def wJ : Code := match Tryz.f203.body with | some c => c | none => .skip
theorem aeC : C.fids 203 = true := by kernel_rfl
theorem YA : Tryz.f203.body = some wJ := rfl
theorem adv : C.prim 203 = none := rfl
theorem Xl : C.funcs 203 = some Tryz.f203 := Tryz.func203
theorem ZZ {a : List V} {H : List Ob} {R : V → List Ob → Prop} : Ret C 203 a H R ↔ WP C 203 wJ ⟨af a, 0, H⟩ (aF C Tryz.f203 H R) := ah adv aeC Xl YA
@[simp] theorem aid : C.locs 203 = [3] := by kernel_rfl
noncomputable def oJ : Code := match Tryz.f204.body with | some c => c | none => .skip
theorem agw : C.fids 204 = true := by kernel_rfl
theorem afq : Tryz.f204.body = some oJ := rfl
theorem aaT : C.prim 204 = none := rfl
theorem XD : C.funcs 204 = some Tryz.f204 := Tryz.func204
theorem Zm {a : List V} {H : List Ob} {R : V → List Ob → Prop} : Ret C 204 a H R ↔ WP C 204 oJ ⟨af a, 0, H⟩ (aF C Tryz.f204 H R) := ah aaT agw XD afq
@[simp] theorem ahs : C.locs 204 = [3, 6] := by kernel_rfl
noncomputable def FV : Code := match Tryz.f205.body with | some c => c | none => .skip
theorem agx : C.fids 205 = true := by kernel_rfl
theorem Xe : Tryz.f205.body = some FV := rfl
theorem aeL : C.prim 205 = none := rfl
theorem adP : C.funcs 205 = some Tryz.f205 := Tryz.func205
theorem Zp {a : List V} {H : List Ob} {R : V → List Ob → Prop} : Ret C 205 a H R ↔ WP C 205 FV ⟨af a, 0, H⟩ (aF C Tryz.f205 H R) := ah aeL agx adP Xe
@[simp] theorem aiC : C.locs 205 = [2, 3, 4, 5] := by kernel_rfl
noncomputable def Ci : Code := match Tryz.f206.body with | some c => c | none => .skip
theorem afn : C.fids 206 = true := by kernel_rfl
theorem Yc : Tryz.f206.body = some Ci := rfl
theorem adV : C.prim 206 = none := rfl
theorem abo : C.funcs 206 = some Tryz.f206 := Tryz.func206
theorem ad2 {a : List V} {H : List Ob} {R : V → List Ob → Prop} : Ret C 206 a H R ↔ WP C 206 Ci ⟨af a, 0, H⟩ (aF C Tryz.f206 H R) := ah adV afn abo Yc
@[simp] theorem aii : C.locs 206 = [2, 4, 5] := by kernel_rfl
noncomputable def jc : Code := match Tryz.f207.body with | some c => c | none => .skip
theorem Qw : C.fids 207 = true := by kernel_rfl
theorem QB : Tryz.f207.body = some jc := rfl
theorem RZ : C.prim 207 = none := rfl
theorem QA : C.funcs 207 = some Tryz.f207 := Tryz.func207
theorem PO {a : List V} {H : List Ob} {R : V → List Ob → Prop} : Ret C 207 a H R ↔ WP C 207 jc ⟨af a, 0, H⟩ (aF C Tryz.f207 H R) := ah RZ Qw QA QB
@[simp] theorem Tt : C.locs 207 = [] := by kernel_rfl
noncomputable def DJ : Code := match Tryz.f208.body with | some c => c | none => .skip
theorem YD : C.fids 208 = true := by kernel_rfl
theorem acr : Tryz.f208.body = some DJ := rfl
theorem ab4 : C.prim 208 = none := rfl
theorem agp : C.funcs 208 = some Tryz.f208 := Tryz.func208
theorem ZC {a : List V} {H : List Ob} {R : V → List Ob → Prop} : Ret C 208 a H R ↔ WP C 208 DJ ⟨af a, 0, H⟩ (aF C Tryz.f208 H R) := ah ab4 YD agp acr
@[simp] theorem ag8 : C.locs 208 = [1, 2] := by kernel_rfl
noncomputable def uA : Code := match Tryz.f209.body with | some c => c | none => .skip
theorem WB : C.fids 209 = true := by kernel_rfl
theorem ZN : Tryz.f209.body = some uA := rfl
theorem X0 : C.prim 209 = none := rfl
theorem aeA : C.funcs 209 = some Tryz.f209 := Tryz.func209
theorem Yf {a : List V} {H : List Ob} {R : V → List Ob → Prop} : Ret C 209 a H R ↔ WP C 209 uA ⟨af a, 0, H⟩ (aF C Tryz.f209 H R) := ah X0 WB aeA ZN
@[simp] theorem ahR : C.locs 209 = [] := by kernel_rfl
noncomputable def yI : Code := match Tryz.f210.body with | some c => c | none => .skip
theorem afS : C.fids 210 = true := by kernel_rfl
theorem aan : Tryz.f210.body = some yI := rfl
theorem ade : C.prim 210 = none := rfl
theorem adA : C.funcs 210 = some Tryz.f210 := Tryz.func210
theorem VM {a : List V} {H : List Ob} {R : V → List Ob → Prop} : Ret C 210 a H R ↔ WP C 210 yI ⟨af a, 0, H⟩ (aF C Tryz.f210 H R) := ah ade afS adA aan
@[simp] theorem ahD : C.locs 210 = [] := by kernel_rfl
noncomputable def jV : Code := match Tryz.f211.body with | some c => c | none => .skip
theorem Qv : C.fids 211 = true := by kernel_rfl
theorem PS : Tryz.f211.body = some jV := rfl
theorem RH : C.prim 211 = none := rfl
theorem SA : C.funcs 211 = some Tryz.f211 := Tryz.func211
theorem RY {a : List V} {H : List Ob} {R : V → List Ob → Prop} : Ret C 211 a H R ↔ WP C 211 jV ⟨af a, 0, H⟩ (aF C Tryz.f211 H R) := ah RH Qv SA PS
@[simp] theorem Tj : C.locs 211 = [] := by kernel_rfl
noncomputable def oI : Code := match Tryz.f212.body with | some c => c | none => .skip
theorem acF : C.fids 212 = true := by kernel_rfl
theorem Xp : Tryz.f212.body = some oI := rfl
theorem agF : C.prim 212 = none := rfl
theorem adw : C.funcs 212 = some Tryz.f212 := Tryz.func212
theorem acP {a : List V} {H : List Ob} {R : V → List Ob → Prop} : Ret C 212 a H R ↔ WP C 212 oI ⟨af a, 0, H⟩ (aF C Tryz.f212 H R) := ah agF acF adw Xp
@[simp] theorem agU : C.locs 212 = [] := by kernel_rfl
noncomputable def uP : Code := match Tryz.f213.body with | some c => c | none => .skip
theorem aaX : C.fids 213 = true := by kernel_rfl
theorem ae3 : Tryz.f213.body = some uP := rfl
theorem abz : C.prim 213 = none := rfl
theorem acy : C.funcs 213 = some Tryz.f213 := Tryz.func213
theorem afg {a : List V} {H : List Ob} {R : V → List Ob → Prop} : Ret C 213 a H R ↔ WP C 213 uP ⟨af a, 0, H⟩ (aF C Tryz.f213 H R) := ah abz aaX acy ae3
@[simp] theorem ahy : C.locs 213 = [5, 8] := by kernel_rfl
noncomputable def EY : Code := match Tryz.f214.body with | some c => c | none => .skip
theorem aaK : C.fids 214 = true := by kernel_rfl
theorem afK : Tryz.f214.body = some EY := rfl
theorem acN : C.prim 214 = none := rfl
theorem ZH : C.funcs 214 = some Tryz.f214 := Tryz.func214
theorem Zn {a : List V} {H : List Ob} {R : V → List Ob → Prop} : Ret C 214 a H R ↔ WP C 214 EY ⟨af a, 0, H⟩ (aF C Tryz.f214 H R) := ah acN aaK ZH afK
@[simp] theorem aiN : C.locs 214 = [] := by kernel_rfl
noncomputable def D7 : Code := match Tryz.f218.body with | some c => c | none => .skip
theorem afk : C.fids 218 = true := by kernel_rfl
theorem adD : Tryz.f218.body = some D7 := rfl
theorem XX : C.prim 218 = none := rfl
theorem ZY : C.funcs 218 = some Tryz.f218 := Tryz.func218
theorem abY {a : List V} {H : List Ob} {R : V → List Ob → Prop} : Ret C 218 a H R ↔ WP C 218 D7 ⟨af a, 0, H⟩ (aF C Tryz.f218 H R) := ah XX afk ZY adD
@[simp] theorem air : C.locs 218 = [1, 2, 3] := by kernel_rfl
noncomputable def En : Code := match Tryz.f227.body with | some c => c | none => .skip
theorem ab1 : C.fids 227 = true := by kernel_rfl
theorem aaS : Tryz.f227.body = some En := rfl
theorem Ym : C.prim 227 = none := rfl
theorem abx : C.funcs 227 = some Tryz.f227 := Tryz.func227
theorem adL {a : List V} {H : List Ob} {R : V → List Ob → Prop} : Ret C 227 a H R ↔ WP C 227 En ⟨af a, 0, H⟩ (aF C Tryz.f227 H R) := ah Ym ab1 abx aaS
@[simp] theorem aiH : C.locs 227 = [] := by kernel_rfl
noncomputable def CS : Code := match Tryz.f231.body with | some c => c | none => .skip
theorem ZL : C.fids 231 = true := by kernel_rfl
theorem abE : Tryz.f231.body = some CS := rfl
theorem agI : C.prim 231 = none := rfl
theorem Xi : C.funcs 231 = some Tryz.f231 := Tryz.func231
theorem aax {a : List V} {H : List Ob} {R : V → List Ob → Prop} : Ret C 231 a H R ↔ WP C 231 CS ⟨af a, 0, H⟩ (aF C Tryz.f231 H R) := ah agI ZL Xi abE
@[simp] theorem ai0 : C.locs 231 = [] := by kernel_rfl
noncomputable def Ez : Code := match Tryz.f232.body with | some c => c | none => .skip
theorem afl : C.fids 232 = true := by kernel_rfl
theorem Z9 : Tryz.f232.body = some Ez := rfl
theorem XK : C.prim 232 = none := rfl
theorem ac2 : C.funcs 232 = some Tryz.f232 := Tryz.func232
theorem adk {a : List V} {H : List Ob} {R : V → List Ob → Prop} : Ret C 232 a H R ↔ WP C 232 Ez ⟨af a, 0, H⟩ (aF C Tryz.f232 H R) := ah XK afl ac2 Z9
@[simp] theorem ahT : C.locs 232 = [1] := by kernel_rfl
noncomputable def EJ : Code := match Tryz.f234.body with | some c => c | none => .skip
theorem WG : C.fids 234 = true := by kernel_rfl
theorem aa4 : Tryz.f234.body = some EJ := rfl
theorem Yj : C.prim 234 = none := rfl
theorem adc : C.funcs 234 = some Tryz.f234 := Tryz.func234
theorem afj {a : List V} {H : List Ob} {R : V → List Ob → Prop} : Ret C 234 a H R ↔ WP C 234 EJ ⟨af a, 0, H⟩ (aF C Tryz.f234 H R) := ah Yj WG adc aa4
@[simp] theorem aih : C.locs 234 = [] := by kernel_rfl
noncomputable def yz : Code := match Tryz.f235.body with | some c => c | none => .skip
theorem afw : C.fids 235 = true := by kernel_rfl
theorem VU : Tryz.f235.body = some yz := rfl
theorem XF : C.prim 235 = none := rfl
theorem agt : C.funcs 235 = some Tryz.f235 := Tryz.func235
theorem UE {a : List V} {H : List Ob} {R : V → List Ob → Prop} : Ret C 235 a H R ↔ WP C 235 yz ⟨af a, 0, H⟩ (aF C Tryz.f235 H R) := ah XF afw agt VU
@[simp] theorem ahU : C.locs 235 = [] := by kernel_rfl
noncomputable def wH : Code := match Tryz.f236.body with | some c => c | none => .skip
theorem agc : C.fids 236 = true := by kernel_rfl
theorem ae4 : Tryz.f236.body = some wH := rfl
theorem aeZ : C.prim 236 = none := rfl
theorem aav : C.funcs 236 = some Tryz.f236 := Tryz.func236
theorem abt {a : List V} {H : List Ob} {R : V → List Ob → Prop} : Ret C 236 a H R ↔ WP C 236 wH ⟨af a, 0, H⟩ (aF C Tryz.f236 H R) := ah aeZ agc aav ae4
@[simp] theorem aio : C.locs 236 = [] := by kernel_rfl
noncomputable def FI : Code := match Tryz.f237.body with | some c => c | none => .skip
theorem adF : C.fids 237 = true := by kernel_rfl
theorem aak : Tryz.f237.body = some FI := rfl
theorem aap : C.prim 237 = none := rfl
theorem abr : C.funcs 237 = some Tryz.f237 := Tryz.func237
theorem aeM {a : List V} {H : List Ob} {R : V → List Ob → Prop} : Ret C 237 a H R ↔ WP C 237 FI ⟨af a, 0, H⟩ (aF C Tryz.f237 H R) := ah aap adF abr aak
@[simp] theorem aiU : C.locs 237 = [] := by kernel_rfl
noncomputable def pW : Code := match Tryz.f238.body with | some c => c | none => .skip
theorem QV : C.fids 238 = true := by kernel_rfl
theorem OE : Tryz.f238.body = some pW := rfl
theorem O4 : C.prim 238 = none := rfl
theorem QW : C.funcs 238 = some Tryz.f238 := Tryz.func238
theorem RJ {a : List V} {H : List Ob} {R : V → List Ob → Prop} : Ret C 238 a H R ↔ WP C 238 pW ⟨af a, 0, H⟩ (aF C Tryz.f238 H R) := ah O4 QV QW OE
@[simp] theorem TR : C.locs 238 = [] := by kernel_rfl
noncomputable def kF : Code := match Tryz.f247.body with | some c => c | none => .skip
theorem aeo : C.fids 247 = true := by kernel_rfl
theorem agH : Tryz.f247.body = some kF := rfl
theorem Yn : C.prim 247 = none := rfl
theorem ZV : C.funcs 247 = some Tryz.f247 := Tryz.func247
theorem Zu {a : List V} {H : List Ob} {R : V → List Ob → Prop} : Ret C 247 a H R ↔ WP C 247 kF ⟨af a, 0, H⟩ (aF C Tryz.f247 H R) := ah Yn aeo ZV agH
@[simp] theorem agP : C.locs 247 = [1] := by kernel_rfl
noncomputable def vV : Code := match Tryz.f248.body with | some c => c | none => .skip
theorem YQ : C.fids 248 = true := by kernel_rfl
theorem adb : Tryz.f248.body = some vV := rfl
theorem aaR : C.prim 248 = none := rfl
theorem V9 : C.funcs 248 = some Tryz.f248 := Tryz.func248
theorem ab9 {a : List V} {H : List Ob} {R : V → List Ob → Prop} : Ret C 248 a H R ↔ WP C 248 vV ⟨af a, 0, H⟩ (aF C Tryz.f248 H R) := ah aaR YQ V9 adb
@[simp] theorem agO : C.locs 248 = [3, 4] := by kernel_rfl
noncomputable def CE : Code := match Tryz.f249.body with | some c => c | none => .skip
theorem Xu : C.fids 249 = true := by kernel_rfl
theorem acB : Tryz.f249.body = some CE := rfl
theorem Yr : C.prim 249 = none := rfl
theorem ach : C.funcs 249 = some Tryz.f249 := Tryz.func249
theorem abw {a : List V} {H : List Ob} {R : V → List Ob → Prop} : Ret C 249 a H R ↔ WP C 249 CE ⟨af a, 0, H⟩ (aF C Tryz.f249 H R) := ah Yr Xu ach acB
@[simp] theorem ah1 : C.locs 249 = [2] := by kernel_rfl
noncomputable def jQ : Code := match Tryz.f250.body with | some c => c | none => .skip
theorem QF : C.fids 250 = true := by kernel_rfl
theorem OG : Tryz.f250.body = some jQ := rfl
theorem PK : C.prim 250 = none := rfl
theorem Q4 : C.funcs 250 = some Tryz.f250 := Tryz.func250
theorem O3 {a : List V} {H : List Ob} {R : V → List Ob → Prop} : Ret C 250 a H R ↔ WP C 250 jQ ⟨af a, 0, H⟩ (aF C Tryz.f250 H R) := ah PK QF Q4 OG
@[simp] theorem TM : C.locs 250 = [] := by kernel_rfl
noncomputable def EK : Code := match Tryz.f256.body with | some c => c | none => .skip
theorem adf : C.fids 256 = true := by kernel_rfl
theorem aes : Tryz.f256.body = some EK := rfl
theorem Xv : C.prim 256 = none := rfl
theorem YF : C.funcs 256 = some Tryz.f256 := Tryz.func256
theorem acv {a : List V} {H : List Ob} {R : V → List Ob → Prop} : Ret C 256 a H R ↔ WP C 256 EK ⟨af a, 0, H⟩ (aF C Tryz.f256 H R) := ah Xv adf YF aes
@[simp] theorem aiw : C.locs 256 = [1] := by kernel_rfl
noncomputable def F8 : Code := match Tryz.f257.body with | some c => c | none => .skip
theorem Zk : C.fids 257 = true := by kernel_rfl
theorem adh : Tryz.f257.body = some F8 := rfl
theorem ae9 : C.prim 257 = none := rfl
theorem V5 : C.funcs 257 = some Tryz.f257 := Tryz.func257
theorem ado {a : List V} {H : List Ob} {R : V → List Ob → Prop} : Ret C 257 a H R ↔ WP C 257 F8 ⟨af a, 0, H⟩ (aF C Tryz.f257 H R) := ah ae9 Zk V5 adh
@[simp] theorem ahl : C.locs 257 = [] := by kernel_rfl
noncomputable def Ec : Code := match Tryz.f259.body with | some c => c | none => .skip
theorem YW : C.fids 259 = true := by kernel_rfl
theorem aat : Tryz.f259.body = some Ec := rfl
theorem Zc : C.prim 259 = none := rfl
theorem afL : C.funcs 259 = some Tryz.f259 := Tryz.func259
theorem YI {a : List V} {H : List Ob} {R : V → List Ob → Prop} : Ret C 259 a H R ↔ WP C 259 Ec ⟨af a, 0, H⟩ (aF C Tryz.f259 H R) := ah Zc YW afL aat
@[simp] theorem aiI : C.locs 259 = [] := by kernel_rfl
@[simp] theorem ahx : C.locs 264 = [] := by kernel_rfl
@[simp] theorem ahV : C.locs 265 = [] := by kernel_rfl
noncomputable def D6 : Code := match Tryz.f266.body with | some c => c | none => .skip
theorem Yo : C.fids 266 = true := by kernel_rfl
theorem agE : Tryz.f266.body = some D6 := rfl
theorem aa2 : C.prim 266 = none := rfl
theorem VV : C.funcs 266 = some Tryz.f266 := Tryz.func266
theorem Xa {a : List V} {H : List Ob} {R : V → List Ob → Prop} : Ret C 266 a H R ↔ WP C 266 D6 ⟨af a, 0, H⟩ (aF C Tryz.f266 H R) := ah aa2 Yo VV agE
@[simp] theorem aiT : C.locs 266 = [2] := by kernel_rfl
noncomputable def DN : Code := match Tryz.f267.body with | some c => c | none => .skip
theorem af9 : C.fids 267 = true := by kernel_rfl
theorem X4 : Tryz.f267.body = some DN := rfl
theorem ab3 : C.prim 267 = none := rfl
theorem Wy : C.funcs 267 = some Tryz.f267 := Tryz.func267
theorem YT {a : List V} {H : List Ob} {R : V → List Ob → Prop} : Ret C 267 a H R ↔ WP C 267 DN ⟨af a, 0, H⟩ (aF C Tryz.f267 H R) := ah ab3 af9 Wy X4
@[simp] theorem ai2 : C.locs 267 = [] := by kernel_rfl
noncomputable def Dj : Code := match Tryz.f268.body with | some c => c | none => .skip
theorem af0 : C.fids 268 = true := by kernel_rfl
theorem XP : Tryz.f268.body = some Dj := rfl
theorem acK : C.prim 268 = none := rfl
theorem abd : C.funcs 268 = some Tryz.f268 := Tryz.func268
theorem Xb {a : List V} {H : List Ob} {R : V → List Ob → Prop} : Ret C 268 a H R ↔ WP C 268 Dj ⟨af a, 0, H⟩ (aF C Tryz.f268 H R) := ah acK af0 abd XP
@[simp] theorem ahO : C.locs 268 = [] := by kernel_rfl
@[simp] theorem ag9 : C.locs 269 = [] := by kernel_rfl
@[simp] theorem agT : C.locs 270 = [] := by kernel_rfl
noncomputable def FC : Code := match Tryz.f273.body with | some c => c | none => .skip
theorem XM : C.fids 273 = true := by kernel_rfl
theorem agC : Tryz.f273.body = some FC := rfl
theorem YB : C.prim 273 = none := rfl
theorem aa3 : C.funcs 273 = some Tryz.f273 := Tryz.func273
theorem aaF {a : List V} {H : List Ob} {R : V → List Ob → Prop} : Ret C 273 a H R ↔ WP C 273 FC ⟨af a, 0, H⟩ (aF C Tryz.f273 H R) := ah YB XM aa3 agC
@[simp] theorem ah2 : C.locs 273 = [] := by kernel_rfl
noncomputable def Em : Code := match Tryz.f274.body with | some c => c | none => .skip
theorem adW : C.fids 274 = true := by kernel_rfl
theorem VP : Tryz.f274.body = some Em := rfl
theorem aaP : C.prim 274 = none := rfl
theorem aev : C.funcs 274 = some Tryz.f274 := Tryz.func274
theorem adg {a : List V} {H : List Ob} {R : V → List Ob → Prop} : Ret C 274 a H R ↔ WP C 274 Em ⟨af a, 0, H⟩ (aF C Tryz.f274 H R) := ah aaP adW aev VP
@[simp] theorem aiq : C.locs 274 = [2] := by kernel_rfl
noncomputable def uY : Code := match Tryz.f275.body with | some c => c | none => .skip
theorem Z5 : C.fids 275 = true := by kernel_rfl
theorem WX : Tryz.f275.body = some uY := rfl
theorem agj : C.prim 275 = none := rfl
theorem ZG : C.funcs 275 = some Tryz.f275 := Tryz.func275
theorem aeb {a : List V} {H : List Ob} {R : V → List Ob → Prop} : Ret C 275 a H R ↔ WP C 275 uY ⟨af a, 0, H⟩ (aF C Tryz.f275 H R) := ah agj Z5 ZG WX
@[simp] theorem ag2 : C.locs 275 = [] := by kernel_rfl
noncomputable def yD : Code := match Tryz.f276.body with | some c => c | none => .skip
theorem acI : C.fids 276 = true := by kernel_rfl
theorem Yh : Tryz.f276.body = some yD := rfl
theorem aem : C.prim 276 = none := rfl
theorem adr : C.funcs 276 = some Tryz.f276 := Tryz.func276
theorem acU {a : List V} {H : List Ob} {R : V → List Ob → Prop} : Ret C 276 a H R ↔ WP C 276 yD ⟨af a, 0, H⟩ (aF C Tryz.f276 H R) := ah aem acI adr Yh
@[simp] theorem aiz : C.locs 276 = [] := by kernel_rfl
noncomputable def oH : Code := match Tryz.f277.body with | some c => c | none => .skip
theorem adN : C.fids 277 = true := by kernel_rfl
theorem adM : Tryz.f277.body = some oH := rfl
theorem Yy : C.prim 277 = none := rfl
theorem V4 : C.funcs 277 = some Tryz.f277 := Tryz.func277
theorem UF {a : List V} {H : List Ob} {R : V → List Ob → Prop} : Ret C 277 a H R ↔ WP C 277 oH ⟨af a, 0, H⟩ (aF C Tryz.f277 H R) := ah Yy adN V4 adM
@[simp] theorem aht : C.locs 277 = [] := by kernel_rfl
noncomputable def CJ : Code := match Tryz.f278.body with | some c => c | none => .skip
theorem XZ : C.fids 278 = true := by kernel_rfl
theorem ZK : Tryz.f278.body = some CJ := rfl
theorem YC : C.prim 278 = none := rfl
theorem adq : C.funcs 278 = some Tryz.f278 := Tryz.func278
theorem Zq {a : List V} {H : List Ob} {R : V → List Ob → Prop} : Ret C 278 a H R ↔ WP C 278 CJ ⟨af a, 0, H⟩ (aF C Tryz.f278 H R) := ah YC XZ adq ZK
@[simp] theorem aia : C.locs 278 = [] := by kernel_rfl
noncomputable def FM : Code := match Tryz.f279.body with | some c => c | none => .skip
theorem We : C.fids 279 = true := by kernel_rfl
theorem aa0 : Tryz.f279.body = some FM := rfl
theorem acm : C.prim 279 = none := rfl
theorem Wx : C.funcs 279 = some Tryz.f279 := Tryz.func279
theorem adn {a : List V} {H : List Ob} {R : V → List Ob → Prop} : Ret C 279 a H R ↔ WP C 279 FM ⟨af a, 0, H⟩ (aF C Tryz.f279 H R) := ah acm We Wx aa0
@[simp] theorem agY : C.locs 279 = [] := by kernel_rfl
noncomputable def yO : Code := match Tryz.f280.body with | some c => c | none => .skip
theorem aeY : C.fids 280 = true := by kernel_rfl
theorem aeX : Tryz.f280.body = some yO := rfl
theorem ae2 : C.prim 280 = none := rfl
theorem acQ : C.funcs 280 = some Tryz.f280 := Tryz.func280
theorem agy {a : List V} {H : List Ob} {R : V → List Ob → Prop} : Ret C 280 a H R ↔ WP C 280 yO ⟨af a, 0, H⟩ (aF C Tryz.f280 H R) := ah ae2 aeY acQ aeX
@[simp] theorem agN : C.locs 280 = [2] := by kernel_rfl
noncomputable def Eo : Code := match Tryz.f281.body with | some c => c | none => .skip
theorem aaD : C.fids 281 = true := by kernel_rfl
theorem XQ : Tryz.f281.body = some Eo := rfl
theorem aaH : C.prim 281 = none := rfl
theorem aei : C.funcs 281 = some Tryz.f281 := Tryz.func281
theorem Zv {a : List V} {H : List Ob} {R : V → List Ob → Prop} : Ret C 281 a H R ↔ WP C 281 Eo ⟨af a, 0, H⟩ (aF C Tryz.f281 H R) := ah aaH aaD aei XQ
@[simp] theorem ahA : C.locs 281 = [2] := by kernel_rfl
noncomputable def F9 : Code := match Tryz.f282.body with | some c => c | none => .skip
theorem acZ : C.fids 282 = true := by kernel_rfl
theorem abT : Tryz.f282.body = some F9 := rfl
theorem aek : C.prim 282 = none := rfl
theorem W9 : C.funcs 282 = some Tryz.f282 := Tryz.func282
theorem Yv {a : List V} {H : List Ob} {R : V → List Ob → Prop} : Ret C 282 a H R ↔ WP C 282 F9 ⟨af a, 0, H⟩ (aF C Tryz.f282 H R) := ah aek acZ W9 abT
@[simp] theorem ah8 : C.locs 282 = [3, 6, 7, 9] := by kernel_rfl
noncomputable def Ej : Code := match Tryz.f283.body with | some c => c | none => .skip
theorem abn : C.fids 283 = true := by kernel_rfl
theorem afQ : Tryz.f283.body = some Ej := rfl
theorem aam : C.prim 283 = none := rfl
theorem aaI : C.funcs 283 = some Tryz.f283 := Tryz.func283
theorem VS {a : List V} {H : List Ob} {R : V → List Ob → Prop} : Ret C 283 a H R ↔ WP C 283 Ej ⟨af a, 0, H⟩ (aF C Tryz.f283 H R) := ah aam abn aaI afQ
@[simp] theorem ahX : C.locs 283 = [5, 6] := by kernel_rfl
noncomputable def EN : Code := match Tryz.f284.body with | some c => c | none => .skip
theorem abl : C.fids 284 = true := by kernel_rfl
theorem Yw : Tryz.f284.body = some EN := rfl
theorem WL : C.prim 284 = none := rfl
theorem aah : C.funcs 284 = some Tryz.f284 := Tryz.func284
theorem XI {a : List V} {H : List Ob} {R : V → List Ob → Prop} : Ret C 284 a H R ↔ WP C 284 EN ⟨af a, 0, H⟩ (aF C Tryz.f284 H R) := ah WL abl aah Yw
@[simp] theorem ahd : C.locs 284 = [5] := by kernel_rfl
noncomputable def uV : Code := match Tryz.f285.body with | some c => c | none => .skip
theorem afh : C.fids 285 = true := by kernel_rfl
theorem abQ : Tryz.f285.body = some uV := rfl
theorem adu : C.prim 285 = none := rfl
theorem aa1 : C.funcs 285 = some Tryz.f285 := Tryz.func285
theorem Xc {a : List V} {H : List Ob} {R : V → List Ob → Prop} : Ret C 285 a H R ↔ WP C 285 uV ⟨af a, 0, H⟩ (aF C Tryz.f285 H R) := ah adu afh aa1 abQ
@[simp] theorem ahG : C.locs 285 = [2] := by kernel_rfl
noncomputable def yH : Code := match Tryz.f286.body with | some c => c | none => .skip
theorem YO : C.fids 286 = true := by kernel_rfl
theorem ac4 : Tryz.f286.body = some yH := rfl
theorem acM : C.prim 286 = none := rfl
theorem adQ : C.funcs 286 = some Tryz.f286 := Tryz.func286
theorem aea {a : List V} {H : List Ob} {R : V → List Ob → Prop} : Ret C 286 a H R ↔ WP C 286 yH ⟨af a, 0, H⟩ (aF C Tryz.f286 H R) := ah acM YO adQ ac4
@[simp] theorem ahc : C.locs 286 = [] := by kernel_rfl
noncomputable def yF : Code := match Tryz.f287.body with | some c => c | none => .skip
theorem afy : C.fids 287 = true := by kernel_rfl
theorem afo : Tryz.f287.body = some yF := rfl
theorem ace : C.prim 287 = none := rfl
theorem Ze : C.funcs 287 = some Tryz.f287 := Tryz.func287
theorem aaq {a : List V} {H : List Ob} {R : V → List Ob → Prop} : Ret C 287 a H R ↔ WP C 287 yF ⟨af a, 0, H⟩ (aF C Tryz.f287 H R) := ah ace afy Ze afo
@[simp] theorem aha : C.locs 287 = [] := by kernel_rfl
noncomputable def EQ : Code := match Tryz.f288.body with | some c => c | none => .skip
theorem abC : C.fids 288 = true := by kernel_rfl
theorem aeJ : Tryz.f288.body = some EQ := rfl
theorem acb : C.prim 288 = none := rfl
theorem Zl : C.funcs 288 = some Tryz.f288 := Tryz.func288
theorem YP {a : List V} {H : List Ob} {R : V → List Ob → Prop} : Ret C 288 a H R ↔ WP C 288 EQ ⟨af a, 0, H⟩ (aF C Tryz.f288 H R) := ah acb abC Zl aeJ
@[simp] theorem ahg : C.locs 288 = [] := by kernel_rfl
noncomputable def oD : Code := match Tryz.f289.body with | some c => c | none => .skip
theorem QS : C.fids 289 = true := by kernel_rfl
theorem Qm : Tryz.f289.body = some oD := rfl
theorem O8 : C.prim 289 = none := rfl
theorem PW : C.funcs 289 = some Tryz.f289 := Tryz.func289
theorem Rf {a : List V} {H : List Ob} {R : V → List Ob → Prop} : Ret C 289 a H R ↔ WP C 289 oD ⟨af a, 0, H⟩ (aF C Tryz.f289 H R) := ah O8 QS PW Qm
@[simp] theorem Td : C.locs 289 = [] := by kernel_rfl
noncomputable def qh : Code := match Tryz.f290.body with | some c => c | none => .skip
theorem Qr : C.fids 290 = true := by kernel_rfl
theorem RX : Tryz.f290.body = some qh := rfl
theorem QM : C.prim 290 = none := rfl
theorem QQ : C.funcs 290 = some Tryz.f290 := Tryz.func290
theorem PT {a : List V} {H : List Ob} {R : V → List Ob → Prop} : Ret C 290 a H R ↔ WP C 290 qh ⟨af a, 0, H⟩ (aF C Tryz.f290 H R) := ah QM Qr QQ RX
@[simp] theorem Ux : C.locs 290 = [] := by kernel_rfl
noncomputable def sD : Code := match Tryz.f292.body with | some c => c | none => .skip
theorem YV : C.fids 292 = true := by kernel_rfl
theorem ad7 : Tryz.f292.body = some sD := rfl
theorem adK : C.prim 292 = none := rfl
theorem Wn : C.funcs 292 = some Tryz.f292 := Tryz.func292
theorem acf {a : List V} {H : List Ob} {R : V → List Ob → Prop} : Ret C 292 a H R ↔ WP C 292 sD ⟨af a, 0, H⟩ (aF C Tryz.f292 H R) := ah adK YV Wn ad7
@[simp] theorem ai1 : C.locs 292 = [] := by kernel_rfl
noncomputable def yP : Code := match Tryz.f293.body with | some c => c | none => .skip
theorem abH : C.fids 293 = true := by kernel_rfl
theorem aaj : Tryz.f293.body = some yP := rfl
theorem abb : C.prim 293 = none := rfl
theorem WM : C.funcs 293 = some Tryz.f293 := Tryz.func293
theorem ae5 {a : List V} {H : List Ob} {R : V → List Ob → Prop} : Ret C 293 a H R ↔ WP C 293 yP ⟨af a, 0, H⟩ (aF C Tryz.f293 H R) := ah abb abH WM aaj
@[simp] theorem ah4 : C.locs 293 = [4] := by kernel_rfl
noncomputable def yN : Code := match Tryz.f294.body with | some c => c | none => .skip
theorem aa5 : C.fids 294 = true := by kernel_rfl
theorem abV : Tryz.f294.body = some yN := rfl
theorem abG : C.prim 294 = none := rfl
theorem ZE : C.funcs 294 = some Tryz.f294 := Tryz.func294
theorem aeH {a : List V} {H : List Ob} {R : V → List Ob → Prop} : Ret C 294 a H R ↔ WP C 294 yN ⟨af a, 0, H⟩ (aF C Tryz.f294 H R) := ah abG aa5 ZE abV
@[simp] theorem aiA : C.locs 294 = [2] := by kernel_rfl
noncomputable def CY : Code := match Tryz.f300.body with | some c => c | none => .skip
theorem aaY : C.fids 300 = true := by kernel_rfl
theorem ZJ : Tryz.f300.body = some CY := rfl
theorem Yx : C.prim 300 = none := rfl
theorem ae1 : C.funcs 300 = some Tryz.f300 := Tryz.func300
theorem aec {a : List V} {H : List Ob} {R : V → List Ob → Prop} : Ret C 300 a H R ↔ WP C 300 CY ⟨af a, 0, H⟩ (aF C Tryz.f300 H R) := ah Yx aaY ae1 ZJ
@[simp] theorem ahH : C.locs 300 = [] := by kernel_rfl
noncomputable def Dy : Code := match Tryz.f308.body with | some c => c | none => .skip
theorem aeT : C.fids 308 = true := by kernel_rfl
theorem abL : Tryz.f308.body = some Dy := rfl
theorem Yu : C.prim 308 = none := rfl
theorem X7 : C.funcs 308 = some Tryz.f308 := Tryz.func308
theorem YM {a : List V} {H : List Ob} {R : V → List Ob → Prop} : Ret C 308 a H R ↔ WP C 308 Dy ⟨af a, 0, H⟩ (aF C Tryz.f308 H R) := ah Yu aeT X7 abL
@[simp] theorem ahk : C.locs 308 = [] := by kernel_rfl
noncomputable def rM : Code := match Tryz.f312.body with | some c => c | none => .skip
theorem Xt : C.fids 312 = true := by kernel_rfl
theorem ags : Tryz.f312.body = some rM := rfl
theorem ad1 : C.prim 312 = none := rfl
theorem afI : C.funcs 312 = some Tryz.f312 := Tryz.func312
theorem OH {a : List V} {H : List Ob} {R : V → List Ob → Prop} : Ret C 312 a H R ↔ WP C 312 rM ⟨af a, 0, H⟩ (aF C Tryz.f312 H R) := ah ad1 Xt afI ags
@[simp] theorem agW : C.locs 312 = [] := by kernel_rfl
noncomputable def pJ : Code := match Tryz.f313.body with | some c => c | none => .skip
theorem RN : C.fids 313 = true := by kernel_rfl
theorem QR : Tryz.f313.body = some pJ := rfl
theorem Ql : C.prim 313 = none := rfl
theorem Qk : C.funcs 313 = some Tryz.f313 := Tryz.func313
theorem Rq {a : List V} {H : List Ob} {R : V → List Ob → Prop} : Ret C 313 a H R ↔ WP C 313 pJ ⟨af a, 0, H⟩ (aF C Tryz.f313 H R) := ah Ql RN Qk QR
@[simp] theorem SS : C.locs 313 = [] := by kernel_rfl
@[simp] theorem aiy : C.locs 322 = [] := by kernel_rfl
noncomputable def FZ : Code := match Tryz.f323.body with | some c => c | none => .skip
theorem aau : C.fids 323 = true := by kernel_rfl
theorem aen : Tryz.f323.body = some FZ := rfl
theorem adB : C.prim 323 = none := rfl
theorem afX : C.funcs 323 = some Tryz.f323 := Tryz.func323
theorem afD {a : List V} {H : List Ob} {R : V → List Ob → Prop} : Ret C 323 a H R ↔ WP C 323 FZ ⟨af a, 0, H⟩ (aF C Tryz.f323 H R) := ah adB aau afX aen
@[simp] theorem ahf : C.locs 323 = [] := by kernel_rfl
noncomputable def pU : Code := match Tryz.f324.body with | some c => c | none => .skip
theorem Ph : C.fids 324 = true := by kernel_rfl
theorem Qi : Tryz.f324.body = some pU := rfl
theorem Qg : C.prim 324 = none := rfl
theorem OX : C.funcs 324 = some Tryz.f324 := Tryz.func324
theorem PP {a : List V} {H : List Ob} {R : V → List Ob → Prop} : Ret C 324 a H R ↔ WP C 324 pU ⟨af a, 0, H⟩ (aF C Tryz.f324 H R) := ah Qg Ph OX Qi
@[simp] theorem Uo : C.locs 324 = [] := by kernel_rfl
noncomputable def DL : Code := match Tryz.f325.body with | some c => c | none => .skip
theorem XB : C.fids 325 = true := by kernel_rfl
theorem aeh : Tryz.f325.body = some DL := rfl
theorem adJ : C.prim 325 = none := rfl
theorem aab : C.funcs 325 = some Tryz.f325 := Tryz.func325
theorem abj {a : List V} {H : List Ob} {R : V → List Ob → Prop} : Ret C 325 a H R ↔ WP C 325 DL ⟨af a, 0, H⟩ (aF C Tryz.f325 H R) := ah adJ XB aab aeh
@[simp] theorem ahz : C.locs 325 = [] := by kernel_rfl
noncomputable def Fz : Code := match Tryz.f329.body with | some c => c | none => .skip
theorem acw : C.fids 329 = true := by kernel_rfl
theorem aeg : Tryz.f329.body = some Fz := rfl
theorem ael : C.prim 329 = none := rfl
theorem ZF : C.funcs 329 = some Tryz.f329 := Tryz.func329
theorem XE {a : List V} {H : List Ob} {R : V → List Ob → Prop} : Ret C 329 a H R ↔ WP C 329 Fz ⟨af a, 0, H⟩ (aF C Tryz.f329 H R) := ah ael acw ZF aeg
@[simp] theorem ag5 : C.locs 329 = [] := by kernel_rfl
@[simp] theorem ah3 : C.locs 330 = [] := by kernel_rfl
@[simp] theorem ahI : C.locs 331 = [] := by kernel_rfl
@[simp] theorem aiR : C.locs 332 = [] := by kernel_rfl
noncomputable def D9 : Code := match Tryz.f333.body with | some c => c | none => .skip
theorem XG : C.fids 333 = true := by kernel_rfl
theorem aaV : Tryz.f333.body = some D9 := rfl
theorem af4 : C.prim 333 = none := rfl
theorem afu : C.funcs 333 = some Tryz.f333 := Tryz.func333
theorem aeF {a : List V} {H : List Ob} {R : V → List Ob → Prop} : Ret C 333 a H R ↔ WP C 333 D9 ⟨af a, 0, H⟩ (aF C Tryz.f333 H R) := ah af4 XG afu aaV
@[simp] theorem agM : C.locs 333 = [] := by kernel_rfl
noncomputable def D5 : Code := match Tryz.f334.body with | some c => c | none => .skip
theorem Xj : C.fids 334 = true := by kernel_rfl
theorem adi : Tryz.f334.body = some D5 := rfl
theorem X3 : C.prim 334 = none := rfl
theorem aca : C.funcs 334 = some Tryz.f334 := Tryz.func334
theorem agD {a : List V} {H : List Ob} {R : V → List Ob → Prop} : Ret C 334 a H R ↔ WP C 334 D5 ⟨af a, 0, H⟩ (aF C Tryz.f334 H R) := ah X3 Xj aca adi
@[simp] theorem ahM : C.locs 334 = [] := by kernel_rfl
noncomputable def uZ : Code := match Tryz.f335.body with | some c => c | none => .skip
theorem VO : C.fids 335 = true := by kernel_rfl
theorem ac7 : Tryz.f335.body = some uZ := rfl
theorem aaZ : C.prim 335 = none := rfl
theorem aej : C.funcs 335 = some Tryz.f335 := Tryz.func335
theorem UL {a : List V} {H : List Ob} {R : V → List Ob → Prop} : Ret C 335 a H R ↔ WP C 335 uZ ⟨af a, 0, H⟩ (aF C Tryz.f335 H R) := ah aaZ VO aej ac7
@[simp] theorem ahe : C.locs 335 = [4, 7] := by kernel_rfl
noncomputable def Eb : Code := match Tryz.f336.body with | some c => c | none => .skip
theorem ac9 : C.fids 336 = true := by kernel_rfl
theorem acg : Tryz.f336.body = some Eb := rfl
theorem agh : C.prim 336 = none := rfl
theorem afb : C.funcs 336 = some Tryz.f336 := Tryz.func336
theorem aeq {a : List V} {H : List Ob} {R : V → List Ob → Prop} : Ret C 336 a H R ↔ WP C 336 Eb ⟨af a, 0, H⟩ (aF C Tryz.f336 H R) := ah agh ac9 afb acg
@[simp] theorem ah5 : C.locs 336 = [] := by kernel_rfl
noncomputable def yV : Code := match Tryz.f337.body with | some c => c | none => .skip
theorem Xr : C.fids 337 = true := by kernel_rfl
theorem XR : Tryz.f337.body = some yV := rfl
theorem acd : C.prim 337 = none := rfl
theorem Xy : C.funcs 337 = some Tryz.f337 := Tryz.func337
theorem UM {a : List V} {H : List Ob} {R : V → List Ob → Prop} : Ret C 337 a H R ↔ WP C 337 yV ⟨af a, 0, H⟩ (aF C Tryz.f337 H R) := ah acd Xr Xy XR
@[simp] theorem agQ : C.locs 337 = [] := by kernel_rfl
noncomputable def lC : Code := match Tryz.f338.body with | some c => c | none => .skip
theorem PR : C.fids 338 = true := by kernel_rfl
theorem O1 : Tryz.f338.body = some lC := rfl
theorem Rt : C.prim 338 = none := rfl
theorem Rx : C.funcs 338 = some Tryz.f338 := Tryz.func338
theorem Rl {a : List V} {H : List Ob} {R : V → List Ob → Prop} : Ret C 338 a H R ↔ WP C 338 lC ⟨af a, 0, H⟩ (aF C Tryz.f338 H R) := ah Rt PR Rx O1
@[simp] theorem Um : C.locs 338 = [] := by kernel_rfl
noncomputable def DY : Code := match Tryz.f342.body with | some c => c | none => .skip
theorem ZR : C.fids 342 = true := by kernel_rfl
theorem acD : Tryz.f342.body = some DY := rfl
theorem afM : C.prim 342 = none := rfl
theorem Xz : C.funcs 342 = some Tryz.f342 := Tryz.func342
theorem af7 {a : List V} {H : List Ob} {R : V → List Ob → Prop} : Ret C 342 a H R ↔ WP C 342 DY ⟨af a, 0, H⟩ (aF C Tryz.f342 H R) := ah afM ZR Xz acD
@[simp] theorem ahE : C.locs 342 = [] := by kernel_rfl
noncomputable def uB : Code := match Tryz.f343.body with | some c => c | none => .skip
theorem aar : C.fids 343 = true := by kernel_rfl
theorem Y5 : Tryz.f343.body = some uB := rfl
theorem XC : C.prim 343 = none := rfl
theorem ad9 : C.funcs 343 = some Tryz.f343 := Tryz.func343
theorem UN {a : List V} {H : List Ob} {R : V → List Ob → Prop} : Ret C 343 a H R ↔ WP C 343 uB ⟨af a, 0, H⟩ (aF C Tryz.f343 H R) := ah XC aar ad9 Y5
@[simp] theorem aiY : C.locs 343 = [] := by kernel_rfl
noncomputable def EE : Code := match Tryz.f344.body with | some c => c | none => .skip
theorem abR : C.fids 344 = true := by kernel_rfl
theorem VQ : Tryz.f344.body = some EE := rfl
theorem aeP : C.prim 344 = none := rfl
theorem acW : C.funcs 344 = some Tryz.f344 := Tryz.func344
theorem acC {a : List V} {H : List Ob} {R : V → List Ob → Prop} : Ret C 344 a H R ↔ WP C 344 EE ⟨af a, 0, H⟩ (aF C Tryz.f344 H R) := ah aeP abR acW VQ
@[simp] theorem ahb : C.locs 344 = [] := by kernel_rfl
noncomputable def D8 : Code := match Tryz.f346.body with | some c => c | none => .skip
theorem YJ : C.fids 346 = true := by kernel_rfl
theorem WC : Tryz.f346.body = some D8 := rfl
theorem afE : C.prim 346 = none := rfl
theorem ZB : C.funcs 346 = some Tryz.f346 := Tryz.func346
theorem aaw {a : List V} {H : List Ob} {R : V → List Ob → Prop} : Ret C 346 a H R ↔ WP C 346 D8 ⟨af a, 0, H⟩ (aF C Tryz.f346 H R) := ah afE YJ ZB WC
@[simp] theorem aiZ : C.locs 346 = [1, 2] := by kernel_rfl
noncomputable def pG : Code := match Tryz.f349.body with | some c => c | none => .skip
theorem Q5 : C.fids 349 = true := by kernel_rfl
theorem Qd : Tryz.f349.body = some pG := rfl
theorem Rh : C.prim 349 = none := rfl
theorem Qb : C.funcs 349 = some Tryz.f349 := Tryz.func349
theorem QN {a : List V} {H : List Ob} {R : V → List Ob → Prop} : Ret C 349 a H R ↔ WP C 349 pG ⟨af a, 0, H⟩ (aF C Tryz.f349 H R) := ah Rh Q5 Qb Qd
@[simp] theorem SI : C.locs 349 = [] := by kernel_rfl
@[simp] theorem aiX : C.locs 351 = [] := by kernel_rfl
@[simp] theorem ahB : C.locs 352 = [9] := by kernel_rfl
@[simp] theorem ag4 : C.locs 354 = [] := by kernel_rfl
noncomputable def DU : Code := match Tryz.f355.body with | some c => c | none => .skip
theorem agu : C.fids 355 = true := by kernel_rfl
theorem Xo : Tryz.f355.body = some DU := rfl
theorem abM : C.prim 355 = none := rfl
theorem abm : C.funcs 355 = some Tryz.f355 := Tryz.func355
theorem adm {a : List V} {H : List Ob} {R : V → List Ob → Prop} : Ret C 355 a H R ↔ WP C 355 DU ⟨af a, 0, H⟩ (aF C Tryz.f355 H R) := ah abM agu abm Xo
@[simp] theorem agR : C.locs 355 = [] := by kernel_rfl
noncomputable def Fb : Code := match Tryz.f356.body with | some c => c | none => .skip
theorem abP : C.fids 356 = true := by kernel_rfl
theorem abO : Tryz.f356.body = some Fb := rfl
theorem afN : C.prim 356 = none := rfl
theorem ac5 : C.funcs 356 = some Tryz.f356 := Tryz.func356
theorem aeW {a : List V} {H : List Ob} {R : V → List Ob → Prop} : Ret C 356 a H R ↔ WP C 356 Fb ⟨af a, 0, H⟩ (aF C Tryz.f356 H R) := ah afN abP ac5 abO
@[simp] theorem ahv : C.locs 356 = [2] := by kernel_rfl
noncomputable def yR : Code := match Tryz.f357.body with | some c => c | none => .skip
theorem acz : C.fids 357 = true := by kernel_rfl
theorem Yb : Tryz.f357.body = some yR := rfl
theorem aa9 : C.prim 357 = none := rfl
theorem adO : C.funcs 357 = some Tryz.f357 := Tryz.func357
theorem UH {a : List V} {H : List Ob} {R : V → List Ob → Prop} : Ret C 357 a H R ↔ WP C 357 yR ⟨af a, 0, H⟩ (aF C Tryz.f357 H R) := ah aa9 acz adO Yb
@[simp] theorem agZ : C.locs 357 = [] := by kernel_rfl
noncomputable def Ep : Code := match Tryz.f358.body with | some c => c | none => .skip
theorem WW : C.fids 358 = true := by kernel_rfl
theorem Wi : Tryz.f358.body = some Ep := rfl
theorem aal : C.prim 358 = none := rfl
theorem Xw : C.funcs 358 = some Tryz.f358 := Tryz.func358
theorem Ye {a : List V} {H : List Ob} {R : V → List Ob → Prop} : Ret C 358 a H R ↔ WP C 358 Ep ⟨af a, 0, H⟩ (aF C Tryz.f358 H R) := ah aal WW Xw Wi
@[simp] theorem aiJ : C.locs 358 = [2] := by kernel_rfl
noncomputable def jW : Code := match Tryz.f359.body with | some c => c | none => .skip
theorem QZ : C.fids 359 = true := by kernel_rfl
theorem Sr : Tryz.f359.body = some jW := rfl
theorem RF : C.prim 359 = none := rfl
theorem O7 : C.funcs 359 = some Tryz.f359 := Tryz.func359
theorem Pz {a : List V} {H : List Ob} {R : V → List Ob → Prop} : Ret C 359 a H R ↔ WP C 359 jW ⟨af a, 0, H⟩ (aF C Tryz.f359 H R) := ah RF QZ O7 Sr
@[simp] theorem Uw : C.locs 359 = [] := by kernel_rfl
@[simp] theorem ahi : C.locs 384 = [] := by kernel_rfl
@[simp] theorem ag3 : C.locs 385 = [] := by kernel_rfl
@[simp] theorem ah9 : C.ord 7 14 = some ⟨[0, 2, 4, 6, 9, 1, 3, 5, 7, 8, 10], [], [], [(0, 4), (4, 6), (10, 10)], [], []⟩ := by kernel_rfl
@[simp] theorem aif : C.ord 7 18 = some ⟨[0, 1, 2, 4, 6, 3, 5, 7], [], [], [(0, 11), (2, 6), (7, 14)], [], []⟩ := by kernel_rfl
@[simp] theorem ahF : C.ord 7 21 = some ⟨[0, 1, 2, 3, 4], [], [], [(0, 11), (1, 4)], [], []⟩ := by kernel_rfl
@[simp] theorem ah7 : C.ord 7 41 = some ⟨[0, 2, 4, 6, 9, 1, 3, 5, 7, 8, 10], [], [], [(0, 4), (4, 6), (10, 18)], [], []⟩ := by kernel_rfl
@[simp] theorem ail : C.ord 19 6 = none := by kernel_rfl
@[simp] theorem Un : C.ord 38 6 = none := by kernel_rfl
@[simp] theorem aiV : C.ord 59 4 = none := by kernel_rfl
@[simp] theorem ahJ : C.ord 65 6 = none := by kernel_rfl
@[simp] theorem TF : C.ord 69 6 = none := by kernel_rfl
@[simp] theorem aiQ : C.ord 74 7 = some ⟨[0, 1, 2, 3, 4, 5, 6, 7, 8, 9, 10, 11, 12, 13, 14, 15, 16, 17, 18, 19, 20, 22, 23, 21, 24, 25, 26, 27], [], [], [(0, 4), (5, 1), (6, 4), (15, 1), (23, 4)], [], []⟩ := by kernel_rfl
@[simp] theorem XY : C.ord 74 13 = some ⟨[0, 1, 2, 3, 4, 5, 6, 7, 8, 9, 10], [], [], [(4, 1)], [], []⟩ := by kernel_rfl
@[simp] theorem aiD : C.ord 80 6 = some ⟨[0, 1, 2, 3, 4, 5, 6, 7, 8, 9, 10, 11, 12, 13, 14, 15, 17, 18, 16, 19, 20, 21, 22], [], [], [(2, 4), (18, 4)], [], []⟩ := by kernel_rfl
@[simp] theorem OI : C.ord 103 6 = none := by kernel_rfl
@[simp] theorem QI : C.ord 104 6 = none := by kernel_rfl
@[simp] theorem aet : C.ord 112 1 = some ⟨[0, 1, 2, 3, 4], [], [], [(0, 4)], [], []⟩ := by kernel_rfl
@[simp] theorem WV : C.ord 112 6 = some ⟨[0, 1, 2, 3, 4, 5, 6, 7, 8, 9, 10, 12, 11, 13, 14, 15, 16], [], [], [(4, 4)], [], []⟩ := by kernel_rfl
@[simp] theorem VH : C.ord 112 11 = some ⟨[0, 1, 2, 3, 4, 5], [], [], [(0, 4), (2, 10)], [], []⟩ := by kernel_rfl
@[simp] theorem VD : C.ord 112 24 = some ⟨[0, 1, 3, 2, 4, 5, 6], [], [], [(0, 4), (3, 12), (6, 8)], [], []⟩ := by kernel_rfl
@[simp] theorem VJ : C.ord 117 14 = some ⟨[0, 1, 2, 3, 4, 5, 6], [], [], [(1, 6), (3, 6)], [], []⟩ := by kernel_rfl
@[simp] theorem VG : C.ord 117 22 = some ⟨[0, 1, 2, 3, 4, 5, 6, 7, 8, 9, 10, 11], [7], [4], [], [], []⟩ := by kernel_rfl
@[simp] theorem aft : C.ord 135 4 = none := by kernel_rfl
@[simp] theorem abe : C.ord 159 4 = none := by kernel_rfl
@[simp] theorem aci : C.ord 160 2 = none := by kernel_rfl
@[simp] theorem Z8 : C.ord 160 7 = none := by kernel_rfl
@[simp] theorem acp : C.ord 161 5 = some ⟨[0, 1, 2, 3, 4, 5, 6, 7, 8, 9, 10, 11, 12, 13, 14, 15, 16], [14], [6], [], [], []⟩ := by kernel_rfl
@[simp] theorem adC : C.ord 168 6 = none := by kernel_rfl
@[simp] theorem agd : C.ord 180 4 = none := by kernel_rfl
@[simp] theorem Y6 : C.ord 188 5 = some ⟨[0, 1, 2, 3, 4, 5, 6, 7, 9, 10, 11, 12, 13, 14, 8, 15, 16, 17, 18, 19, 20], [8, 15], [7, 14], [(1, 3), (3, 1), (10, 1), (20, 3)], [], []⟩ := by kernel_rfl
@[simp] theorem abU : C.ord 192 1 = some ⟨[0, 1, 2, 3, 4, 5, 6, 7, 8, 9, 10], [5], [3], [], [], []⟩ := by kernel_rfl
@[simp] theorem WH : C.ord 195 5 = some ⟨[0, 1, 2, 3, 4, 5, 6, 7, 8, 9, 10, 11], [], [], [(1, 3), (3, 5), (5, 5), (11, 3)], [], []⟩ := by kernel_rfl
@[simp] theorem agK : C.ord 198 4 = some ⟨[0, 1, 2, 3, 4, 5, 6, 7], [6], [4], [], [], []⟩ := by kernel_rfl
@[simp] theorem YL : C.ord 199 4 = some ⟨[0, 1, 2, 3, 4, 5, 6, 7], [6], [4], [], [], []⟩ := by kernel_rfl
@[simp] theorem aco : C.ord 199 7 = some ⟨[0, 1, 2, 3, 4, 5, 6, 7], [6], [4], [], [], []⟩ := by kernel_rfl
@[simp] theorem agi : C.ord 200 4 = some ⟨[0, 1, 2, 3, 4, 5, 6, 7], [6], [4], [], [], []⟩ := by kernel_rfl
@[simp] theorem agl : C.ord 204 6 = some ⟨[0, 1, 2, 3, 5, 6, 4, 7, 8, 9, 10], [], [], [(0, 3), (10, 6)], [(2, 0), (6, 1)], [(4, [1])]⟩ := by kernel_rfl
@[simp] theorem acO : C.ord 205 3 = some ⟨[0, 1, 2, 3, 4, 5, 6, 7, 8, 9, 10, 11, 13, 14, 12, 15, 16, 17], [], [], [(2, 5), (7, 5), (14, 3)], [], []⟩ := by kernel_rfl
@[simp] theorem YU : C.ord 206 2 = some ⟨[1, 2, 3, 4, 6, 7, 8, 9, 10, 0, 5, 11, 12, 13], [0, 5], [4, 10], [(2, 5), (7, 5), (13, 5)], [], []⟩ := by kernel_rfl
@[simp] theorem aae : C.ord 208 1 = some ⟨[0, 1, 3, 4, 2, 5, 6, 7], [], [], [(1, 1), (4, 1), (7, 2)], [], []⟩ := by kernel_rfl
@[simp] theorem VI : C.ord 213 10 = some ⟨[0, 1, 2, 3, 4, 5, 6, 7, 8, 9, 10, 11, 12, 13, 14, 15, 16, 17], [15], [4, 7], [], [], []⟩ := by kernel_rfl
@[simp] theorem Ws : C.ord 214 5 = none := by kernel_rfl
@[simp] theorem Yp : C.ord 218 5 = some ⟨[0, 1, 2, 3, 4, 5, 6, 7, 8, 9, 10, 11], [], [], [(1, 3), (3, 1), (11, 3)], [], []⟩ := by kernel_rfl
@[simp] theorem ZT : C.ord 227 4 = some ⟨[0, 1, 2, 3, 4, 5, 6, 7, 8, 9, 10, 11, 12, 13, 14, 16, 17, 18, 19, 15, 20, 21, 22, 23], [15], [19], [], [], []⟩ := by kernel_rfl
@[simp] theorem WO : C.ord 247 6 = none := by kernel_rfl
@[simp] theorem VF : C.ord 247 11 = none := by kernel_rfl
@[simp] theorem agG : C.ord 256 8 = some ⟨[0, 1, 2, 3, 4, 8, 9, 5, 6, 7, 10, 11, 12, 13, 14, 15, 16, 17, 18, 19, 20, 21, 22, 23, 24], [5, 6], [8], [(1, 1), (19, 1)], [], []⟩ := by kernel_rfl
@[simp] theorem V3 : C.ord 278 4 = some ⟨[0, 1, 2, 3, 4, 5, 6], [5], [3], [], [], []⟩ := by kernel_rfl
@[simp] theorem afR : C.ord 288 1 = some ⟨[0, 2, 1, 3, 4], [1], [2], [], [], []⟩ := by kernel_rfl
@[simp] theorem aaC : C.ord 312 6 = none := by kernel_rfl
@[simp] theorem VE : C.ord 312 11 = none := by kernel_rfl
@[simp] theorem acE : C.ord 334 6 = some ⟨[0, 1, 2, 3, 4, 5, 6, 7, 8, 10, 11, 12, 13, 9, 14, 15, 16], [9], [13], [], [], []⟩ := by kernel_rfl
@[simp] theorem aey : C.ord 335 5 = some ⟨[0, 1, 2, 3, 5, 6, 8, 9, 4, 7, 10, 11, 12, 13], [], [], [(1, 7), (3, 7), (6, 7), (9, 7), (12, 4)], [], []⟩ := by kernel_rfl
@[simp] theorem ad3 : C.ord 342 5 = none := by kernel_rfl
end Go.Proofs.Try1
end
