/- Part 07 of the proof of a law: the interpreter, its soundness, and what functions of the program compute over it. Conditions: none but those that each theorem names. -/
import Derived.Test.YtipjjjlomghdfaaGreatDoorS06
import Derived.KernelRfl

set_option linter.all false
set_option maxRecDepth 20000
set_option maxHeartbeats 40000000
section
namespace Go.Proofs.Try1
open Go Go.Lite
noncomputable def C : Ctx := ctxOf Tryz.prog tabs
variable {a : List V} {H : List Ob} {R : V → List Ob → Prop}
@[simp] theorem ty2 : C.ty 2 = ⟨.int .i64, 1, 8, [.int .i64 0]⟩ := by kernel_rfl
@[simp] theorem ty3 : C.ty 3 = ⟨.int .i64, 1, 8, [.int .i64 0]⟩ := by kernel_rfl
@[simp] theorem ty4 : C.ty 4 = ⟨.bool, 1, 1, [.bool false]⟩ := by kernel_rfl
@[simp] theorem ty5 : C.ty 5 = ⟨.int .u8, 1, 1, [.int .u8 0]⟩ := by kernel_rfl
@[simp] theorem ty9 : C.ty 9 = ⟨.str, 1, 16, [.str []]⟩ := by kernel_rfl
@[simp] theorem SL : C.ty 21 = ⟨.int .i32, 1, 4, [.int .i32 0]⟩ := by kernel_rfl
@[simp] theorem Jj : C.ty 22 = ⟨.slice 189, 1, 24, [.slc none 0]⟩ := by kernel_rfl
@[simp] theorem IX : C.ty 23 = ⟨.slice 193, 1, 24, [.slc none 0]⟩ := by kernel_rfl
@[simp] theorem SI : C.ty 25 = ⟨.struct [(0, 22), (1, 23)], 2, 48, [.slc none 0, .slc none 0]⟩ := by kernel_rfl
@[simp] theorem Iq : C.ty 34 = ⟨.slice 208, 1, 24, [.slc none 0]⟩ := by kernel_rfl
@[simp] theorem F6 : C.ty 35 = ⟨.slice 155, 1, 24, [.slc none 0]⟩ := by kernel_rfl
@[simp] theorem SE : C.ty 37 = ⟨.struct [(0, 34), (1, 35)], 2, 48, [.slc none 0, .slc none 0]⟩ := by kernel_rfl
@[simp] theorem Js : C.ty 47 = ⟨.slice 180, 1, 24, [.slc none 0]⟩ := by kernel_rfl
@[simp] theorem Ij : C.ty 48 = ⟨.slice 183, 1, 24, [.slc none 0]⟩ := by kernel_rfl
@[simp] theorem J3 : C.ty 49 = ⟨.slice 186, 1, 24, [.slc none 0]⟩ := by kernel_rfl
@[simp] theorem SN : C.ty 51 = ⟨.struct [(0, 47), (1, 48), (2, 49), (3, 49), (4, 49), (5, 4)], 6, 128, [.slc none 0, .slc none 0, .slc none 0, .slc none 0, .slc none 0, .bool false]⟩ := by kernel_rfl
@[simp] theorem Q8 : C.ty 54 = ⟨.slice 119, 1, 24, [.slc none 0]⟩ := by kernel_rfl
@[simp] theorem Ey : C.ty 56 = ⟨.slice 202, 1, 24, [.slc none 0]⟩ := by kernel_rfl
@[simp] theorem IZ : C.ty 57 = ⟨.slice 204, 1, 24, [.slc none 0]⟩ := by kernel_rfl
@[simp] theorem GU : C.ty 58 = ⟨.slice 206, 1, 24, [.slc none 0]⟩ := by kernel_rfl
@[simp] theorem SK : C.ty 60 = ⟨.struct [(0, 56), (1, 57), (2, 58), (3, 58), (4, 58), (5, 4)], 6, 128, [.slc none 0, .slc none 0, .slc none 0, .slc none 0, .slc none 0, .bool false]⟩ := by kernel_rfl
@[simp] theorem SH : C.ty 99 = ⟨.func, 1, 8, [.nilfn]⟩ := by kernel_rfl
@[simp] theorem Si : C.ty 116 = ⟨.ptr, 1, 8, [.ptr none]⟩ := by kernel_rfl
@[simp] theorem xW : C.ty 119 = ⟨.struct [(0, 9), (1, 9), (2, 9), (3, 9), (4, 2)], 5, 72, [.str [], .str [], .str [], .str [], .int .i64 0]⟩ := by kernel_rfl
@[simp] theorem Sj : C.ty 148 = ⟨.slice 9, 1, 24, [.slc none 0]⟩ := by kernel_rfl
@[simp] theorem CJ : C.ty 153 = ⟨.slice 249, 1, 24, [.slc none 0]⟩ := by kernel_rfl
@[simp] theorem tX : C.ty 155 = ⟨.struct [(0, 56), (1, 153)], 2, 48, [.slc none 0, .slc none 0]⟩ := by kernel_rfl
@[simp] theorem Sr : C.ty 156 = ⟨.func, 1, 8, [.nilfn]⟩ := by kernel_rfl
@[simp] theorem mr : C.ty 180 = ⟨.struct [(0, 9), (1, 9)], 2, 32, [.str [], .str []]⟩ := by kernel_rfl
@[simp] theorem mD : C.ty 183 = ⟨.struct [(0, 2), (1, 9), (2, 9), (3, 2)], 4, 48, [.int .i64 0, .str [], .str [], .int .i64 0]⟩ := by kernel_rfl
@[simp] theorem mF : C.ty 186 = ⟨.struct [(0, 2), (1, 9), (2, 2)], 3, 32, [.int .i64 0, .str [], .int .i64 0]⟩ := by kernel_rfl
@[simp] theorem mP : C.ty 189 = ⟨.struct [(0, 9), (1, 148), (2, 148), (3, 148)], 4, 88, [.str [], .slc none 0, .slc none 0, .slc none 0]⟩ := by kernel_rfl
@[simp] theorem DN : C.ty 191 = ⟨.slice 323, 1, 24, [.slc none 0]⟩ := by kernel_rfl
@[simp] theorem lY : C.ty 193 = ⟨.struct [(0, 47), (1, 191)], 2, 48, [.slc none 0, .slc none 0]⟩ := by kernel_rfl
@[simp] theorem pM : C.ty 202 = ⟨.struct [(0, 9), (1, 9)], 2, 32, [.str [], .str []]⟩ := by kernel_rfl
@[simp] theorem uy : C.ty 204 = ⟨.struct [(0, 2), (1, 9), (2, 9), (3, 2)], 4, 48, [.int .i64 0, .str [], .str [], .int .i64 0]⟩ := by kernel_rfl
@[simp] theorem ry : C.ty 206 = ⟨.struct [(0, 2), (1, 9), (2, 2)], 3, 32, [.int .i64 0, .str [], .int .i64 0]⟩ := by kernel_rfl
@[simp] theorem uS : C.ty 208 = ⟨.struct [(0, 9), (1, 148), (2, 148), (3, 148)], 4, 88, [.str [], .slc none 0, .slc none 0, .slc none 0]⟩ := by kernel_rfl
@[simp] theorem Sm : C.ty 212 = ⟨.ptr, 1, 8, [.ptr none]⟩ := by kernel_rfl
@[simp] theorem I9 : C.ty 222 = ⟨.slice 5, 1, 24, [.slc none 0]⟩ := by kernel_rfl
@[simp] theorem RX : C.ty 242 = ⟨.func, 1, 8, [.nilfn]⟩ := by kernel_rfl
@[simp] theorem Sz : C.ty 247 = ⟨.func, 1, 8, [.nilfn]⟩ := by kernel_rfl
@[simp] theorem rW : C.ty 249 = ⟨.struct [(0, 9), (1, 148)], 2, 40, [.str [], .slc none 0]⟩ := by kernel_rfl
@[simp] theorem SA : C.ty 268 = ⟨.array 256 4, 256, 256, List.replicate 256 (.bool false)⟩ := by kernel_rfl
@[simp] theorem RS : C.ty 272 = ⟨.ptr, 1, 8, [.ptr none]⟩ := by kernel_rfl
@[simp] theorem RU : C.ty 286 = ⟨.func, 1, 8, [.nilfn]⟩ := by kernel_rfl
@[simp] theorem Su : C.ty 291 = ⟨.slice 148, 1, 24, [.slc none 0]⟩ := by kernel_rfl
@[simp] theorem lW : C.ty 323 = ⟨.struct [(0, 9), (1, 148)], 2, 40, [.str [], .slc none 0]⟩ := by kernel_rfl
@[simp] theorem SC : C.ty 329 = ⟨.ptr, 1, 8, [.ptr none]⟩ := by kernel_rfl
@[simp] theorem RP : C.ty 331 = ⟨.struct [(0, 58), (1, 155), (3, 3), (4, 4)], 5, 88, [.slc none 0, .slc none 0, .slc none 0, .int .i64 0, .bool false]⟩ := by kernel_rfl
@[simp] theorem RQ : C.ty 337 = ⟨.slice 2, 1, 24, [.slc none 0]⟩ := by kernel_rfl
@[simp] theorem RZ : C.ty 349 = ⟨.int .u64, 1, 8, [.int .u64 0]⟩ := by kernel_rfl
@[simp] theorem SB : C.ty 360 = ⟨.array 256 5, 256, 256, List.replicate 256 (.int .u8 0)⟩ := by kernel_rfl
@[simp] theorem RN : C.ty 362 = ⟨.struct [(0, 5), (1, 5)], 2, 2, [.int .u8 0, .int .u8 0]⟩ := by kernel_rfl
@[simp] theorem RY : C.ty 363 = ⟨.array 16 362, 32, 32, List.replicate 32 (.int .u8 0)⟩ := by kernel_rfl
@[simp] theorem Sv : C.ty 378 = ⟨.func, 1, 8, [.nilfn]⟩ := by kernel_rfl
noncomputable def tq := Tryz.f4.body.getD .skip
theorem SG : Ret C 4 a H R ↔ WP C 4 tq ⟨initRegs a, 0, H⟩ (finQ C Tryz.f4 H R) := Ret_fn rfl (by kernel_rfl) Tryz.func4 rfl
@[simp] theorem RV : C.locs 4 = [2, 3, 7, 8] := by kernel_rfl
noncomputable def gW := Tryz.f13.body.getD .skip
theorem vU : Ret C 13 a H R ↔ WP C 13 gW ⟨initRegs a, 0, H⟩ (finQ C Tryz.f13 H R) := Ret_fn rfl (by kernel_rfl) Tryz.func13 rfl
@[simp] theorem Ql : C.locs 13 = [2] := by kernel_rfl
noncomputable def og := Tryz.f14.body.getD .skip
theorem EO : Ret C 14 a H R ↔ WP C 14 og ⟨initRegs a, 0, H⟩ (finQ C Tryz.f14 H R) := Ret_fn rfl (by kernel_rfl) Tryz.func14 rfl
@[simp] theorem Ri : C.locs 14 = [2] := by kernel_rfl
noncomputable def nX := Tryz.f15.body.getD .skip
theorem QG : Ret C 15 a H R ↔ WP C 15 nX ⟨initRegs a, 0, H⟩ (finQ C Tryz.f15 H R) := Ret_fn rfl (by kernel_rfl) Tryz.func15 rfl
@[simp] theorem Qw : C.locs 15 = [2, 3] := by kernel_rfl
noncomputable def zZ := Tryz.f16.body.getD .skip
theorem Qy : Ret C 16 a H R ↔ WP C 16 zZ ⟨initRegs a, 0, H⟩ (finQ C Tryz.f16 H R) := Ret_fn rfl (by kernel_rfl) Tryz.func16 rfl
@[simp] theorem QY : C.locs 16 = [1, 2, 3] := by kernel_rfl
noncomputable def xn := Tryz.f17.body.getD .skip
theorem Rk : Ret C 17 a H R ↔ WP C 17 xn ⟨initRegs a, 0, H⟩ (finQ C Tryz.f17 H R) := Ret_fn rfl (by kernel_rfl) Tryz.func17 rfl
@[simp] theorem Qg : C.locs 17 = [1, 2, 3] := by kernel_rfl
noncomputable def nZ := Tryz.f18.body.getD .skip
theorem QS : Ret C 18 a H R ↔ WP C 18 nZ ⟨initRegs a, 0, H⟩ (finQ C Tryz.f18 H R) := Ret_fn rfl (by kernel_rfl) Tryz.func18 rfl
@[simp] theorem P8 : C.locs 18 = [2] := by kernel_rfl
noncomputable def yl := Tryz.f19.body.getD .skip
theorem Qd : Ret C 19 a H R ↔ WP C 19 yl ⟨initRegs a, 0, H⟩ (finQ C Tryz.f19 H R) := Ret_fn rfl (by kernel_rfl) Tryz.func19 rfl
@[simp] theorem Ro : C.locs 19 = [] := by kernel_rfl
noncomputable def fU := Tryz.f20.body.getD .skip
theorem qH : Ret C 20 a H R ↔ WP C 20 fU ⟨initRegs a, 0, H⟩ (finQ C Tryz.f20 H R) := Ret_fn rfl (by kernel_rfl) Tryz.func20 rfl
@[simp] theorem Qn : C.locs 20 = [2, 3] := by kernel_rfl
noncomputable def nO := Tryz.f21.body.getD .skip
theorem EL : Ret C 21 a H R ↔ WP C 21 nO ⟨initRegs a, 0, H⟩ (finQ C Tryz.f21 H R) := Ret_fn rfl (by kernel_rfl) Tryz.func21 rfl
@[simp] theorem QN : C.locs 21 = [2, 3] := by kernel_rfl
noncomputable def yh := Tryz.f22.body.getD .skip
theorem Qs : Ret C 22 a H R ↔ WP C 22 yh ⟨initRegs a, 0, H⟩ (finQ C Tryz.f22 H R) := Ret_fn rfl (by kernel_rfl) Tryz.func22 rfl
@[simp] theorem Qr : C.locs 22 = [2] := by kernel_rfl
noncomputable def xk := Tryz.f23.body.getD .skip
theorem QB : Ret C 23 a H R ↔ WP C 23 xk ⟨initRegs a, 0, H⟩ (finQ C Tryz.f23 H R) := Ret_fn rfl (by kernel_rfl) Tryz.func23 rfl
@[simp] theorem Qu : C.locs 23 = [2] := by kernel_rfl
noncomputable def zQ := Tryz.f24.body.getD .skip
theorem Rx : Ret C 24 a H R ↔ WP C 24 zQ ⟨initRegs a, 0, H⟩ (finQ C Tryz.f24 H R) := Ret_fn rfl (by kernel_rfl) Tryz.func24 rfl
@[simp] theorem RD : C.locs 24 = [] := by kernel_rfl
noncomputable def xA := Tryz.f25.body.getD .skip
theorem P9 : Ret C 25 a H R ↔ WP C 25 xA ⟨initRegs a, 0, H⟩ (finQ C Tryz.f25 H R) := Ret_fn rfl (by kernel_rfl) Tryz.func25 rfl
@[simp] theorem QP : C.locs 25 = [] := by kernel_rfl
noncomputable def oL := Tryz.f41.body.getD .skip
theorem RJ : Ret C 41 a H R ↔ WP C 41 oL ⟨initRegs a, 0, H⟩ (finQ C Tryz.f41 H R) := Ret_fn rfl (by kernel_rfl) Tryz.func41 rfl
@[simp] theorem PU : C.locs 41 = [1, 4] := by kernel_rfl
noncomputable def bV := Tryz.f44.body.getD .skip
theorem Hf : C.fids 44 = true := by kernel_rfl
theorem Hu : Tryz.f44.body = some bV := rfl
theorem GH : C.prim 44 = none := rfl
theorem Io : C.funcs 44 = some Tryz.f44 := Tryz.func44
theorem EU : Ret C 44 a H R ↔ WP C 44 bV ⟨initRegs a, 0, H⟩ (finQ C Tryz.f44 H R) := Ret_fn rfl (by kernel_rfl) Tryz.func44 rfl
@[simp] theorem ED : C.locs 44 = [] := by kernel_rfl
noncomputable def nH := Tryz.f47.body.getD .skip
theorem Ry : Ret C 47 a H R ↔ WP C 47 nH ⟨initRegs a, 0, H⟩ (finQ C Tryz.f47 H R) := Ret_fn rfl (by kernel_rfl) Tryz.func47 rfl
@[simp] theorem QU : C.locs 47 = [4] := by kernel_rfl
noncomputable def gX := Tryz.f50.body.getD .skip
theorem Qj : Ret C 50 a H R ↔ WP C 50 gX ⟨initRegs a, 0, H⟩ (finQ C Tryz.f50 H R) := Ret_fn rfl (by kernel_rfl) Tryz.func50 rfl
@[simp] theorem Ru : C.locs 50 = [] := by kernel_rfl
noncomputable def kH := Tryz.f53.body.getD .skip
theorem QH : Ret C 53 a H R ↔ WP C 53 kH ⟨initRegs a, 0, H⟩ (finQ C Tryz.f53 H R) := Ret_fn rfl (by kernel_rfl) Tryz.func53 rfl
@[simp] theorem RI : C.locs 53 = [] := by kernel_rfl
noncomputable def xH := Tryz.f54.body.getD .skip
theorem Qi : Ret C 54 a H R ↔ WP C 54 xH ⟨initRegs a, 0, H⟩ (finQ C Tryz.f54 H R) := Ret_fn rfl (by kernel_rfl) Tryz.func54 rfl
@[simp] theorem PZ : C.locs 54 = [] := by kernel_rfl
noncomputable def zx := Tryz.f55.body.getD .skip
theorem Qa : Ret C 55 a H R ↔ WP C 55 zx ⟨initRegs a, 0, H⟩ (finQ C Tryz.f55 H R) := Ret_fn rfl (by kernel_rfl) Tryz.func55 rfl
@[simp] theorem QL : C.locs 55 = [] := by kernel_rfl
noncomputable def xQ := Tryz.f56.body.getD .skip
theorem Qb : Ret C 56 a H R ↔ WP C 56 xQ ⟨initRegs a, 0, H⟩ (finQ C Tryz.f56 H R) := Ret_fn rfl (by kernel_rfl) Tryz.func56 rfl
@[simp] theorem Qo : C.locs 56 = [] := by kernel_rfl
noncomputable def Af := Tryz.f57.body.getD .skip
theorem QX : Ret C 57 a H R ↔ WP C 57 Af ⟨initRegs a, 0, H⟩ (finQ C Tryz.f57 H R) := Ret_fn rfl (by kernel_rfl) Tryz.func57 rfl
@[simp] theorem Qh : C.locs 57 = [] := by kernel_rfl
noncomputable def bY := Tryz.f58.body.getD .skip
theorem QR : Ret C 58 a H R ↔ WP C 58 bY ⟨initRegs a, 0, H⟩ (finQ C Tryz.f58 H R) := Ret_fn rfl (by kernel_rfl) Tryz.func58 rfl
@[simp] theorem Q4 : C.locs 58 = [1] := by kernel_rfl
noncomputable def yA := Tryz.f59.body.getD .skip
theorem PV : Ret C 59 a H R ↔ WP C 59 yA ⟨initRegs a, 0, H⟩ (finQ C Tryz.f59 H R) := Ret_fn rfl (by kernel_rfl) Tryz.func59 rfl
@[simp] theorem Rz : C.locs 59 = [2, 3] := by kernel_rfl
noncomputable def nU := Tryz.f60.body.getD .skip
theorem P5 : Ret C 60 a H R ↔ WP C 60 nU ⟨initRegs a, 0, H⟩ (finQ C Tryz.f60 H R) := Ret_fn rfl (by kernel_rfl) Tryz.func60 rfl
@[simp] theorem Rn : C.locs 60 = [] := by kernel_rfl
noncomputable def yw := Tryz.f61.body.getD .skip
theorem Qc : Ret C 61 a H R ↔ WP C 61 yw ⟨initRegs a, 0, H⟩ (finQ C Tryz.f61 H R) := Ret_fn rfl (by kernel_rfl) Tryz.func61 rfl
@[simp] theorem Qz : C.locs 61 = [] := by kernel_rfl
noncomputable def zM := Tryz.f62.body.getD .skip
theorem Qm : Ret C 62 a H R ↔ WP C 62 zM ⟨initRegs a, 0, H⟩ (finQ C Tryz.f62 H R) := Ret_fn rfl (by kernel_rfl) Tryz.func62 rfl
@[simp] theorem QQ : C.locs 62 = [] := by kernel_rfl
noncomputable def yJ := Tryz.f63.body.getD .skip
theorem Rh : Ret C 63 a H R ↔ WP C 63 yJ ⟨initRegs a, 0, H⟩ (finQ C Tryz.f63 H R) := Ret_fn rfl (by kernel_rfl) Tryz.func63 rfl
@[simp] theorem PS : C.locs 63 = [] := by kernel_rfl
noncomputable def zf := Tryz.f64.body.getD .skip
theorem QJ : Ret C 64 a H R ↔ WP C 64 zf ⟨initRegs a, 0, H⟩ (finQ C Tryz.f64 H R) := Ret_fn rfl (by kernel_rfl) Tryz.func64 rfl
@[simp] theorem QC : C.locs 64 = [] := by kernel_rfl
noncomputable def dW := Tryz.f65.body.getD .skip
theorem QF : Ret C 65 a H R ↔ WP C 65 dW ⟨initRegs a, 0, H⟩ (finQ C Tryz.f65 H R) := Ret_fn rfl (by kernel_rfl) Tryz.func65 rfl
@[simp] theorem Qv : C.locs 65 = [1] := by kernel_rfl
noncomputable def yF := Tryz.f66.body.getD .skip
theorem P7 : Ret C 66 a H R ↔ WP C 66 yF ⟨initRegs a, 0, H⟩ (finQ C Tryz.f66 H R) := Ret_fn rfl (by kernel_rfl) Tryz.func66 rfl
@[simp] theorem PW : C.locs 66 = [2] := by kernel_rfl
noncomputable def iq := Tryz.f67.body.getD .skip
theorem wC : Ret C 67 a H R ↔ WP C 67 iq ⟨initRegs a, 0, H⟩ (finQ C Tryz.f67 H R) := Ret_fn rfl (by kernel_rfl) Tryz.func67 rfl
@[simp] theorem Rq : C.locs 67 = [2, 3] := by kernel_rfl
noncomputable def lJ := Tryz.f68.body.getD .skip
theorem QI : Ret C 68 a H R ↔ WP C 68 lJ ⟨initRegs a, 0, H⟩ (finQ C Tryz.f68 H R) := Ret_fn rfl (by kernel_rfl) Tryz.func68 rfl
@[simp] theorem QT : C.locs 68 = [] := by kernel_rfl
noncomputable def y8 := Tryz.f69.body.getD .skip
theorem Qk : Ret C 69 a H R ↔ WP C 69 y8 ⟨initRegs a, 0, H⟩ (finQ C Tryz.f69 H R) := Ret_fn rfl (by kernel_rfl) Tryz.func69 rfl
@[simp] theorem QM : C.locs 69 = [] := by kernel_rfl
noncomputable def xN := Tryz.f70.body.getD .skip
theorem Rj : Ret C 70 a H R ↔ WP C 70 xN ⟨initRegs a, 0, H⟩ (finQ C Tryz.f70 H R) := Ret_fn rfl (by kernel_rfl) Tryz.func70 rfl
@[simp] theorem QZ : C.locs 70 = [] := by kernel_rfl
noncomputable def xg := Tryz.f71.body.getD .skip
theorem Qx : Ret C 71 a H R ↔ WP C 71 xg ⟨initRegs a, 0, H⟩ (finQ C Tryz.f71 H R) := Ret_fn rfl (by kernel_rfl) Tryz.func71 rfl
@[simp] theorem Rf : C.locs 71 = [] := by kernel_rfl
noncomputable def zS := Tryz.f72.body.getD .skip
theorem QV : Ret C 72 a H R ↔ WP C 72 zS ⟨initRegs a, 0, H⟩ (finQ C Tryz.f72 H R) := Ret_fn rfl (by kernel_rfl) Tryz.func72 rfl
@[simp] theorem RF : C.locs 72 = [] := by kernel_rfl
noncomputable def yT := Tryz.f73.body.getD .skip
theorem Rt : Ret C 73 a H R ↔ WP C 73 yT ⟨initRegs a, 0, H⟩ (finQ C Tryz.f73 H R) := Ret_fn rfl (by kernel_rfl) Tryz.func73 rfl
@[simp] theorem Rl : C.locs 73 = [] := by kernel_rfl
noncomputable def zH := Tryz.f74.body.getD .skip
theorem Q3 : Ret C 74 a H R ↔ WP C 74 zH ⟨initRegs a, 0, H⟩ (finQ C Tryz.f74 H R) := Ret_fn rfl (by kernel_rfl) Tryz.func74 rfl
@[simp] theorem P6 : C.locs 74 = [] := by kernel_rfl
noncomputable def zT := Tryz.f75.body.getD .skip
theorem Q9 : Ret C 75 a H R ↔ WP C 75 zT ⟨initRegs a, 0, H⟩ (finQ C Tryz.f75 H R) := Ret_fn rfl (by kernel_rfl) Tryz.func75 rfl
@[simp] theorem PX : C.locs 75 = [] := by kernel_rfl
noncomputable def x8 := Tryz.f76.body.getD .skip
theorem Q5 : Ret C 76 a H R ↔ WP C 76 x8 ⟨initRegs a, 0, H⟩ (finQ C Tryz.f76 H R) := Ret_fn rfl (by kernel_rfl) Tryz.func76 rfl
@[simp] theorem QD : C.locs 76 = [] := by kernel_rfl
noncomputable def zB := Tryz.f77.body.getD .skip
theorem RH : Ret C 77 a H R ↔ WP C 77 zB ⟨initRegs a, 0, H⟩ (finQ C Tryz.f77 H R) := Ret_fn rfl (by kernel_rfl) Tryz.func77 rfl
@[simp] theorem QE : C.locs 77 = [] := by kernel_rfl
noncomputable def qK := Tryz.f78.body.getD .skip
theorem QW : Ret C 78 a H R ↔ WP C 78 qK ⟨initRegs a, 0, H⟩ (finQ C Tryz.f78 H R) := Ret_fn rfl (by kernel_rfl) Tryz.func78 rfl
@[simp] theorem Qe : C.locs 78 = [] := by kernel_rfl
noncomputable def nC := Tryz.f91.body.getD .skip
theorem Qq : Ret C 91 a H R ↔ WP C 91 nC ⟨initRegs a, 0, H⟩ (finQ C Tryz.f91 H R) := Ret_fn rfl (by kernel_rfl) Tryz.func91 rfl
@[simp] theorem QO : C.locs 91 = [] := by kernel_rfl
noncomputable def jb := Tryz.f94.body.getD .skip
theorem IW : Ret C 94 a H R ↔ WP C 94 jb ⟨initRegs a, 0, H⟩ (finQ C Tryz.f94 H R) := Ret_fn rfl (by kernel_rfl) Tryz.func94 rfl
@[simp] theorem QA : C.locs 94 = [] := by kernel_rfl
noncomputable def tN := Tryz.f100.body.getD .skip
theorem Jf : Ret C 100 a H R ↔ WP C 100 tN ⟨initRegs a, 0, H⟩ (finQ C Tryz.f100 H R) := Ret_fn rfl (by kernel_rfl) Tryz.func100 rfl
@[simp] theorem Ny : C.locs 100 = [] := by kernel_rfl
noncomputable def iK := Tryz.f101.body.getD .skip
theorem FN : Ret C 101 a H R ↔ WP C 101 iK ⟨initRegs a, 0, H⟩ (finQ C Tryz.f101 H R) := Ret_fn rfl (by kernel_rfl) Tryz.func101 rfl
@[simp] theorem N7 : C.locs 101 = [1] := by kernel_rfl
noncomputable def jU := Tryz.f102.body.getD .skip
theorem IC : Ret C 102 a H R ↔ WP C 102 jU ⟨initRegs a, 0, H⟩ (finQ C Tryz.f102 H R) := Ret_fn rfl (by kernel_rfl) Tryz.func102 rfl
@[simp] theorem Ls : C.locs 102 = [3, 5, 9] := by kernel_rfl
noncomputable def uG := Tryz.f103.body.getD .skip
theorem J4 : Ret C 103 a H R ↔ WP C 103 uG ⟨initRegs a, 0, H⟩ (finQ C Tryz.f103 H R) := Ret_fn rfl (by kernel_rfl) Tryz.func103 rfl
@[simp] theorem Lp : C.locs 103 = [] := by kernel_rfl
noncomputable def vC := Tryz.f104.body.getD .skip
theorem Jp : Ret C 104 a H R ↔ WP C 104 vC ⟨initRegs a, 0, H⟩ (finQ C Tryz.f104 H R) := Ret_fn rfl (by kernel_rfl) Tryz.func104 rfl
@[simp] theorem Nb : C.locs 104 = [2] := by kernel_rfl
noncomputable def oD := Tryz.f110.body.getD .skip
theorem Ii : Ret C 110 a H R ↔ WP C 110 oD ⟨initRegs a, 0, H⟩ (finQ C Tryz.f110 H R) := Ret_fn rfl (by kernel_rfl) Tryz.func110 rfl
@[simp] theorem Pz : C.locs 110 = [4] := by kernel_rfl
noncomputable def jQ := Tryz.f111.body.getD .skip
theorem Ja : Ret C 111 a H R ↔ WP C 111 jQ ⟨initRegs a, 0, H⟩ (finQ C Tryz.f111 H R) := Ret_fn rfl (by kernel_rfl) Tryz.func111 rfl
@[simp] theorem Pv : C.locs 111 = [] := by kernel_rfl
noncomputable def oK := Tryz.f113.body.getD .skip
theorem G9 : Ret C 113 a H R ↔ WP C 113 oK ⟨initRegs a, 0, H⟩ (finQ C Tryz.f113 H R) := Ret_fn rfl (by kernel_rfl) Tryz.func113 rfl
@[simp] theorem LU : C.locs 113 = [] := by kernel_rfl
noncomputable def rC := Tryz.f114.body.getD .skip
theorem JC : Ret C 114 a H R ↔ WP C 114 rC ⟨initRegs a, 0, H⟩ (finQ C Tryz.f114 H R) := Ret_fn rfl (by kernel_rfl) Tryz.func114 rfl
@[simp] theorem OW : C.locs 114 = [2] := by kernel_rfl
noncomputable def jH := Tryz.f115.body.getD .skip
theorem IE : Ret C 115 a H R ↔ WP C 115 jH ⟨initRegs a, 0, H⟩ (finQ C Tryz.f115 H R) := Ret_fn rfl (by kernel_rfl) Tryz.func115 rfl
@[simp] theorem MR : C.locs 115 = [] := by kernel_rfl
noncomputable def sK := Tryz.f121.body.getD .skip
theorem JE : Ret C 121 a H R ↔ WP C 121 sK ⟨initRegs a, 0, H⟩ (finQ C Tryz.f121 H R) := Ret_fn rfl (by kernel_rfl) Tryz.func121 rfl
@[simp] theorem Pq : C.locs 121 = [] := by kernel_rfl
noncomputable def jR := Tryz.f124.body.getD .skip
theorem zO : Ret C 124 a H R ↔ WP C 124 jR ⟨initRegs a, 0, H⟩ (finQ C Tryz.f124 H R) := Ret_fn rfl (by kernel_rfl) Tryz.func124 rfl
@[simp] theorem PO : C.locs 124 = [2] := by kernel_rfl
noncomputable def kw := Tryz.f125.body.getD .skip
theorem xI : Ret C 125 a H R ↔ WP C 125 kw ⟨initRegs a, 0, H⟩ (finQ C Tryz.f125 H R) := Ret_fn rfl (by kernel_rfl) Tryz.func125 rfl
@[simp] theorem NL : C.locs 125 = [2] := by kernel_rfl
noncomputable def nP := Tryz.f126.body.getD .skip
theorem DZ : Ret C 126 a H R ↔ WP C 126 nP ⟨initRegs a, 0, H⟩ (finQ C Tryz.f126 H R) := Ret_fn rfl (by kernel_rfl) Tryz.func126 rfl
@[simp] theorem NR : C.locs 126 = [2] := by kernel_rfl
noncomputable def gu := Tryz.f127.body.getD .skip
theorem qF : Ret C 127 a H R ↔ WP C 127 gu ⟨initRegs a, 0, H⟩ (finQ C Tryz.f127 H R) := Ret_fn rfl (by kernel_rfl) Tryz.func127 rfl
@[simp] theorem LC : C.locs 127 = [2] := by kernel_rfl
noncomputable def jT := Tryz.f128.body.getD .skip
theorem xK : Ret C 128 a H R ↔ WP C 128 jT ⟨initRegs a, 0, H⟩ (finQ C Tryz.f128 H R) := Ret_fn rfl (by kernel_rfl) Tryz.func128 rfl
@[simp] theorem Ll : C.locs 128 = [2] := by kernel_rfl
noncomputable def rH := Tryz.f129.body.getD .skip
theorem IK : Ret C 129 a H R ↔ WP C 129 rH ⟨initRegs a, 0, H⟩ (finQ C Tryz.f129 H R) := Ret_fn rfl (by kernel_rfl) Tryz.func129 rfl
@[simp] theorem O5 : C.locs 129 = [] := by kernel_rfl
noncomputable def iE := Tryz.f130.body.getD .skip
theorem Jw : Ret C 130 a H R ↔ WP C 130 iE ⟨initRegs a, 0, H⟩ (finQ C Tryz.f130 H R) := Ret_fn rfl (by kernel_rfl) Tryz.func130 rfl
@[simp] theorem Oz : C.locs 130 = [] := by kernel_rfl
noncomputable def iU := Tryz.f131.body.getD .skip
theorem Jl : Ret C 131 a H R ↔ WP C 131 iU ⟨initRegs a, 0, H⟩ (finQ C Tryz.f131 H R) := Ret_fn rfl (by kernel_rfl) Tryz.func131 rfl
@[simp] theorem NF : C.locs 131 = [] := by kernel_rfl
noncomputable def rJ := Tryz.f132.body.getD .skip
theorem HY : Ret C 132 a H R ↔ WP C 132 rJ ⟨initRegs a, 0, H⟩ (finQ C Tryz.f132 H R) := Ret_fn rfl (by kernel_rfl) Tryz.func132 rfl
@[simp] theorem Na : C.locs 132 = [] := by kernel_rfl
noncomputable def uq := Tryz.f133.body.getD .skip
theorem IV : Ret C 133 a H R ↔ WP C 133 uq ⟨initRegs a, 0, H⟩ (finQ C Tryz.f133 H R) := Ret_fn rfl (by kernel_rfl) Tryz.func133 rfl
@[simp] theorem Pn : C.locs 133 = [] := by kernel_rfl
noncomputable def vP := Tryz.f134.body.getD .skip
theorem IL : Ret C 134 a H R ↔ WP C 134 vP ⟨initRegs a, 0, H⟩ (finQ C Tryz.f134 H R) := Ret_fn rfl (by kernel_rfl) Tryz.func134 rfl
@[simp] theorem O9 : C.locs 134 = [] := by kernel_rfl
noncomputable def uT := Tryz.f135.body.getD .skip
theorem F7 : Ret C 135 a H R ↔ WP C 135 uT ⟨initRegs a, 0, H⟩ (finQ C Tryz.f135 H R) := Ret_fn rfl (by kernel_rfl) Tryz.func135 rfl
@[simp] theorem MF : C.locs 135 = [] := by kernel_rfl
noncomputable def jI := Tryz.f136.body.getD .skip
theorem Ib : Ret C 136 a H R ↔ WP C 136 jI ⟨initRegs a, 0, H⟩ (finQ C Tryz.f136 H R) := Ret_fn rfl (by kernel_rfl) Tryz.func136 rfl
@[simp] theorem PI : C.locs 136 = [3, 4] := by kernel_rfl
noncomputable def dh := Tryz.f137.body.getD .skip
theorem H6 : Ret C 137 a H R ↔ WP C 137 dh ⟨initRegs a, 0, H⟩ (finQ C Tryz.f137 H R) := Ret_fn rfl (by kernel_rfl) Tryz.func137 rfl
@[simp] theorem MB : C.locs 137 = [2, 3, 4, 5] := by kernel_rfl
noncomputable def uk := Tryz.f138.body.getD .skip
theorem IJ : Ret C 138 a H R ↔ WP C 138 uk ⟨initRegs a, 0, H⟩ (finQ C Tryz.f138 H R) := Ret_fn rfl (by kernel_rfl) Tryz.func138 rfl
@[simp] theorem O6 : C.locs 138 = [1, 2, 3] := by kernel_rfl
noncomputable def sV := Tryz.f139.body.getD .skip
theorem Ky : Ret C 139 a H R ↔ WP C 139 sV ⟨initRegs a, 0, H⟩ (finQ C Tryz.f139 H R) := Ret_fn rfl (by kernel_rfl) Tryz.func139 rfl
@[simp] theorem NI : C.locs 139 = [1, 2, 3] := by kernel_rfl
noncomputable def sU := Tryz.f140.body.getD .skip
theorem II : Ret C 140 a H R ↔ WP C 140 sU ⟨initRegs a, 0, H⟩ (finQ C Tryz.f140 H R) := Ret_fn rfl (by kernel_rfl) Tryz.func140 rfl
@[simp] theorem LX : C.locs 140 = [1, 2, 3] := by kernel_rfl
noncomputable def tu := Tryz.f141.body.getD .skip
theorem Jz : Ret C 141 a H R ↔ WP C 141 tu ⟨initRegs a, 0, H⟩ (finQ C Tryz.f141 H R) := Ret_fn rfl (by kernel_rfl) Tryz.func141 rfl
@[simp] theorem MK : C.locs 141 = [1, 2, 3] := by kernel_rfl
noncomputable def sF := Tryz.f142.body.getD .skip
theorem Ik : Ret C 142 a H R ↔ WP C 142 sF ⟨initRegs a, 0, H⟩ (finQ C Tryz.f142 H R) := Ret_fn rfl (by kernel_rfl) Tryz.func142 rfl
@[simp] theorem PG : C.locs 142 = [1, 2, 3] := by kernel_rfl
noncomputable def jW := Tryz.f143.body.getD .skip
theorem Ht : Ret C 143 a H R ↔ WP C 143 jW ⟨initRegs a, 0, H⟩ (finQ C Tryz.f143 H R) := Ret_fn rfl (by kernel_rfl) Tryz.func143 rfl
@[simp] theorem Me : C.locs 143 = [] := by kernel_rfl
noncomputable def gy := Tryz.f144.body.getD .skip
theorem GZ : Ret C 144 a H R ↔ WP C 144 gy ⟨initRegs a, 0, H⟩ (finQ C Tryz.f144 H R) := Ret_fn rfl (by kernel_rfl) Tryz.func144 rfl
@[simp] theorem ML : C.locs 144 = [] := by kernel_rfl
noncomputable def gK := Tryz.f145.body.getD .skip
theorem I4 : Ret C 145 a H R ↔ WP C 145 gK ⟨initRegs a, 0, H⟩ (finQ C Tryz.f145 H R) := Ret_fn rfl (by kernel_rfl) Tryz.func145 rfl
@[simp] theorem OB : C.locs 145 = [] := by kernel_rfl
noncomputable def nD := Tryz.f146.body.getD .skip
theorem FZ : Ret C 146 a H R ↔ WP C 146 nD ⟨initRegs a, 0, H⟩ (finQ C Tryz.f146 H R) := Ret_fn rfl (by kernel_rfl) Tryz.func146 rfl
@[simp] theorem NC : C.locs 146 = [] := by kernel_rfl
noncomputable def rM := Tryz.f147.body.getD .skip
theorem JM : Ret C 147 a H R ↔ WP C 147 rM ⟨initRegs a, 0, H⟩ (finQ C Tryz.f147 H R) := Ret_fn rfl (by kernel_rfl) Tryz.func147 rfl
@[simp] theorem Oo : C.locs 147 = [] := by kernel_rfl
noncomputable def uM := Tryz.f148.body.getD .skip
theorem Kt : Ret C 148 a H R ↔ WP C 148 uM ⟨initRegs a, 0, H⟩ (finQ C Tryz.f148 H R) := Ret_fn rfl (by kernel_rfl) Tryz.func148 rfl
@[simp] theorem O1 : C.locs 148 = [5] := by kernel_rfl
noncomputable def uY := Tryz.f149.body.getD .skip
theorem Gw : Ret C 149 a H R ↔ WP C 149 uY ⟨initRegs a, 0, H⟩ (finQ C Tryz.f149 H R) := Ret_fn rfl (by kernel_rfl) Tryz.func149 rfl
@[simp] theorem Ou : C.locs 149 = [5] := by kernel_rfl
noncomputable def ug := Tryz.f150.body.getD .skip
theorem GM : Ret C 150 a H R ↔ WP C 150 ug ⟨initRegs a, 0, H⟩ (finQ C Tryz.f150 H R) := Ret_fn rfl (by kernel_rfl) Tryz.func150 rfl
@[simp] theorem OH : C.locs 150 = [5] := by kernel_rfl
noncomputable def jM := Tryz.f151.body.getD .skip
theorem JL : Ret C 151 a H R ↔ WP C 151 jM ⟨initRegs a, 0, H⟩ (finQ C Tryz.f151 H R) := Ret_fn rfl (by kernel_rfl) Tryz.func151 rfl
@[simp] theorem OT : C.locs 151 = [3] := by kernel_rfl
noncomputable def dm := Tryz.f152.body.getD .skip
theorem Hy : Ret C 152 a H R ↔ WP C 152 dm ⟨initRegs a, 0, H⟩ (finQ C Tryz.f152 H R) := Ret_fn rfl (by kernel_rfl) Tryz.func152 rfl
@[simp] theorem Nl : C.locs 152 = [2, 4] := by kernel_rfl
noncomputable def jY := Tryz.f153.body.getD .skip
theorem zy : Ret C 153 a H R ↔ WP C 153 jY ⟨initRegs a, 0, H⟩ (finQ C Tryz.f153 H R) := Ret_fn rfl (by kernel_rfl) Tryz.func153 rfl
@[simp] theorem Lr : C.locs 153 = [2, 3] := by kernel_rfl
noncomputable def gq := Tryz.f154.body.getD .skip
theorem pY : Ret C 154 a H R ↔ WP C 154 gq ⟨initRegs a, 0, H⟩ (finQ C Tryz.f154 H R) := Ret_fn rfl (by kernel_rfl) Tryz.func154 rfl
@[simp] theorem Lj : C.locs 154 = [2, 3] := by kernel_rfl
noncomputable def iG := Tryz.f155.body.getD .skip
theorem sW : Ret C 155 a H R ↔ WP C 155 iG ⟨initRegs a, 0, H⟩ (finQ C Tryz.f155 H R) := Ret_fn rfl (by kernel_rfl) Tryz.func155 rfl
@[simp] theorem LY : C.locs 155 = [2, 3] := by kernel_rfl
noncomputable def gI := Tryz.f156.body.getD .skip
theorem qj : Ret C 156 a H R ↔ WP C 156 gI ⟨initRegs a, 0, H⟩ (finQ C Tryz.f156 H R) := Ret_fn rfl (by kernel_rfl) Tryz.func156 rfl
@[simp] theorem Np : C.locs 156 = [2, 3] := by kernel_rfl
noncomputable def jZ := Tryz.f157.body.getD .skip
theorem yf : Ret C 157 a H R ↔ WP C 157 jZ ⟨initRegs a, 0, H⟩ (finQ C Tryz.f157 H R) := Ret_fn rfl (by kernel_rfl) Tryz.func157 rfl
@[simp] theorem Nj : C.locs 157 = [2, 3] := by kernel_rfl
noncomputable def vG := Tryz.f158.body.getD .skip
theorem JX : Ret C 158 a H R ↔ WP C 158 vG ⟨initRegs a, 0, H⟩ (finQ C Tryz.f158 H R) := Ret_fn rfl (by kernel_rfl) Tryz.func158 rfl
@[simp] theorem OM : C.locs 158 = [] := by kernel_rfl
noncomputable def rG := Tryz.f159.body.getD .skip
theorem IA : Ret C 159 a H R ↔ WP C 159 rG ⟨initRegs a, 0, H⟩ (finQ C Tryz.f159 H R) := Ret_fn rfl (by kernel_rfl) Tryz.func159 rfl
@[simp] theorem Nu : C.locs 159 = [] := by kernel_rfl
noncomputable def oz := Tryz.f179.body.getD .skip
theorem I8 : Ret C 179 a H R ↔ WP C 179 oz ⟨initRegs a, 0, H⟩ (finQ C Tryz.f179 H R) := Ret_fn rfl (by kernel_rfl) Tryz.func179 rfl
@[simp] theorem KH : C.locs 179 = [] := by kernel_rfl
noncomputable def bP := Tryz.f181.body.getD .skip
theorem Ih : Ret C 181 a H R ↔ WP C 181 bP ⟨initRegs a, 0, H⟩ (finQ C Tryz.f181 H R) := Ret_fn rfl (by kernel_rfl) Tryz.func181 rfl
@[simp] theorem MI : C.locs 181 = [1] := by kernel_rfl
noncomputable def rE := Tryz.f182.body.getD .skip
theorem F8 : Ret C 182 a H R ↔ WP C 182 rE ⟨initRegs a, 0, H⟩ (finQ C Tryz.f182 H R) := Ret_fn rfl (by kernel_rfl) Tryz.func182 rfl
@[simp] theorem Nz : C.locs 182 = [] := by kernel_rfl
noncomputable def jO := Tryz.f183.body.getD .skip
theorem KD : Ret C 183 a H R ↔ WP C 183 jO ⟨initRegs a, 0, H⟩ (finQ C Tryz.f183 H R) := Ret_fn rfl (by kernel_rfl) Tryz.func183 rfl
@[simp] theorem PK : C.locs 183 = [3, 4] := by kernel_rfl
noncomputable def kC := Tryz.f184.body.getD .skip
theorem Ho : Ret C 184 a H R ↔ WP C 184 kC ⟨initRegs a, 0, H⟩ (finQ C Tryz.f184 H R) := Ret_fn rfl (by kernel_rfl) Tryz.func184 rfl
@[simp] theorem PH : C.locs 184 = [3] := by kernel_rfl
noncomputable def uU := Tryz.f185.body.getD .skip
theorem GX : Ret C 185 a H R ↔ WP C 185 uU ⟨initRegs a, 0, H⟩ (finQ C Tryz.f185 H R) := Ret_fn rfl (by kernel_rfl) Tryz.func185 rfl
@[simp] theorem MV : C.locs 185 = [2] := by kernel_rfl
noncomputable def bf := Tryz.f186.body.getD .skip
theorem DT : C.fids 186 = true := by kernel_rfl
theorem Dt : Tryz.f186.body = some bf := rfl
theorem Du : C.prim 186 = none := rfl
theorem Di : C.funcs 186 = some Tryz.f186 := Tryz.func186
theorem yx : Ret C 186 a H R ↔ WP C 186 bf ⟨initRegs a, 0, H⟩ (finQ C Tryz.f186 H R) := Ret_fn rfl (by kernel_rfl) Tryz.func186 rfl
@[simp] theorem BH : C.locs 186 = [] := by kernel_rfl
noncomputable def rY := Tryz.f187.body.getD .skip
theorem GL : Ret C 187 a H R ↔ WP C 187 rY ⟨initRegs a, 0, H⟩ (finQ C Tryz.f187 H R) := Ret_fn rfl (by kernel_rfl) Tryz.func187 rfl
@[simp] theorem Lt : C.locs 187 = [] := by kernel_rfl
noncomputable def uj := Tryz.f192.body.getD .skip
theorem IG : Ret C 192 a H R ↔ WP C 192 uj ⟨initRegs a, 0, H⟩ (finQ C Tryz.f192 H R) := Ret_fn rfl (by kernel_rfl) Tryz.func192 rfl
@[simp] theorem Pg : C.locs 192 = [] := by kernel_rfl
noncomputable def uO := Tryz.f194.body.getD .skip
theorem JZ : Ret C 194 a H R ↔ WP C 194 uO ⟨initRegs a, 0, H⟩ (finQ C Tryz.f194 H R) := Ret_fn rfl (by kernel_rfl) Tryz.func194 rfl
@[simp] theorem OC : C.locs 194 = [1] := by kernel_rfl
noncomputable def vz := Tryz.f195.body.getD .skip
theorem Jo : Ret C 195 a H R ↔ WP C 195 vz ⟨initRegs a, 0, H⟩ (finQ C Tryz.f195 H R) := Ret_fn rfl (by kernel_rfl) Tryz.func195 rfl
@[simp] theorem KQ : C.locs 195 = [] := by kernel_rfl
noncomputable def iP := Tryz.f196.body.getD .skip
theorem FW : Ret C 196 a H R ↔ WP C 196 iP ⟨initRegs a, 0, H⟩ (finQ C Tryz.f196 H R) := Ret_fn rfl (by kernel_rfl) Tryz.func196 rfl
@[simp] theorem Ld : C.locs 196 = [1, 4] := by kernel_rfl
noncomputable def jD := Tryz.f197.body.getD .skip
theorem FV : Ret C 197 a H R ↔ WP C 197 jD ⟨initRegs a, 0, H⟩ (finQ C Tryz.f197 H R) := Ret_fn rfl (by kernel_rfl) Tryz.func197 rfl
@[simp] theorem OD : C.locs 197 = [5, 8] := by kernel_rfl
noncomputable def bg := Tryz.f199.body.getD .skip
theorem Dw : C.fids 199 = true := by kernel_rfl
theorem Dk : Tryz.f199.body = some bg := rfl
theorem CZ : C.prim 199 = none := rfl
theorem Dy : C.funcs 199 = some Tryz.f199 := Tryz.func199
theorem yR : Ret C 199 a H R ↔ WP C 199 bg ⟨initRegs a, 0, H⟩ (finQ C Tryz.f199 H R) := Ret_fn rfl (by kernel_rfl) Tryz.func199 rfl
@[simp] theorem AC : C.locs 199 = [] := by kernel_rfl
noncomputable def ru := Tryz.f200.body.getD .skip
theorem GV : Ret C 200 a H R ↔ WP C 200 ru ⟨initRegs a, 0, H⟩ (finQ C Tryz.f200 H R) := Ret_fn rfl (by kernel_rfl) Tryz.func200 rfl
@[simp] theorem O4 : C.locs 200 = [] := by kernel_rfl
noncomputable def sS := Tryz.f201.body.getD .skip
theorem JG : Ret C 201 a H R ↔ WP C 201 sS ⟨initRegs a, 0, H⟩ (finQ C Tryz.f201 H R) := Ret_fn rfl (by kernel_rfl) Tryz.func201 rfl
@[simp] theorem PP : C.locs 201 = [] := by kernel_rfl
noncomputable def vJ := Tryz.f203.body.getD .skip
theorem Jk : Ret C 203 a H R ↔ WP C 203 vJ ⟨initRegs a, 0, H⟩ (finQ C Tryz.f203 H R) := Ret_fn rfl (by kernel_rfl) Tryz.func203 rfl
@[simp] theorem N9 : C.locs 203 = [] := by kernel_rfl
@[simp] theorem O8 : C.locs 207 = [] := by kernel_rfl
@[simp] theorem NG : C.locs 208 = [] := by kernel_rfl
noncomputable def uh := Tryz.f209.body.getD .skip
theorem IB : Ret C 209 a H R ↔ WP C 209 uh ⟨initRegs a, 0, H⟩ (finQ C Tryz.f209 H R) := Ret_fn rfl (by kernel_rfl) Tryz.func209 rfl
@[simp] theorem Ns : C.locs 209 = [2] := by kernel_rfl
noncomputable def rX := Tryz.f210.body.getD .skip
theorem JW : Ret C 210 a H R ↔ WP C 210 rX ⟨initRegs a, 0, H⟩ (finQ C Tryz.f210 H R) := Ret_fn rfl (by kernel_rfl) Tryz.func210 rfl
@[simp] theorem Md : C.locs 210 = [] := by kernel_rfl
noncomputable def sJ := Tryz.f211.body.getD .skip
theorem JI : Ret C 211 a H R ↔ WP C 211 sJ ⟨initRegs a, 0, H⟩ (finQ C Tryz.f211 H R) := Ret_fn rfl (by kernel_rfl) Tryz.func211 rfl
@[simp] theorem Nq : C.locs 211 = [] := by kernel_rfl
@[simp] theorem OO : C.locs 212 = [] := by kernel_rfl
@[simp] theorem OJ : C.locs 213 = [] := by kernel_rfl
noncomputable def oJ := Tryz.f214.body.getD .skip
theorem Gt : Ret C 214 a H R ↔ WP C 214 oJ ⟨initRegs a, 0, H⟩ (finQ C Tryz.f214 H R) := Ret_fn rfl (by kernel_rfl) Tryz.func214 rfl
@[simp] theorem Ph : C.locs 214 = [] := by kernel_rfl
noncomputable def uZ := Tryz.f216.body.getD .skip
theorem Fh : Ret C 216 a H R ↔ WP C 216 uZ ⟨initRegs a, 0, H⟩ (finQ C Tryz.f216 H R) := Ret_fn rfl (by kernel_rfl) Tryz.func216 rfl
@[simp] theorem MZ : C.locs 216 = [] := by kernel_rfl
noncomputable def aU := Tryz.f217.body.getD .skip
theorem DY : C.fids 217 = true := by kernel_rfl
theorem Dq : Tryz.f217.body = some aU := rfl
theorem DJ : C.prim 217 = none := rfl
theorem Df : C.funcs 217 = some Tryz.f217 := Tryz.func217
theorem zC : Ret C 217 a H R ↔ WP C 217 aU ⟨initRegs a, 0, H⟩ (finQ C Tryz.f217 H R) := Ret_fn rfl (by kernel_rfl) Tryz.func217 rfl
@[simp] theorem AO : C.locs 217 = [] := by kernel_rfl
noncomputable def gz := Tryz.f218.body.getD .skip
theorem D6 : Ret C 218 a H R ↔ WP C 218 gz ⟨initRegs a, 0, H⟩ (finQ C Tryz.f218 H R) := Ret_fn rfl (by kernel_rfl) Tryz.func218 rfl
@[simp] theorem NP : C.locs 218 = [] := by kernel_rfl
noncomputable def gG := Tryz.f219.body.getD .skip
theorem Dj : Ret C 219 a H R ↔ WP C 219 gG ⟨initRegs a, 0, H⟩ (finQ C Tryz.f219 H R) := Ret_fn rfl (by kernel_rfl) Tryz.func219 rfl
@[simp] theorem OV : C.locs 219 = [] := by kernel_rfl
noncomputable def iV := Tryz.f220.body.getD .skip
theorem Gf : Ret C 220 a H R ↔ WP C 220 iV ⟨initRegs a, 0, H⟩ (finQ C Tryz.f220 H R) := Ret_fn rfl (by kernel_rfl) Tryz.func220 rfl
@[simp] theorem LW : C.locs 220 = [1] := by kernel_rfl
noncomputable def vM := Tryz.f221.body.getD .skip
theorem FT : Ret C 221 a H R ↔ WP C 221 vM ⟨initRegs a, 0, H⟩ (finQ C Tryz.f221 H R) := Ret_fn rfl (by kernel_rfl) Tryz.func221 rfl
@[simp] theorem LK : C.locs 221 = [] := by kernel_rfl
noncomputable def jX := Tryz.f222.body.getD .skip
theorem I5 : Ret C 222 a H R ↔ WP C 222 jX ⟨initRegs a, 0, H⟩ (finQ C Tryz.f222 H R) := Ret_fn rfl (by kernel_rfl) Tryz.func222 rfl
@[simp] theorem NQ : C.locs 222 = [6, 10] := by kernel_rfl
noncomputable def nK := Tryz.f223.body.getD .skip
theorem JK : Ret C 223 a H R ↔ WP C 223 nK ⟨initRegs a, 0, H⟩ (finQ C Tryz.f223 H R) := Ret_fn rfl (by kernel_rfl) Tryz.func223 rfl
@[simp] theorem Og : C.locs 223 = [] := by kernel_rfl
noncomputable def uD := Tryz.f224.body.getD .skip
theorem Gg : Ret C 224 a H R ↔ WP C 224 uD ⟨initRegs a, 0, H⟩ (finQ C Tryz.f224 H R) := Ret_fn rfl (by kernel_rfl) Tryz.func224 rfl
@[simp] theorem Lm : C.locs 224 = [] := by kernel_rfl
noncomputable def um := Tryz.f225.body.getD .skip
theorem Hw : Ret C 225 a H R ↔ WP C 225 um ⟨initRegs a, 0, H⟩ (finQ C Tryz.f225 H R) := Ret_fn rfl (by kernel_rfl) Tryz.func225 rfl
@[simp] theorem KG : C.locs 225 = [3] := by kernel_rfl
noncomputable def jA := Tryz.f226.body.getD .skip
theorem Gm : Ret C 226 a H R ↔ WP C 226 jA ⟨initRegs a, 0, H⟩ (finQ C Tryz.f226 H R) := Ret_fn rfl (by kernel_rfl) Tryz.func226 rfl
@[simp] theorem Ot : C.locs 226 = [] := by kernel_rfl
noncomputable def uo := Tryz.f227.body.getD .skip
theorem J6 : Ret C 227 a H R ↔ WP C 227 uo ⟨initRegs a, 0, H⟩ (finQ C Tryz.f227 H R) := Ret_fn rfl (by kernel_rfl) Tryz.func227 rfl
@[simp] theorem Py : C.locs 227 = [] := by kernel_rfl
noncomputable def rZ := Tryz.f228.body.getD .skip
theorem GK : Ret C 228 a H R ↔ WP C 228 rZ ⟨initRegs a, 0, H⟩ (finQ C Tryz.f228 H R) := Ret_fn rfl (by kernel_rfl) Tryz.func228 rfl
@[simp] theorem LH : C.locs 228 = [] := by kernel_rfl
noncomputable def rF := Tryz.f229.body.getD .skip
theorem Jc : Ret C 229 a H R ↔ WP C 229 rF ⟨initRegs a, 0, H⟩ (finQ C Tryz.f229 H R) := Ret_fn rfl (by kernel_rfl) Tryz.func229 rfl
@[simp] theorem Nh : C.locs 229 = [1] := by kernel_rfl
noncomputable def jJ := Tryz.f230.body.getD .skip
theorem J9 : Ret C 230 a H R ↔ WP C 230 jJ ⟨initRegs a, 0, H⟩ (finQ C Tryz.f230 H R) := Ret_fn rfl (by kernel_rfl) Tryz.func230 rfl
@[simp] theorem Lu : C.locs 230 = [1] := by kernel_rfl
noncomputable def ae := Tryz.f231.body.getD .skip
theorem mJ : Ret C 231 a H R ↔ WP C 231 ae ⟨initRegs a, 0, H⟩ (finQ C Tryz.f231 H R) := Ret_fn rfl (by kernel_rfl) Tryz.func231 rfl
@[simp] theorem NV : C.locs 231 = [4] := by kernel_rfl
noncomputable def iT := Tryz.f232.body.getD .skip
theorem Dc : Ret C 232 a H R ↔ WP C 232 iT ⟨initRegs a, 0, H⟩ (finQ C Tryz.f232 H R) := Ret_fn rfl (by kernel_rfl) Tryz.func232 rfl
@[simp] theorem Lh : C.locs 232 = [] := by kernel_rfl
noncomputable def sN := Tryz.f233.body.getD .skip
theorem Jb : Ret C 233 a H R ↔ WP C 233 sN ⟨initRegs a, 0, H⟩ (finQ C Tryz.f233 H R) := Ret_fn rfl (by kernel_rfl) Tryz.func233 rfl
@[simp] theorem Om : C.locs 233 = [] := by kernel_rfl
noncomputable def oM := Tryz.f234.body.getD .skip
theorem Dn : Ret C 234 a H R ↔ WP C 234 oM ⟨initRegs a, 0, H⟩ (finQ C Tryz.f234 H R) := Ret_fn rfl (by kernel_rfl) Tryz.func234 rfl
@[simp] theorem MG : C.locs 234 = [] := by kernel_rfl
noncomputable def jG := Tryz.f235.body.getD .skip
theorem Jq : Ret C 235 a H R ↔ WP C 235 jG ⟨initRegs a, 0, H⟩ (finQ C Tryz.f235 H R) := Ret_fn rfl (by kernel_rfl) Tryz.func235 rfl
@[simp] theorem MS : C.locs 235 = [] := by kernel_rfl
noncomputable def jS := Tryz.f236.body.getD .skip
theorem GN : Ret C 236 a H R ↔ WP C 236 jS ⟨initRegs a, 0, H⟩ (finQ C Tryz.f236 H R) := Ret_fn rfl (by kernel_rfl) Tryz.func236 rfl
@[simp] theorem Pm : C.locs 236 = [] := by kernel_rfl
noncomputable def mX := Tryz.f237.body.getD .skip
theorem FK : Ret C 237 a H R ↔ WP C 237 mX ⟨initRegs a, 0, H⟩ (finQ C Tryz.f237 H R) := Ret_fn rfl (by kernel_rfl) Tryz.func237 rfl
@[simp] theorem MC : C.locs 237 = [8] := by kernel_rfl
noncomputable def rP := Tryz.f238.body.getD .skip
theorem Gq : Ret C 238 a H R ↔ WP C 238 rP ⟨initRegs a, 0, H⟩ (finQ C Tryz.f238 H R) := Ret_fn rfl (by kernel_rfl) Tryz.func238 rfl
@[simp] theorem O7 : C.locs 238 = [] := by kernel_rfl
noncomputable def vK := Tryz.f239.body.getD .skip
theorem Hl : Ret C 239 a H R ↔ WP C 239 vK ⟨initRegs a, 0, H⟩ (finQ C Tryz.f239 H R) := Ret_fn rfl (by kernel_rfl) Tryz.func239 rfl
@[simp] theorem KW : C.locs 239 = [5] := by kernel_rfl
noncomputable def jL := Tryz.f240.body.getD .skip
theorem Jd : Ret C 240 a H R ↔ WP C 240 jL ⟨initRegs a, 0, H⟩ (finQ C Tryz.f240 H R) := Ret_fn rfl (by kernel_rfl) Tryz.func240 rfl
@[simp] theorem Nr : C.locs 240 = [] := by kernel_rfl
noncomputable def tV := Tryz.f241.body.getD .skip
theorem JP : Ret C 241 a H R ↔ WP C 241 tV ⟨initRegs a, 0, H⟩ (finQ C Tryz.f241 H R) := Ret_fn rfl (by kernel_rfl) Tryz.func241 rfl
@[simp] theorem MN : C.locs 241 = [] := by kernel_rfl
noncomputable def jy := Tryz.f248.body.getD .skip
theorem Hq : Ret C 248 a H R ↔ WP C 248 jy ⟨initRegs a, 0, H⟩ (finQ C Tryz.f248 H R) := Ret_fn rfl (by kernel_rfl) Tryz.func248 rfl
@[simp] theorem NM : C.locs 248 = [] := by kernel_rfl
noncomputable def uN := Tryz.f259.body.getD .skip
theorem Jy : Ret C 259 a H R ↔ WP C 259 uN ⟨initRegs a, 0, H⟩ (finQ C Tryz.f259 H R) := Ret_fn rfl (by kernel_rfl) Tryz.func259 rfl
@[simp] theorem KI : C.locs 259 = [] := by kernel_rfl
noncomputable def mW := Tryz.f260.body.getD .skip
theorem Gj : Ret C 260 a H R ↔ WP C 260 mW ⟨initRegs a, 0, H⟩ (finQ C Tryz.f260 H R) := Ret_fn rfl (by kernel_rfl) Tryz.func260 rfl
@[simp] theorem Nv : C.locs 260 = [2] := by kernel_rfl
noncomputable def tZ := Tryz.f261.body.getD .skip
theorem FI : Ret C 261 a H R ↔ WP C 261 tZ ⟨initRegs a, 0, H⟩ (finQ C Tryz.f261 H R) := Ret_fn rfl (by kernel_rfl) Tryz.func261 rfl
@[simp] theorem OZ : C.locs 261 = [] := by kernel_rfl
noncomputable def ui := Tryz.f262.body.getD .skip
theorem Je : Ret C 262 a H R ↔ WP C 262 ui ⟨initRegs a, 0, H⟩ (finQ C Tryz.f262 H R) := Ret_fn rfl (by kernel_rfl) Tryz.func262 rfl
@[simp] theorem Nw : C.locs 262 = [] := by kernel_rfl
noncomputable def dP := Tryz.f263.body.getD .skip
theorem Dp : C.fids 263 = true := by kernel_rfl
theorem CU : Tryz.f263.body = some dP := rfl
theorem Ea : C.prim 263 = none := rfl
theorem Eh : C.funcs 263 = some Tryz.f263 := Tryz.func263
theorem zo : Ret C 263 a H R ↔ WP C 263 dP ⟨initRegs a, 0, H⟩ (finQ C Tryz.f263 H R) := Ret_fn rfl (by kernel_rfl) Tryz.func263 rfl
@[simp] theorem Aj : C.locs 263 = [] := by kernel_rfl
noncomputable def ng := Tryz.f264.body.getD .skip
theorem Kw : Ret C 264 a H R ↔ WP C 264 ng ⟨initRegs a, 0, H⟩ (finQ C Tryz.f264 H R) := Ret_fn rfl (by kernel_rfl) Tryz.func264 rfl
@[simp] theorem MM : C.locs 264 = [] := by kernel_rfl
noncomputable def uu := Tryz.f265.body.getD .skip
theorem Ie : Ret C 265 a H R ↔ WP C 265 uu ⟨initRegs a, 0, H⟩ (finQ C Tryz.f265 H R) := Ret_fn rfl (by kernel_rfl) Tryz.func265 rfl
@[simp] theorem KN : C.locs 265 = [] := by kernel_rfl
noncomputable def jw := Tryz.f266.body.getD .skip
theorem J7 : Ret C 266 a H R ↔ WP C 266 jw ⟨initRegs a, 0, H⟩ (finQ C Tryz.f266 H R) := Ret_fn rfl (by kernel_rfl) Tryz.func266 rfl
@[simp] theorem Pj : C.locs 266 = [1] := by kernel_rfl
noncomputable def nz := Tryz.f267.body.getD .skip
theorem FO : Ret C 267 a H R ↔ WP C 267 nz ⟨initRegs a, 0, H⟩ (finQ C Tryz.f267 H R) := Ret_fn rfl (by kernel_rfl) Tryz.func267 rfl
@[simp] theorem KT : C.locs 267 = [4] := by kernel_rfl
noncomputable def mZ := Tryz.f268.body.getD .skip
theorem Jh : Ret C 268 a H R ↔ WP C 268 mZ ⟨initRegs a, 0, H⟩ (finQ C Tryz.f268 H R) := Ret_fn rfl (by kernel_rfl) Tryz.func268 rfl
@[simp] theorem La : C.locs 268 = [2] := by kernel_rfl
noncomputable def oC := Tryz.f269.body.getD .skip
theorem Gy : Ret C 269 a H R ↔ WP C 269 oC ⟨initRegs a, 0, H⟩ (finQ C Tryz.f269 H R) := Ret_fn rfl (by kernel_rfl) Tryz.func269 rfl
@[simp] theorem MQ : C.locs 269 = [] := by kernel_rfl
noncomputable def dV := Tryz.f271.body.getD .skip
theorem Dv : C.fids 271 = true := by kernel_rfl
theorem DL : Tryz.f271.body = some dV := rfl
theorem CG : C.prim 271 = none := rfl
theorem Ei : C.funcs 271 = some Tryz.f271 := Tryz.func271
theorem zn : Ret C 271 a H R ↔ WP C 271 dV ⟨initRegs a, 0, H⟩ (finQ C Tryz.f271 H R) := Ret_fn rfl (by kernel_rfl) Tryz.func271 rfl
@[simp] theorem Bh : C.locs 271 = [] := by kernel_rfl
noncomputable def eY := Tryz.f272.body.getD .skip
theorem CW : C.fids 272 = true := by kernel_rfl
theorem Dh : Tryz.f272.body = some eY := rfl
theorem CP : C.prim 272 = none := rfl
theorem CY : C.funcs 272 = some Tryz.f272 := Tryz.func272
theorem Ac : Ret C 272 a H R ↔ WP C 272 eY ⟨initRegs a, 0, H⟩ (finQ C Tryz.f272 H R) := Ret_fn rfl (by kernel_rfl) Tryz.func272 rfl
@[simp] theorem CB : C.locs 272 = [] := by kernel_rfl
noncomputable def tY := Tryz.f273.body.getD .skip
theorem GY : Ret C 273 a H R ↔ WP C 273 tY ⟨initRegs a, 0, H⟩ (finQ C Tryz.f273 H R) := Ret_fn rfl (by kernel_rfl) Tryz.func273 rfl
@[simp] theorem PE : C.locs 273 = [] := by kernel_rfl
noncomputable def rO := Tryz.f274.body.getD .skip
theorem Ip : Ret C 274 a H R ↔ WP C 274 rO ⟨initRegs a, 0, H⟩ (finQ C Tryz.f274 H R) := Ret_fn rfl (by kernel_rfl) Tryz.func274 rfl
@[simp] theorem MO : C.locs 274 = [2] := by kernel_rfl
noncomputable def kD := Tryz.f275.body.getD .skip
theorem JS : Ret C 275 a H R ↔ WP C 275 kD ⟨initRegs a, 0, H⟩ (finQ C Tryz.f275 H R) := Ret_fn rfl (by kernel_rfl) Tryz.func275 rfl
@[simp] theorem LZ : C.locs 275 = [] := by kernel_rfl
noncomputable def rQ := Tryz.f278.body.getD .skip
theorem Iy : Ret C 278 a H R ↔ WP C 278 rQ ⟨initRegs a, 0, H⟩ (finQ C Tryz.f278 H R) := Ret_fn rfl (by kernel_rfl) Tryz.func278 rfl
@[simp] theorem NH : C.locs 278 = [] := by kernel_rfl
@[simp] theorem Ov : C.locs 279 = [] := by kernel_rfl
@[simp] theorem MJ : C.locs 280 = [] := by kernel_rfl
@[simp] theorem OQ : C.locs 281 = [] := by kernel_rfl
noncomputable def jK := Tryz.f282.body.getD .skip
theorem xq : Ret C 282 a H R ↔ WP C 282 jK ⟨initRegs a, 0, H⟩ (finQ C Tryz.f282 H R) := Ret_fn rfl (by kernel_rfl) Tryz.func282 rfl
@[simp] theorem KP : C.locs 282 = [2] := by kernel_rfl
noncomputable def aj := Tryz.f283.body.getD .skip
theorem Hz : Ret C 283 a H R ↔ WP C 283 aj ⟨initRegs a, 0, H⟩ (finQ C Tryz.f283 H R) := Ret_fn rfl (by kernel_rfl) Tryz.func283 rfl
@[simp] theorem Pi : C.locs 283 = [1] := by kernel_rfl
noncomputable def aN := Tryz.f284.body.getD .skip
theorem Kr : Ret C 284 a H R ↔ WP C 284 aN ⟨initRegs a, 0, H⟩ (finQ C Tryz.f284 H R) := Ret_fn rfl (by kernel_rfl) Tryz.func284 rfl
@[simp] theorem Oi : C.locs 284 = [1] := by kernel_rfl
noncomputable def bM := Tryz.f285.body.getD .skip
theorem I7 : Ret C 285 a H R ↔ WP C 285 bM ⟨initRegs a, 0, H⟩ (finQ C Tryz.f285 H R) := Ret_fn rfl (by kernel_rfl) Tryz.func285 rfl
@[simp] theorem Oh : C.locs 285 = [] := by kernel_rfl
noncomputable def uf := Tryz.f286.body.getD .skip
theorem Fg : Ret C 286 a H R ↔ WP C 286 uf ⟨initRegs a, 0, H⟩ (finQ C Tryz.f286 H R) := Ret_fn rfl (by kernel_rfl) Tryz.func286 rfl
@[simp] theorem OX : C.locs 286 = [] := by kernel_rfl
noncomputable def uw := Tryz.f287.body.getD .skip
theorem Gl : Ret C 287 a H R ↔ WP C 287 uw ⟨initRegs a, 0, H⟩ (finQ C Tryz.f287 H R) := Ret_fn rfl (by kernel_rfl) Tryz.func287 rfl
@[simp] theorem NT : C.locs 287 = [2, 3] := by kernel_rfl
noncomputable def jF := Tryz.f288.body.getD .skip
theorem FP : Ret C 288 a H R ↔ WP C 288 jF ⟨initRegs a, 0, H⟩ (finQ C Tryz.f288 H R) := Ret_fn rfl (by kernel_rfl) Tryz.func288 rfl
@[simp] theorem Po : C.locs 288 = [] := by kernel_rfl
noncomputable def uB := Tryz.f289.body.getD .skip
theorem JF : Ret C 289 a H R ↔ WP C 289 uB ⟨initRegs a, 0, H⟩ (finQ C Tryz.f289 H R) := Ret_fn rfl (by kernel_rfl) Tryz.func289 rfl
@[simp] theorem NZ : C.locs 289 = [] := by kernel_rfl
noncomputable def bD := Tryz.f290.body.getD .skip
theorem Gu : Ret C 290 a H R ↔ WP C 290 bD ⟨initRegs a, 0, H⟩ (finQ C Tryz.f290 H R) := Ret_fn rfl (by kernel_rfl) Tryz.func290 rfl
@[simp] theorem LG : C.locs 290 = [3] := by kernel_rfl
noncomputable def sQ := Tryz.f291.body.getD .skip
theorem Hm : Ret C 291 a H R ↔ WP C 291 sQ ⟨initRegs a, 0, H⟩ (finQ C Tryz.f291 H R) := Ret_fn rfl (by kernel_rfl) Tryz.func291 rfl
@[simp] theorem PR : C.locs 291 = [1, 2, 3] := by kernel_rfl
noncomputable def tH := Tryz.f292.body.getD .skip
theorem Gv : Ret C 292 a H R ↔ WP C 292 tH ⟨initRegs a, 0, H⟩ (finQ C Tryz.f292 H R) := Ret_fn rfl (by kernel_rfl) Tryz.func292 rfl
@[simp] theorem NJ : C.locs 292 = [] := by kernel_rfl
noncomputable def aS := Tryz.f293.body.getD .skip
theorem DV : C.fids 293 = true := by kernel_rfl
theorem Dx : Tryz.f293.body = some aS := rfl
theorem D5 : C.prim 293 = none := rfl
theorem D8 : C.funcs 293 = some Tryz.f293 := Tryz.func293
theorem xh : Ret C 293 a H R ↔ WP C 293 aS ⟨initRegs a, 0, H⟩ (finQ C Tryz.f293 H R) := Ret_fn rfl (by kernel_rfl) Tryz.func293 rfl
@[simp] theorem Ap : C.locs 293 = [] := by kernel_rfl
noncomputable def aO := Tryz.f294.body.getD .skip
theorem Fv : Ret C 294 a H R ↔ WP C 294 aO ⟨initRegs a, 0, H⟩ (finQ C Tryz.f294 H R) := Ret_fn rfl (by kernel_rfl) Tryz.func294 rfl
@[simp] theorem Mc : C.locs 294 = [1] := by kernel_rfl
noncomputable def bH := Tryz.f295.body.getD .skip
theorem FU : Ret C 295 a H R ↔ WP C 295 bH ⟨initRegs a, 0, H⟩ (finQ C Tryz.f295 H R) := Ret_fn rfl (by kernel_rfl) Tryz.func295 rfl
@[simp] theorem O3 : C.locs 295 = [] := by kernel_rfl
noncomputable def iL := Tryz.f297.body.getD .skip
theorem yL : Ret C 297 a H R ↔ WP C 297 iL ⟨initRegs a, 0, H⟩ (finQ C Tryz.f297 H R) := Ret_fn rfl (by kernel_rfl) Tryz.func297 rfl
@[simp] theorem NW : C.locs 297 = [] := by kernel_rfl
noncomputable def oh := Tryz.f298.body.getD .skip
theorem Ko : Ret C 298 a H R ↔ WP C 298 oh ⟨initRegs a, 0, H⟩ (finQ C Tryz.f298 H R) := Ret_fn rfl (by kernel_rfl) Tryz.func298 rfl
@[simp] theorem Px : C.locs 298 = [] := by kernel_rfl
noncomputable def ny := Tryz.f299.body.getD .skip
theorem H5 : Ret C 299 a H R ↔ WP C 299 ny ⟨initRegs a, 0, H⟩ (finQ C Tryz.f299 H R) := Ret_fn rfl (by kernel_rfl) Tryz.func299 rfl
@[simp] theorem LJ : C.locs 299 = [] := by kernel_rfl
noncomputable def kF := Tryz.f300.body.getD .skip
theorem Kq : Ret C 300 a H R ↔ WP C 300 kF ⟨initRegs a, 0, H⟩ (finQ C Tryz.f300 H R) := Ret_fn rfl (by kernel_rfl) Tryz.func300 rfl
@[simp] theorem NS : C.locs 300 = [] := by kernel_rfl
noncomputable def nJ := Tryz.f301.body.getD .skip
theorem GI : Ret C 301 a H R ↔ WP C 301 nJ ⟨initRegs a, 0, H⟩ (finQ C Tryz.f301 H R) := Ret_fn rfl (by kernel_rfl) Tryz.func301 rfl
@[simp] theorem LM : C.locs 301 = [] := by kernel_rfl
noncomputable def uK := Tryz.f302.body.getD .skip
theorem Jm : Ret C 302 a H R ↔ WP C 302 uK ⟨initRegs a, 0, H⟩ (finQ C Tryz.f302 H R) := Ret_fn rfl (by kernel_rfl) Tryz.func302 rfl
@[simp] theorem PD : C.locs 302 = [7] := by kernel_rfl
noncomputable def dC := Tryz.f303.body.getD .skip
theorem JH : Ret C 303 a H R ↔ WP C 303 dC ⟨initRegs a, 0, H⟩ (finQ C Tryz.f303 H R) := Ret_fn rfl (by kernel_rfl) Tryz.func303 rfl
@[simp] theorem OU : C.locs 303 = [] := by kernel_rfl
noncomputable def jP := Tryz.f304.body.getD .skip
theorem yj : Ret C 304 a H R ↔ WP C 304 jP ⟨initRegs a, 0, H⟩ (finQ C Tryz.f304 H R) := Ret_fn rfl (by kernel_rfl) Tryz.func304 rfl
@[simp] theorem KO : C.locs 304 = [2, 3] := by kernel_rfl
noncomputable def nG := Tryz.f306.body.getD .skip
theorem Iu : Ret C 306 a H R ↔ WP C 306 nG ⟨initRegs a, 0, H⟩ (finQ C Tryz.f306 H R) := Ret_fn rfl (by kernel_rfl) Tryz.func306 rfl
@[simp] theorem OL : C.locs 306 = [4, 7] := by kernel_rfl
noncomputable def rq := Tryz.f308.body.getD .skip
theorem Fp : Ret C 308 a H R ↔ WP C 308 rq ⟨initRegs a, 0, H⟩ (finQ C Tryz.f308 H R) := Ret_fn rfl (by kernel_rfl) Tryz.func308 rfl
@[simp] theorem MX : C.locs 308 = [] := by kernel_rfl
noncomputable def uX := Tryz.f309.body.getD .skip
theorem IM : Ret C 309 a H R ↔ WP C 309 uX ⟨initRegs a, 0, H⟩ (finQ C Tryz.f309 H R) := Ret_fn rfl (by kernel_rfl) Tryz.func309 rfl
@[simp] theorem LQ : C.locs 309 = [] := by kernel_rfl
noncomputable def dQ := Tryz.f310.body.getD .skip
theorem DK : C.fids 310 = true := by kernel_rfl
theorem Ef : Tryz.f310.body = some dQ := rfl
theorem DD : C.prim 310 = none := rfl
theorem Ee : C.funcs 310 = some Tryz.f310 := Tryz.func310
theorem yS : Ret C 310 a H R ↔ WP C 310 dQ ⟨initRegs a, 0, H⟩ (finQ C Tryz.f310 H R) := Ret_fn rfl (by kernel_rfl) Tryz.func310 rfl
@[simp] theorem Ah : C.locs 310 = [] := by kernel_rfl
noncomputable def iR := Tryz.f311.body.getD .skip
theorem xY : Ret C 311 a H R ↔ WP C 311 iR ⟨initRegs a, 0, H⟩ (finQ C Tryz.f311 H R) := Ret_fn rfl (by kernel_rfl) Tryz.func311 rfl
@[simp] theorem Nc : C.locs 311 = [] := by kernel_rfl
noncomputable def kG := Tryz.f312.body.getD .skip
theorem CV : Ret C 312 a H R ↔ WP C 312 kG ⟨initRegs a, 0, H⟩ (finQ C Tryz.f312 H R) := Ret_fn rfl (by kernel_rfl) Tryz.func312 rfl
@[simp] theorem NK : C.locs 312 = [] := by kernel_rfl
noncomputable def uC := Tryz.f313.body.getD .skip
theorem IP : Ret C 313 a H R ↔ WP C 313 uC ⟨initRegs a, 0, H⟩ (finQ C Tryz.f313 H R) := Ret_fn rfl (by kernel_rfl) Tryz.func313 rfl
@[simp] theorem Ol : C.locs 313 = [] := by kernel_rfl
noncomputable def uz := Tryz.f314.body.getD .skip
theorem J5 : Ret C 314 a H R ↔ WP C 314 uz ⟨initRegs a, 0, H⟩ (finQ C Tryz.f314 H R) := Ret_fn rfl (by kernel_rfl) Tryz.func314 rfl
@[simp] theorem ND : C.locs 314 = [] := by kernel_rfl
noncomputable def bI := Tryz.f315.body.getD .skip
theorem CO : C.fids 315 = true := by kernel_rfl
theorem DU : Tryz.f315.body = some bI := rfl
theorem Ec : C.prim 315 = none := rfl
theorem C9 : C.funcs 315 = some Tryz.f315 := Tryz.func315
theorem yN : Ret C 315 a H R ↔ WP C 315 bI ⟨initRegs a, 0, H⟩ (finQ C Tryz.f315 H R) := Ret_fn rfl (by kernel_rfl) Tryz.func315 rfl
@[simp] theorem Am : C.locs 315 = [] := by kernel_rfl
noncomputable def vO := Tryz.f316.body.getD .skip
theorem Gx : Ret C 316 a H R ↔ WP C 316 vO ⟨initRegs a, 0, H⟩ (finQ C Tryz.f316 H R) := Ret_fn rfl (by kernel_rfl) Tryz.func316 rfl
@[simp] theorem N8 : C.locs 316 = [] := by kernel_rfl
@[simp] theorem LP : C.locs 317 = [9] := by kernel_rfl
@[simp] theorem KJ : C.locs 319 = [] := by kernel_rfl
noncomputable def nM := Tryz.f320.body.getD .skip
theorem IR : Ret C 320 a H R ↔ WP C 320 nM ⟨initRegs a, 0, H⟩ (finQ C Tryz.f320 H R) := Ret_fn rfl (by kernel_rfl) Tryz.func320 rfl
@[simp] theorem Ox : C.locs 320 = [] := by kernel_rfl
noncomputable def aJ := Tryz.f321.body.getD .skip
theorem Kv : Ret C 321 a H R ↔ WP C 321 aJ ⟨initRegs a, 0, H⟩ (finQ C Tryz.f321 H R) := Ret_fn rfl (by kernel_rfl) Tryz.func321 rfl
@[simp] theorem Oe : C.locs 321 = [] := by kernel_rfl
noncomputable def vw := Tryz.f322.body.getD .skip
theorem Jg : Ret C 322 a H R ↔ WP C 322 vw ⟨initRegs a, 0, H⟩ (finQ C Tryz.f322 H R) := Ret_fn rfl (by kernel_rfl) Tryz.func322 rfl
@[simp] theorem KX : C.locs 322 = [] := by kernel_rfl
noncomputable def nV := Tryz.f323.body.getD .skip
theorem Ha : Ret C 323 a H R ↔ WP C 323 nV ⟨initRegs a, 0, H⟩ (finQ C Tryz.f323 H R) := Ret_fn rfl (by kernel_rfl) Tryz.func323 rfl
@[simp] theorem LV : C.locs 323 = [] := by kernel_rfl
noncomputable def sD := Tryz.f326.body.getD .skip
theorem FB : Ret C 326 a H R ↔ WP C 326 sD ⟨initRegs a, 0, H⟩ (finQ C Tryz.f326 H R) := Ret_fn rfl (by kernel_rfl) Tryz.func326 rfl
@[simp] theorem PM : C.locs 326 = [] := by kernel_rfl
noncomputable def eQ := Tryz.f327.body.getD .skip
theorem Ic : Ret C 327 a H R ↔ WP C 327 eQ ⟨initRegs a, 0, H⟩ (finQ C Tryz.f327 H R) := Ret_fn rfl (by kernel_rfl) Tryz.func327 rfl
@[simp] theorem PQ : C.locs 327 = [] := by kernel_rfl
noncomputable def oO := Tryz.f328.body.getD .skip
theorem FX : Ret C 328 a H R ↔ WP C 328 oO ⟨initRegs a, 0, H⟩ (finQ C Tryz.f328 H R) := Ret_fn rfl (by kernel_rfl) Tryz.func328 rfl
@[simp] theorem OG : C.locs 328 = [] := by kernel_rfl
noncomputable def sH := Tryz.f329.body.getD .skip
theorem KC : Ret C 329 a H R ↔ WP C 329 sH ⟨initRegs a, 0, H⟩ (finQ C Tryz.f329 H R) := Ret_fn rfl (by kernel_rfl) Tryz.func329 rfl
@[simp] theorem Nk : C.locs 329 = [] := by kernel_rfl
noncomputable def ni := Tryz.f330.body.getD .skip
theorem Eb : Ret C 330 a H R ↔ WP C 330 ni ⟨initRegs a, 0, H⟩ (finQ C Tryz.f330 H R) := Ret_fn rfl (by kernel_rfl) Tryz.func330 rfl
@[simp] theorem Oy : C.locs 330 = [] := by kernel_rfl
noncomputable def uH := Tryz.f331.body.getD .skip
theorem H7 : Ret C 331 a H R ↔ WP C 331 uH ⟨initRegs a, 0, H⟩ (finQ C Tryz.f331 H R) := Ret_fn rfl (by kernel_rfl) Tryz.func331 rfl
@[simp] theorem O0 : C.locs 331 = [] := by kernel_rfl
noncomputable def sZ := Tryz.f332.body.getD .skip
theorem He : Ret C 332 a H R ↔ WP C 332 sZ ⟨initRegs a, 0, H⟩ (finQ C Tryz.f332 H R) := Ret_fn rfl (by kernel_rfl) Tryz.func332 rfl
@[simp] theorem OA : C.locs 332 = [] := by kernel_rfl
noncomputable def uA := Tryz.f333.body.getD .skip
theorem Gn : Ret C 333 a H R ↔ WP C 333 uA ⟨initRegs a, 0, H⟩ (finQ C Tryz.f333 H R) := Ret_fn rfl (by kernel_rfl) Tryz.func333 rfl
@[simp] theorem OI : C.locs 333 = [2] := by kernel_rfl
noncomputable def eF := Tryz.f334.body.getD .skip
theorem CS : C.fids 334 = true := by kernel_rfl
theorem CX : Tryz.f334.body = some eF := rfl
theorem Ed : C.prim 334 = none := rfl
theorem DR : C.funcs 334 = some Tryz.f334 := Tryz.func334
theorem Ad : Ret C 334 a H R ↔ WP C 334 eF ⟨initRegs a, 0, H⟩ (finQ C Tryz.f334 H R) := Ret_fn rfl (by kernel_rfl) Tryz.func334 rfl
@[simp] theorem A7 : C.locs 334 = [] := by kernel_rfl
noncomputable def uP := Tryz.f335.body.getD .skip
theorem JY : Ret C 335 a H R ↔ WP C 335 uP ⟨initRegs a, 0, H⟩ (finQ C Tryz.f335 H R) := Ret_fn rfl (by kernel_rfl) Tryz.func335 rfl
@[simp] theorem Oc : C.locs 335 = [] := by kernel_rfl
noncomputable def aZ := Tryz.f336.body.getD .skip
theorem CE : C.fids 336 = true := by kernel_rfl
theorem DF : Tryz.f336.body = some aZ := rfl
theorem DI : C.prim 336 = none := rfl
theorem Ej : C.funcs 336 = some Tryz.f336 := Tryz.func336
theorem yG : Ret C 336 a H R ↔ WP C 336 aZ ⟨initRegs a, 0, H⟩ (finQ C Tryz.f336 H R) := Ret_fn rfl (by kernel_rfl) Tryz.func336 rfl
@[simp] theorem Cj : C.locs 336 = [] := by kernel_rfl
@[simp] theorem PN : C.locs 337 = [] := by kernel_rfl
@[simp] theorem KY : C.locs 338 = [] := by kernel_rfl
noncomputable def nN := Tryz.f351.body.getD .skip
theorem Ia : Ret C 351 a H R ↔ WP C 351 nN ⟨initRegs a, 0, H⟩ (finQ C Tryz.f351 H R) := Ret_fn rfl (by kernel_rfl) Tryz.func351 rfl
@[simp] theorem MW : C.locs 351 = [] := by kernel_rfl
noncomputable def su := Tryz.f352.body.getD .skip
theorem Hg : Ret C 352 a H R ↔ WP C 352 su ⟨initRegs a, 0, H⟩ (finQ C Tryz.f352 H R) := Ret_fn rfl (by kernel_rfl) Tryz.func352 rfl
@[simp] theorem OE : C.locs 352 = [] := by kernel_rfl
noncomputable def dX := Tryz.f353.body.getD .skip
theorem D7 : C.fids 353 = true := by kernel_rfl
theorem DW : Tryz.f353.body = some dX := rfl
theorem DC : C.prim 353 = none := rfl
theorem DX : C.funcs 353 = some Tryz.f353 := Tryz.func353
theorem xZ : Ret C 353 a H R ↔ WP C 353 dX ⟨initRegs a, 0, H⟩ (finQ C Tryz.f353 H R) := Ret_fn rfl (by kernel_rfl) Tryz.func353 rfl
@[simp] theorem BP : C.locs 353 = [] := by kernel_rfl
noncomputable def vN := Tryz.f354.body.getD .skip
theorem IQ : Ret C 354 a H R ↔ WP C 354 vN ⟨initRegs a, 0, H⟩ (finQ C Tryz.f354 H R) := Ret_fn rfl (by kernel_rfl) Tryz.func354 rfl
@[simp] theorem Oq : C.locs 354 = [] := by kernel_rfl
noncomputable def tK := Tryz.f355.body.getD .skip
theorem IY : Ret C 355 a H R ↔ WP C 355 tK ⟨initRegs a, 0, H⟩ (finQ C Tryz.f355 H R) := Ret_fn rfl (by kernel_rfl) Tryz.func355 rfl
@[simp] theorem KL : C.locs 355 = [2] := by kernel_rfl
@[simp] theorem Q7 : C.ord 4 8 = some ⟨[0, 2, 1, 3, 4, 5], [], [], [(0, 2), (2, 3)], [], []⟩ := by kernel_rfl
@[simp] theorem OY : C.ord 4 14 = some ⟨[0, 1, 2, 3, 4], [], [], [(0, 7), (1, 2)], [], []⟩ := by kernel_rfl
@[simp] theorem NU : C.ord 4 16 = some ⟨[0, 1, 2, 3, 4], [], [], [(0, 8), (1, 3)], [], []⟩ := by kernel_rfl
@[simp] theorem Oj : C.ord 4 31 = some ⟨[0, 2, 1, 3, 4, 5], [], [], [(0, 2), (2, 3)], [], []⟩ := by kernel_rfl
@[simp] theorem AU : C.ord 19 6 = none := by kernel_rfl
@[simp] theorem MH : C.ord 25 4 = some ⟨[0, 1, 2, 3, 4, 5, 6, 7], [6], [4], [], [], []⟩ := by kernel_rfl
@[simp] theorem Oa : C.ord 25 7 = some ⟨[0, 1, 2, 3, 4, 5, 6, 7], [6], [4], [], [], []⟩ := by kernel_rfl
@[simp] theorem KE : C.ord 25 10 = some ⟨[0, 1, 2, 3, 4, 5, 6, 7], [6], [4], [], [], []⟩ := by kernel_rfl
@[simp] theorem GG : C.ord 25 13 = some ⟨[0, 1, 2, 3, 4, 5, 6, 7], [6], [4], [], [], []⟩ := by kernel_rfl
@[simp] theorem KU : C.ord 41 7 = some ⟨[0, 1, 2, 3, 4, 5, 6, 7, 8, 9, 10, 11, 12, 13, 14, 15, 16, 17, 18, 19, 20, 22, 23, 21, 24, 25, 26, 27], [], [], [(0, 4), (5, 1), (6, 4), (15, 1), (23, 4)], [], []⟩ := by kernel_rfl
@[simp] theorem Il : C.ord 41 13 = some ⟨[0, 1, 2, 3, 4, 5, 6, 7, 8, 9, 10], [], [], [(4, 1)], [], []⟩ := by kernel_rfl
@[simp] theorem MP : C.ord 47 6 = some ⟨[0, 1, 2, 3, 4, 5, 6, 7, 8, 9, 10, 11, 12, 13, 14, 15, 17, 18, 16, 19, 20, 21, 22], [], [], [(2, 4), (18, 4)], [], []⟩ := by kernel_rfl
@[simp] theorem KZ : C.ord 59 6 = none := by kernel_rfl
@[simp] theorem NY : C.ord 59 7 = none := by kernel_rfl
@[simp] theorem KF : C.ord 65 3 = some ⟨[0, 1, 2, 3, 4, 5, 7, 8, 10, 11, 6, 9, 12, 13, 14, 15, 16, 17, 18], [], [], [(1, 1), (5, 1), (8, 1), (11, 1)], [], []⟩ := by kernel_rfl
@[simp] theorem AY : C.ord 68 6 = none := by kernel_rfl
@[simp] theorem BG : C.ord 69 6 = none := by kernel_rfl
@[simp] theorem BL : C.ord 70 6 = none := by kernel_rfl
@[simp] theorem AB : C.ord 71 6 = none := by kernel_rfl
@[simp] theorem BA : C.ord 72 6 = none := by kernel_rfl
@[simp] theorem J8 : C.ord 100 4 = none := by kernel_rfl
@[simp] theorem JO : C.ord 102 2 = none := by kernel_rfl
@[simp] theorem Gz : C.ord 102 7 = none := by kernel_rfl
@[simp] theorem Jn : C.ord 103 5 = some ⟨[0, 1, 2, 3, 4, 5, 6, 7, 8, 9, 10, 11, 12, 13, 14, 15, 16], [14], [6], [], [], []⟩ := by kernel_rfl
@[simp] theorem Gh : C.ord 110 6 = none := by kernel_rfl
@[simp] theorem H8 : C.ord 121 4 = none := by kernel_rfl
@[simp] theorem F9 : C.ord 133 9 = none := by kernel_rfl
@[simp] theorem EW : C.ord 133 11 = none := by kernel_rfl
@[simp] theorem Ig : C.ord 150 5 = some ⟨[0, 1, 2, 4, 5, 3, 6, 7], [], [], [(2, 5), (5, 5)], [], []⟩ := by kernel_rfl
@[simp] theorem JV : C.ord 151 1 = none := by kernel_rfl
@[simp] theorem Ku : C.ord 181 6 = none := by kernel_rfl
@[simp] theorem E8 : C.ord 181 11 = none := by kernel_rfl
@[simp] theorem FD : C.ord 182 4 = none := by kernel_rfl
@[simp] theorem Iz : C.ord 187 4 = none := by kernel_rfl
@[simp] theorem FM : C.ord 194 8 = some ⟨[0, 1, 2, 3, 4, 8, 9, 5, 6, 7, 10, 11, 12, 13, 14, 15, 16, 17, 18, 19, 20, 21, 22, 23, 24], [5, 6], [8], [(1, 1), (19, 1)], [], []⟩ := by kernel_rfl
@[simp] theorem FY : C.ord 196 6 = none := by kernel_rfl
@[simp] theorem Fa : C.ord 197 10 = some ⟨[0, 1, 2, 3, 4, 5, 6, 7, 8, 9, 10, 11, 12, 13, 14, 15, 16, 17], [15], [4, 7], [], [], []⟩ := by kernel_rfl
@[simp] theorem FH : C.ord 201 1 = some ⟨[0, 1, 2, 3, 4, 5, 6, 7, 8, 9, 10], [5], [3], [], [], []⟩ := by kernel_rfl
@[simp] theorem H9 : C.ord 214 6 = none := by kernel_rfl
@[simp] theorem JA : C.ord 224 7 = some ⟨[0, 1, 2, 3, 4, 5, 6, 7, 8, 9, 10, 11, 12, 13, 14, 15], [13], [5], [], [], []⟩ := by kernel_rfl
@[simp] theorem Kz : C.ord 225 3 = none := by kernel_rfl
@[simp] theorem IU : C.ord 237 1 = some ⟨[0, 1, 2, 3, 4, 5, 6, 7], [], [2], [(6, 8)], [], []⟩ := by kernel_rfl
@[simp] theorem zL : C.ord 241 6 = none := by kernel_rfl
@[simp] theorem Ff : C.ord 259 4 = some ⟨[0, 1, 2, 3, 4, 5, 6, 7, 8, 9, 10, 11, 12, 13, 14, 16, 17, 18, 19, 15, 20, 21, 22, 23], [15], [19], [], [], []⟩ := by kernel_rfl
@[simp] theorem JR : C.ord 290 1 = some ⟨[0, 1, 2, 3, 4, 5, 6, 7, 8, 9, 10, 11], [], [3, 7, 9], [(11, 3)], [], []⟩ := by kernel_rfl
@[simp] theorem EY : C.ord 290 10 = none := by kernel_rfl
@[simp] theorem JQ : C.ord 297 6 = none := by kernel_rfl
@[simp] theorem EZ : C.ord 297 11 = none := by kernel_rfl
@[simp] theorem FQ : C.ord 299 3 = some ⟨[0, 1, 3, 4, 5, 7, 2, 6, 8, 9], [2, 7], [1, 5], [], [(7, 0)], [(1, [0]), (2, [0]), (5, [0]), (6, [0])]⟩ := by kernel_rfl
@[simp] theorem Fe : C.ord 302 1 = some ⟨[0, 1, 2, 3, 4, 5, 6, 7, 8], [], [2], [(6, 7)], [], []⟩ := by kernel_rfl
@[simp] theorem Fb : C.ord 302 23 = none := by kernel_rfl
@[simp] theorem EX : C.ord 302 29 = none := by kernel_rfl
@[simp] theorem Ir : C.ord 306 5 = some ⟨[0, 1, 2, 3, 5, 6, 8, 9, 4, 7, 10, 11, 12, 13], [], [], [(1, 7), (3, 7), (6, 7), (9, 7), (12, 4)], [], []⟩ := by kernel_rfl
@[simp] theorem JJ : C.ord 314 1 = some ⟨[0, 2, 1, 3, 4], [1], [2], [], [], []⟩ := by kernel_rfl
end Go.Proofs.Try1
end
section
namespace Go.Proofs.Try1
open Go Go.Lite
def fJ (f : Nat) (sh : Sh) : Prop := ∀ (H : List Ob) (cs : List V) (u : U) (left : Nat), At H sh cs u → left ≤ 1048576 →
 callW C f [valC sh cs, .int .i64 left] H = some (.int .i64 (if wt u ≤ left then ((left - wt u : Nat) : Int) else -1), H)
theorem dN : fJ 179 (.slice .str) := by
 intro H cs u left h hleft
 simp only [At] at h
 obtain ⟨v, l, rfl, rfl, hlen, hv⟩ := h
 apply Ret.eq
 rw [I8]
 by_cases h0 : (l.length : Int) ≤ left
 ·have h0' : ¬ ((left : Int) - l.length < 0) := by omega
  have hw0 : IntKind.i64.wrap ((left : Int) - l.length) = (left : Int) - l.length := wrap_i64 (by omega) (by omega)
  simp [oz, Tryz.f179, valC, hv.len, hw0, h0']
  refine WP_loop (fun k σ => ∃ (i : Nat) (r : Nat → R), i + k = l.length ∧ σ = ⟨r, 0, H⟩ ∧ r 0 = .val v ∧ l.length + wts (l.take i) ≤ left ∧ r 1 = .val (.int .i64 ((left : Int) - l.length - wts (l.take i))) ∧ r 5 = .val (.int .i64 i)) ?_ l.length _ ⟨0, _, by simp, rfl, by simp, by simp [wts]; omega, by simp [wts], by simp⟩
  rintro k σ ⟨i, r, hik, rfl, r0, hle, r1, r5⟩
  cases k with
  | zero =>
   have hi : i = l.length := by omega
   subst hi
   rw [List.take_length] at hle r1
   simp [r0, r1, r5, hv.len, wt, hle]
   omega
  | succ k =>
   have hi : i < l.length := by omega
   obtain ⟨x, hx⟩ : ∃ x, l[i]? = some x := ⟨l[i], by simp [hi]⟩
   obtain ⟨eid, o, own, cells, e1, e2, e3, s, e4, rfl, e5⟩ := hv.idx hx (by decide)
   simp only [Sh.size_str] at e1
   have c0 : cells[o]? = some (.str s) := by simpa using cells_get e4 (j := 0) rfl
   have ld := load1 e2 c0
   have ht := wts_take hx
   simp only [wt] at ht
   have hg := wts_get hx
   simp only [wt] at hg
   have hw : IntKind.i64.wrap ((i : Int) + 1) = ((i + 1 : Nat) : Int) := by rw [wrap_i64 (by omega) (by omega)]; omega
   have hw2 : IntKind.i64.wrap ((left : Int) - l.length - wts (l.take i) - s.length) = (left : Int) - l.length - wts (l.take i) - s.length := wrap_i64 (by have : s.length ≤ maxLen := e5; unfold maxLen at this; omega) (by omega)
   by_cases hb : l.length + wts (l.take (i + 1)) ≤ left
   ·have hb' : ¬ ((left : Int) - l.length - wts (l.take i) - s.length < 0) := by omega
    simp [r0, r1, r5, hi, hv.len, e1, ld, hw, hw2, hb']
    exact ⟨k, by omega, i + 1, by omega, hb, by omega, by omega⟩
   ·have hb' : (left : Int) - l.length - wts (l.take i) - s.length < 0 := by omega
    have := wts_take_le (l := l) (i := i + 1)
    have hn : ¬ (l.length + wts l ≤ left) := by omega
    simp [r0, r1, r5, hi, hv.len, e1, ld, hw, hw2, hb', wt, hn]
 ·have h0' : (left : Int) - l.length < 0 := by omega
  have hw0 : IntKind.i64.wrap ((left : Int) - l.length) = (left : Int) - l.length := wrap_i64 (by have : l.length ≤ maxLen := hlen; unfold maxLen at this; omega) (by omega)
  have hn : ¬ (l.length + wts l ≤ left) := by omega
  simp [oz, Tryz.f179, valC, hv.len, hw0, h0', wt, hn]
theorem mQ {f g tS tE : Nat} {zs : List V} {fs : List Sh} {F : Func} (hop : ∀ {a : List V} {H : List Ob} {R : V → List Ob → Prop}, Ret C f a H R ↔ WP C f (ren [(47, tS), (180, tE)] [(124, g)] kH) ⟨initRegs a, 0, H⟩ (finQ C F H R))
  (hF : F.results = #[.tmp 4]) (hS : C.ty tS = ⟨.slice tE, 1, 24, zs⟩) (hE : (C.ty tE).size = (Sh.st fs).size) (hE2 : (C.ty tE).isAgg = true) (hE0 : (C.ty tE).size ≠ 0) (hg : fJ g (.st fs)) : fJ f (.slice (.st fs)) := by
 intro H cs u left h hleft
 simp only [At] at h
 obtain ⟨v, l, rfl, rfl, hlen, hv⟩ := h
 apply Ret.eq
 rw [hop]
 by_cases h0 : (l.length : Int) ≤ left
 ·have h0' : ¬ ((left : Int) - l.length < 0) := by omega
  have hw0 : IntKind.i64.wrap ((left : Int) - l.length) = (left : Int) - l.length := wrap_i64 (by omega) (by omega)
  simp [kH, Tryz.f53, ren, renO, renP, renX, sub, valC, hS, hv.len, hw0, h0']
  refine WP_loop (fun k σ => ∃ (i : Nat) (r : Nat → R), i + k = l.length ∧ σ = ⟨r, 0, H⟩ ∧ r 0 = .val v ∧ l.length + wts (l.take i) ≤ left ∧ r 1 = .val (.int .i64 ((left : Int) - l.length - wts (l.take i))) ∧ r 5 = .val (.int .i64 i)) ?_ l.length _ ⟨0, _, by simp, rfl, by simp, by simp [wts]; omega, by simp [wts], by simp⟩
  rintro k σ ⟨i, r, hik, rfl, r0, hle, r1, r5⟩
  cases k with
  | zero =>
   have hi : i = l.length := by omega
   subst hi
   rw [List.take_length] at hle r1
   simp [r0, r1, r5, hS, hv.len, wt, hle, hF]
   omega
  | succ k =>
   have hi : i < l.length := by omega
   obtain ⟨x, hx⟩ : ∃ x, l[i]? = some x := ⟨l[i], by simp [hi]⟩
   obtain ⟨eid, o, own, cells, e1, e2, e3, e4⟩ := hv.idx hx (by rw [← hE]; exact hE0)
   have e1 := fun (k : IntKind) => e1 tE 1 24 zs C.ty k hE
   have ld := load_agg (T := C.ty tE) e2 (by rw [hE]; exact e3) rfl hE0 hE2
   rw [hE] at ld
   have ht := wts_take hx
   have hw : IntKind.i64.wrap ((i : Int) + 1) = ((i + 1 : Nat) : Int) := by rw [wrap_i64 (by omega) (by omega)]; omega
   have hc := hg H _ x (left - l.length - wts (l.take i)) e4 (by omega)
   rw [show ((left - l.length - wts (l.take i) : Nat) : Int) = (left : Int) - l.length - wts (l.take i) by omega] at hc
   simp only [valC, Sh.size_st] at hc
   by_cases hb : l.length + wts (l.take (i + 1)) ≤ left
   ·have hb2 : wt x ≤ left - l.length - wts (l.take i) := by omega
    have hb' : ¬ (((left - l.length - wts (l.take i) - wt x : Nat) : Int) < 0) := by omega
    rw [if_pos hb2] at hc
    simp [r0, r1, r5, hi, hS, hv.len, e1, ld, hw, hc, hb']
    exact ⟨k, by omega, i + 1, by omega, hb, by omega, by omega⟩
   ·have hb2 : ¬ (wt x ≤ left - l.length - wts (l.take i)) := by omega
    have := wts_take_le (l := l) (i := i + 1)
    have hn : ¬ (l.length + wts l ≤ left) := by omega
    rw [if_neg hb2] at hc
    simp [r0, r1, r5, hi, hS, hv.len, e1, ld, hw, hc, wt, hn, hF]
 ·have h0' : (left : Int) - l.length < 0 := by omega
  have hw0 : IntKind.i64.wrap ((left : Int) - l.length) = (left : Int) - l.length := wrap_i64 (by have : l.length ≤ maxLen := hlen; unfold maxLen at this; omega) (by omega)
  have hn : ¬ (l.length + wts l ≤ left) := by omega
  simp [kH, Tryz.f53, ren, renO, renP, renX, sub, valC, hS, hv.len, hw0, h0', wt, hn, hF]
end Go.Proofs.Try1
end
section
namespace Go.Lite
open Go
def bys (b : Str) : List V := b.map fun c => .int .u8 c.toNat
theorem bys_len {b : Str} : (bys b).length = b.length := by simp [bys]
theorem bys_get {b : Str} {i : Nat} {c : UInt8} (h : b[i]? = some c) : (bys b)[i]? = some (.int .u8 c.toNat) := by simp [bys, h]
theorem byteOf_u8 {c : UInt8} : byteOfV (.int .u8 c.toNat) = some c := by
 simp [byteOfV]
theorem bys_mapM : ∀ {b : Str}, (bys b).mapM byteOfV = some b
 | [] => rfl
 | c :: b => by
  have := bys_mapM (b := b)
  simp only [bys, List.map_cons, List.mapM_cons, byteOf_u8] at this ⊢
  rw [this]
  rfl
theorem bys_append {a b : Str} : bys (a ++ b) = bys a ++ bys b := by simp [bys]
theorem bys_take {b : Str} {n : Nat} : (bys b).take n = bys (b.take n) := by simp [bys, List.map_take]
def Bs (H G : List Ob) (v : V) (b : Str) : Prop := ∃ T id, G = H ++ T ∧ H.length ≤ id ∧ G[id]? = some (.mk true 1 (bys b)) ∧ v = .slc (some (id, 0)) b.length
theorem Bs.init {H : List Ob} : Bs H (H ++ [.mk true 1 []]) (.slc (some (H.length, 0)) 0) [] := ⟨_, H.length, rfl, Nat.le_refl _, by simp [bys], rfl⟩
section
variable {H G : List Ob} {v : V} {b : Str}
theorem Bs.push (h : Bs H G v b) (hb : b.length ≤ 1000000000) {c : UInt8} {z : List V} {d : LD} (hz : z.length = 1) : ∃ v' G', appendV ⟨d, 1, 1, z⟩ (G ++ [.mk true 1 [.int .u8 c.toNat]]) v (.slc (some (G.length, 0)) 1) = some (v', G') ∧ Bs H G' v' (b ++ [c]) := by
 obtain ⟨T, id, rfl, h1, h2, rfl⟩ := h
 have hid : id < (H ++ T).length := (List.getElem?_eq_some_iff.1 h2).1
 have hid' : id < H.length + T.length := by simpa using hid
 have hg : (H ++ T ++ [Ob.mk true 1 [.int .u8 c.toNat]])[id]? = some (.mk true 1 (bys b)) := by rw [List.getElem?_append_left hid]; exact h2
 have hnew : newCells ⟨d, 1, 1, z⟩ (H ++ T ++ [Ob.mk true 1 [.int .u8 c.toNat]]) (.slc (some ((H ++ T).length, 0)) 1) = some ([.int .u8 c.toNat], 1) := by
  simp only [newCells, Nat.mul_one, slcCells, get_last]
  rfl
 refine ⟨.slc (some ((H ++ T ++ [Ob.mk true 1 [.int .u8 c.toNat]]).length, 0)) (b.length + 1), (H ++ T ++ [Ob.mk true 1 [.int .u8 c.toNat]]).set id .dead ++ [.mk true 1 (bys b ++ [.int .u8 c.toNat])], ?_, ?_⟩
 ·unfold appendV
  rw [if_pos (by simp [growOk, hz]), hnew]
  simp only [Nat.one_ne_zero, if_false, List.all_cons, List.all_nil, isOne_int, Bool.and_true, if_true, hg]
  have e1 : ¬ (0 + (b.length + 1) * 1 ≤ (bys b).length) := by rw [bys_len]; omega
  have e2 : (0 + b.length * 1 = (bys b).length ∨ b.length = 0 ∧ (bys b).length ≤ 0) ∧ (b.length + 1) * 1 ≤ maxMade := ⟨.inl (by rw [bys_len]; simp), by unfold maxMade; omega⟩
  rw [if_neg e1, if_pos e2, List.drop_zero]
 ·refine ⟨T.set (id - H.length) .dead ++ [.mk true 1 [.int .u8 c.toNat]] ++ [.mk true 1 (bys b ++ [.int .u8 c.toNat])], (H ++ T ++ [Ob.mk true 1 [.int .u8 c.toNat]]).length, ?_, by simp only [List.length_append]; omega, ?_, by simp⟩
  ·rw [List.append_assoc H T, List.set_append_right _ _ h1, List.set_append_left _ _ (by omega)]
   simp
  ·have hl : ((H ++ T ++ [Ob.mk true 1 [V.int .u8 c.toNat]]).set id .dead).length = (H ++ T ++ [Ob.mk true 1 [V.int .u8 c.toNat]]).length := List.length_set
   rw [← hl, get_last, bys_append]
   rfl
theorem Bs.last (h : Bs H G v b) {d : UInt8} (hd : b.getLast? = some d) : ∃ id, v = .slc (some (id, 0)) b.length ∧ ∀ T : LT, T.one → ∀ r c, loadAt T ⟨r, c, G⟩ (.hp id (b.length - 1)) = some (.int .u8 d.toNat) := by
 obtain ⟨T, id, rfl, h1, h2, rfl⟩ := h
 refine ⟨id, rfl, load1 h2 (bys_get ?_)⟩
 rw [List.getLast?_eq_getElem?] at hd
 exact hd
theorem Bs.cut (h : Bs H G v b) {n : Nat} (hn : n ≤ b.length) : ∃ id, v = .slc (some (id, 0)) b.length ∧ strideIs G id 1 = true ∧ slcCells G (some (id, 0)) n = some (bys (b.take n)) := by
 obtain ⟨T, id, rfl, h1, h2, rfl⟩ := h
 refine ⟨id, rfl, by simp [strideIs, h2], ?_⟩
 simp only [slcCells, h2]
 by_cases h0 : n = 0
 ·subst h0; rfl
 ·rw [if_neg h0]
  unfold rdCells
  rw [if_pos (by rw [bys_len]; omega), List.drop_zero, bys_take]
theorem Bs.ext (h : Bs H G v b) : ∃ T, G = H ++ T := by
 obtain ⟨T, id, h, _⟩ := h
 exact ⟨T, h⟩
theorem Bs.len (h : Bs H G v b) {e s n : Nat} {z : List V} : lenV ⟨.slice e, s, n, z⟩ v = some (.int .i64 b.length) := by
 obtain ⟨T, id, _, _, _, rfl⟩ := h
 rfl
end
abbrev shRdn : Sh := .st [.str, .str]
abbrev shAttr : Sh := .st [.str, .slice .str]
abbrev shEntry : Sh := .st [.slice shRdn, .slice shAttr]
abbrev shClass : Sh := .st [.str, .slice .str, .slice .str, .slice .str]
structure PRdn where
 attr : Str
 value : Str
structure PAttr where
 name : Str
 vals : List Str
structure PEntry where
 dn : List PRdn
 attrs : List PAttr
structure PClass where
 name : Str
 must : List Str
 may : List Str
 single : List Str
abbrev strU (s : Str) : U := .str s
def PRdn.u (r : PRdn) : U := .st [.str r.attr, .str r.value]
def PAttr.u (a : PAttr) : U := .st [.str a.name, .lst (a.vals.map strU)]
def PEntry.u (e : PEntry) : U := .st [.lst (e.dn.map PRdn.u), .lst (e.attrs.map PAttr.u)]
def PClass.u (c : PClass) : U := .st [.str c.name, .lst (c.must.map strU), .lst (c.may.map strU), .lst (c.single.map strU)]
section
variable (H : List Ob)
def ASl {α : Type} (sh : Sh) (f : α → U) (v : V) (l : List α) : Prop := At H (.slice sh) [v] (.lst (l.map f))
abbrev AStrs (v : V) (l : List Str) : Prop := ASl H .str strU v l
abbrev ARdns (v : V) (l : List PRdn) : Prop := ASl H shRdn PRdn.u v l
abbrev AAttrs (v : V) (l : List PAttr) : Prop := ASl H shAttr PAttr.u v l
abbrev AClasses (v : V) (l : List PClass) : Prop := ASl H shClass PClass.u v l
end
section
variable {H H' T : List Ob} {v : V} {α : Type} {sh : Sh} {f : α → U} {l : List α}
theorem ASl.at (h : ASl H sh f v l) : At H (.slice sh) [v] (.lst (l.map f)) := h
theorem ASl.sl (h : ASl H sh f v l) : Sl H sh.size (At H sh) v (l.map f) := by
 obtain ⟨w, m, hw, hm, _, h⟩ := At_slice.1 h.at
 cases hw
 cases hm
 exact h
theorem ASl.bound (h : ASl H sh f v l) : l.length ≤ maxLen := by
 obtain ⟨w, m, hw, hm, h, _⟩ := At_slice.1 h.at
 cases hm
 simpa using h
theorem ASl.len (h : ASl H sh f v l) {e s b : Nat} {z : List V} : lenV ⟨.slice e, s, b, z⟩ v = some (.int .i64 l.length) := by
 have := h.sl.len (e := e) (s := s) (b := b) (z := z)
 simpa using this
theorem ASl.one (h : ASl H sh f v l) : isOne v = true ∧ cellsOf v = some [v] := h.sl.one
theorem ASl.ext (h : ASl H sh f v l) : ASl (H ++ T) sh f v l := At.ext h
theorem ASl.up (h : ASl H sh f v l) (hH : ∀ (id : Nat) o, H[id]? = some o → H'[id]? = some o) : ASl H' sh f v l := At.up hH _ h
theorem ASl.idx (h : ASl H sh f v l) {i : Nat} {x : α} (hx : l[i]? = some x) (hs : sh.size ≠ 0) : ∃ id o own cells,
  (∀ (e s b : Nat) (z : List V) (ty : Nat → LT) (k : IntKind), (ty e).size = sh.size → indexR ⟨.slice e, s, b, z⟩ ty (.val v) (.int k i) = some (.val (.ptr (some (id, o))))) ∧
  H[id]? = some (.mk own sh.size cells) ∧ o + sh.size ≤ cells.length ∧ At H sh ((cells.drop o).take sh.size) (f x) :=
 h.sl.idx (by rw [List.getElem?_map, hx]; rfl) hs
theorem Sl.typed (hf : ∀ cs u, At H sh cs u → ∃ x : α, u = f x) {us : List U} {n : Nat} (h : Sl H n (At H sh) v us) : ∃ l : List α, us = l.map f := by
 have h2 : ∀ u ∈ us, ∃ x : α, u = f x := by
  intro u hu
  rcases h with ⟨_, rfl⟩ | ⟨id, off, own, cells, _, _, _, h4⟩
  ·cases hu
  ·obtain ⟨i, hi, rfl⟩ := List.getElem_of_mem hu
   exact hf _ _ (h4 i _ (List.getElem?_eq_getElem hi))
 clear h
 induction us with
 | nil => exact ⟨[], rfl⟩
 | cons u us ih =>
  obtain ⟨x, rfl⟩ := h2 u List.mem_cons_self
  obtain ⟨l, rfl⟩ := ih fun w hw => h2 w (List.mem_cons_of_mem _ hw)
  exact ⟨x :: l, rfl⟩
theorem ASl.typed (hf : ∀ cs u, At H sh cs u → ∃ x : α, u = f x) {cs : List V} {u : U} (h : At H (.slice sh) cs u) : ∃ v l, cs = [v] ∧ u = .lst (l.map f) ∧ ASl H sh f v l := by
 have h0 := h
 obtain ⟨v, us, rfl, rfl, _, hs⟩ := At_slice.1 h
 obtain ⟨l, rfl⟩ := Sl.typed hf hs
 exact ⟨v, l, rfl, rfl, h0⟩
theorem strs_typed {cs : List V} {u : U} (h : At H (.slice .str) cs u) : ∃ v l, cs = [v] ∧ u = .lst (l.map strU) ∧ AStrs H v l :=
 ASl.typed (fun cs u h => by obtain ⟨s, _, rfl, _⟩ := At_str.1 h; exact ⟨s, rfl⟩) h
theorem rdn_at {cs : List V} {r : PRdn} : At H shRdn cs r.u ↔ cs = [.str r.attr, .str r.value] ∧ r.attr.length ≤ maxLen ∧ r.value.length ≤ maxLen := by
 constructor
 ·intro h
  obtain ⟨us, hu, h⟩ := At_st.1 h
  cases hu
  obtain ⟨c1, c2, u1, us1, rfl, hu, h1, h⟩ := Ats_cons.1 h
  cases hu
  obtain ⟨c3, c4, u2, us2, rfl, hu, h2, h⟩ := Ats_cons.1 h
  cases hu
  obtain ⟨rfl, _⟩ := Ats_nil.1 h
  obtain ⟨s, rfl, hs, w1⟩ := At_str.1 h1
  cases hs
  obtain ⟨s, rfl, hs, w2⟩ := At_str.1 h2
  cases hs
  exact ⟨rfl, w1, w2⟩
 ·rintro ⟨rfl, h1, h2⟩
  exact At_st.2 ⟨_, rfl, Ats_cons.2 ⟨[_], _, _, _, rfl, rfl, At_str.2 ⟨_, rfl, rfl, h1⟩, Ats_cons.2 ⟨[_], _, _, _, rfl, rfl, At_str.2 ⟨_, rfl, rfl, h2⟩, Ats_nil.2 ⟨rfl, rfl⟩⟩⟩⟩
theorem rdn_typed {cs : List V} {u : U} (h : At H shRdn cs u) : ∃ r : PRdn, u = r.u := by
 replace h := At_st.1 h
 obtain ⟨us, rfl, h⟩ := h
 obtain ⟨c1, c2, u1, us1, rfl, rfl, h1, h⟩ := Ats_cons.1 h
 obtain ⟨c3, c4, u2, us2, rfl, rfl, h2, h⟩ := Ats_cons.1 h
 obtain ⟨rfl, rfl⟩ := Ats_nil.1 h
 obtain ⟨s, rfl, rfl, w1⟩ := At_str.1 h1
 obtain ⟨t, rfl, rfl, w2⟩ := At_str.1 h2
 exact ⟨⟨s, t⟩, rfl⟩
theorem attr_at {cs : List V} {a : PAttr} : At H shAttr cs a.u ↔ ∃ v, cs = [.str a.name, v] ∧ a.name.length ≤ maxLen ∧ AStrs H v a.vals := by
 constructor
 ·intro h
  obtain ⟨us, hu, h⟩ := At_st.1 h
  cases hu
  obtain ⟨c1, c2, u1, us1, rfl, hu, h1, h⟩ := Ats_cons.1 h
  cases hu
  obtain ⟨c3, c4, u2, us2, rfl, hu, h2, h⟩ := Ats_cons.1 h
  cases hu
  obtain ⟨rfl, _⟩ := Ats_nil.1 h
  obtain ⟨s, rfl, hs, w1⟩ := At_str.1 h1
  cases hs
  obtain ⟨v, _, rfl, _⟩ := At_slice.1 h2
  exact ⟨v, rfl, w1, h2⟩
 ·rintro ⟨v, rfl, h1, h2⟩
  exact At_st.2 ⟨_, rfl, Ats_cons.2 ⟨[_], _, _, _, rfl, rfl, At_str.2 ⟨_, rfl, rfl, h1⟩, Ats_cons.2 ⟨[_], _, _, _, rfl, rfl, h2, Ats_nil.2 ⟨rfl, rfl⟩⟩⟩⟩
theorem attr_typed {cs : List V} {u : U} (h : At H shAttr cs u) : ∃ r : PAttr, u = r.u := by
 replace h := At_st.1 h
 obtain ⟨us, rfl, h⟩ := h
 obtain ⟨c1, c2, u1, us1, rfl, rfl, h1, h⟩ := Ats_cons.1 h
 obtain ⟨c3, c4, u2, us2, rfl, rfl, h2, h⟩ := Ats_cons.1 h
 obtain ⟨rfl, rfl⟩ := Ats_nil.1 h
 obtain ⟨s, rfl, rfl, w1⟩ := At_str.1 h1
 obtain ⟨v, l, rfl, rfl, _⟩ := strs_typed h2
 exact ⟨⟨s, l⟩, rfl⟩
theorem class_at {cs : List V} {c : PClass} : At H shClass cs c.u ↔ ∃ v1 v2 v3, cs = [.str c.name, v1, v2, v3] ∧ c.name.length ≤ maxLen ∧ AStrs H v1 c.must ∧ AStrs H v2 c.may ∧ AStrs H v3 c.single := by
 constructor
 ·intro h
  obtain ⟨us, hu, h⟩ := At_st.1 h
  cases hu
  obtain ⟨c1, c2, u1, us1, rfl, hu, h1, h⟩ := Ats_cons.1 h
  cases hu
  obtain ⟨c3, c4, u2, us2, rfl, hu, h2, h⟩ := Ats_cons.1 h
  cases hu
  obtain ⟨c5, c6, u3, us3, rfl, hu, h3, h⟩ := Ats_cons.1 h
  cases hu
  obtain ⟨c7, c8, u4, us4, rfl, hu, h4, h⟩ := Ats_cons.1 h
  cases hu
  obtain ⟨rfl, _⟩ := Ats_nil.1 h
  obtain ⟨s, rfl, hs, w1⟩ := At_str.1 h1
  cases hs
  obtain ⟨v1, _, rfl, _⟩ := At_slice.1 h2
  obtain ⟨v2, _, rfl, _⟩ := At_slice.1 h3
  obtain ⟨v3, _, rfl, _⟩ := At_slice.1 h4
  exact ⟨v1, v2, v3, rfl, w1, h2, h3, h4⟩
 ·rintro ⟨v1, v2, v3, rfl, h1, h2, h3, h4⟩
  exact At_st.2 ⟨_, rfl, Ats_cons.2 ⟨[_], _, _, _, rfl, rfl, At_str.2 ⟨_, rfl, rfl, h1⟩, Ats_cons.2 ⟨[_], _, _, _, rfl, rfl, h2, Ats_cons.2 ⟨[_], _, _, _, rfl, rfl, h3, Ats_cons.2 ⟨[_], _, _, _, rfl, rfl, h4, Ats_nil.2 ⟨rfl, rfl⟩⟩⟩⟩⟩⟩
theorem class_typed {cs : List V} {u : U} (h : At H shClass cs u) : ∃ r : PClass, u = r.u := by
 replace h := At_st.1 h
 obtain ⟨us, rfl, h⟩ := h
 obtain ⟨c1, c2, u1, us1, rfl, rfl, h1, h⟩ := Ats_cons.1 h
 obtain ⟨c3, c4, u2, us2, rfl, rfl, h2, h⟩ := Ats_cons.1 h
 obtain ⟨c5, c6, u3, us3, rfl, rfl, h3, h⟩ := Ats_cons.1 h
 obtain ⟨c7, c8, u4, us4, rfl, rfl, h4, h⟩ := Ats_cons.1 h
 obtain ⟨rfl, rfl⟩ := Ats_nil.1 h
 obtain ⟨s, rfl, rfl, w1⟩ := At_str.1 h1
 obtain ⟨v, l, rfl, rfl, _⟩ := strs_typed h2
 obtain ⟨v', l', rfl, rfl, _⟩ := strs_typed h3
 obtain ⟨v'', l'', rfl, rfl, _⟩ := strs_typed h4
 exact ⟨⟨s, l, l', l''⟩, rfl⟩
theorem entry_at {cs : List V} {e : PEntry} : At H shEntry cs e.u ↔ ∃ v1 v2, cs = [v1, v2] ∧ ARdns H v1 e.dn ∧ AAttrs H v2 e.attrs := by
 constructor
 ·intro h
  obtain ⟨us, hu, h⟩ := At_st.1 h
  cases hu
  obtain ⟨c1, c2, u1, us1, rfl, hu, h1, h⟩ := Ats_cons.1 h
  cases hu
  obtain ⟨c3, c4, u2, us2, rfl, hu, h2, h⟩ := Ats_cons.1 h
  cases hu
  obtain ⟨rfl, _⟩ := Ats_nil.1 h
  obtain ⟨v1, _, rfl, _⟩ := At_slice.1 h1
  obtain ⟨v2, _, rfl, _⟩ := At_slice.1 h2
  exact ⟨v1, v2, rfl, h1, h2⟩
 ·rintro ⟨v1, v2, rfl, h1, h2⟩
  exact At_st.2 ⟨_, rfl, Ats_cons.2 ⟨[_], _, _, _, rfl, rfl, h1, Ats_cons.2 ⟨[_], _, _, _, rfl, rfl, h2, Ats_nil.2 ⟨rfl, rfl⟩⟩⟩⟩
theorem entry_typed {cs : List V} {u : U} (h : At H shEntry cs u) : ∃ r : PEntry, u = r.u := by
 replace h := At_st.1 h
 obtain ⟨us, rfl, h⟩ := h
 obtain ⟨c1, c2, u1, us1, rfl, rfl, h1, h⟩ := Ats_cons.1 h
 obtain ⟨c3, c4, u2, us2, rfl, rfl, h2, h⟩ := Ats_cons.1 h
 obtain ⟨rfl, rfl⟩ := Ats_nil.1 h
 obtain ⟨v, l, rfl, rfl, _⟩ := ASl.typed (fun _ _ => rdn_typed) h1
 obtain ⟨v', l', rfl, rfl, _⟩ := ASl.typed (fun _ _ => attr_typed) h2
 exact ⟨⟨l, l'⟩, rfl⟩
theorem strs_idx {xs : List Str} (h : AStrs H v xs) {i : Nat} {s : Str} (hx : xs[i]? = some s) : ∃ id o,
  (∀ (e s b : Nat) (z : List V) (ty : Nat → LT) (k : IntKind), (ty e).size = 1 → indexR ⟨.slice e, s, b, z⟩ ty (.val v) (.int k i) = some (.val (.ptr (some (id, o))))) ∧
  (∀ T : LT, T.one → ∀ r c, loadAt T ⟨r, c, H⟩ (.hp id o) = some (.str s)) ∧ s.length ≤ maxLen := by
 obtain ⟨id, o, own, cells, e1, e2, e3, e4⟩ := ASl.idx h hx (by decide)
 obtain ⟨t, e4, ht, e5⟩ := At_str.1 e4
 cases ht
 exact ⟨id, o, e1, load1 e2 (by simpa using cells_get e4 (j := 0) rfl), e5⟩
theorem rdns_idx {xs : List PRdn} (h : ARdns H v xs) {i : Nat} {x : PRdn} (hx : xs[i]? = some x) : ∃ id o,
  (∀ (e s b : Nat) (z : List V) (ty : Nat → LT) (k : IntKind), (ty e).size = 2 → indexR ⟨.slice e, s, b, z⟩ ty (.val v) (.int k i) = some (.val (.ptr (some (id, o))))) ∧
  (∀ T : LT, T.one → ∀ r c, loadAt T ⟨r, c, H⟩ (.hp id o) = some (.str x.attr)) ∧ (∀ T : LT, T.one → ∀ r c, loadAt T ⟨r, c, H⟩ (.hp id (o + 1)) = some (.str x.value)) ∧
  (∀ T : LT, T.many 2 → ∀ r c, loadAt T ⟨r, c, H⟩ (.hp id o) = some (.agg [.str x.attr, .str x.value])) ∧ At H shRdn [.str x.attr, .str x.value] x.u := by
 obtain ⟨id, o, own, cells, e1, e2, e3, e4⟩ := ASl.idx h hx (by decide)
 have e6 := e4
 obtain ⟨e4, e5⟩ := rdn_at.1 e4
 rw [e4] at e6
 exact ⟨id, o, e1, load1 e2 (by simpa using cells_get e4 (j := 0) rfl), load1 e2 (by simpa using cells_get e4 (j := 1) rfl), loadN e2 e3 (by decide) e4, e6⟩
theorem attrs_idx {xs : List PAttr} (h : AAttrs H v xs) {i : Nat} {x : PAttr} (hx : xs[i]? = some x) : ∃ id o w,
  (∀ (e s b : Nat) (z : List V) (ty : Nat → LT) (k : IntKind), (ty e).size = 2 → indexR ⟨.slice e, s, b, z⟩ ty (.val v) (.int k i) = some (.val (.ptr (some (id, o))))) ∧
  (∀ T : LT, T.one → ∀ r c, loadAt T ⟨r, c, H⟩ (.hp id o) = some (.str x.name)) ∧ (∀ T : LT, T.one → ∀ r c, loadAt T ⟨r, c, H⟩ (.hp id (o + 1)) = some w) ∧
  (∀ T : LT, T.many 2 → ∀ r c, loadAt T ⟨r, c, H⟩ (.hp id o) = some (.agg [.str x.name, w])) ∧ AStrs H w x.vals ∧ At H shAttr [.str x.name, w] x.u ∧ x.name.length ≤ maxLen := by
 obtain ⟨id, o, own, cells, e1, e2, e3, e4⟩ := ASl.idx h hx (by decide)
 have e6 := e4
 obtain ⟨w, e4, e7, e5⟩ := attr_at.1 e4
 rw [e4] at e6
 exact ⟨id, o, w, e1, load1 e2 (by simpa using cells_get e4 (j := 0) rfl), load1 e2 (by simpa using cells_get e4 (j := 1) rfl), loadN e2 e3 (by decide) e4, e5, e6, e7⟩
theorem classes_idx {xs : List PClass} (h : AClasses H v xs) {i : Nat} {x : PClass} (hx : xs[i]? = some x) : ∃ id o w1 w2 w3,
  (∀ (e s b : Nat) (z : List V) (ty : Nat → LT) (k : IntKind), (ty e).size = 4 → indexR ⟨.slice e, s, b, z⟩ ty (.val v) (.int k i) = some (.val (.ptr (some (id, o))))) ∧
  (∀ T : LT, T.one → ∀ r c, loadAt T ⟨r, c, H⟩ (.hp id o) = some (.str x.name)) ∧
  (∀ T : LT, T.many 4 → ∀ r c, loadAt T ⟨r, c, H⟩ (.hp id o) = some (.agg [.str x.name, w1, w2, w3])) ∧ AStrs H w1 x.must ∧ AStrs H w2 x.may ∧ AStrs H w3 x.single ∧ At H shClass [.str x.name, w1, w2, w3] x.u ∧ x.name.length ≤ maxLen := by
 obtain ⟨id, o, own, cells, e1, e2, e3, e4⟩ := ASl.idx h hx (by decide)
 have e6 := e4
 obtain ⟨w1, w2, w3, e4, e7, e8, e9, e5⟩ := class_at.1 e4
 rw [e4] at e6
 exact ⟨id, o, w1, w2, w3, e1, load1 e2 (by simpa using cells_get e4 (j := 0) rfl), loadN e2 e3 (by decide) e4, e8, e9, e5, e6, e7⟩
theorem classes_idxT {xs : List PClass} (h : AClasses H v xs) {i : Nat} {x : PClass} (hx : xs[i]? = some x) : ∃ id o w1 w2 w3,
  (∀ (e s b : Nat) (z : List V) (ty : Nat → LT) (k : IntKind), (ty e).size = 4 → indexR ⟨.slice e, s, b, z⟩ ty (.val v) (.int k i) = some (.val (.ptr (some (id, o))))) ∧
  (∀ T' : List Ob, ∀ T : LT, T.many 4 → ∀ r c, loadAt T ⟨r, c, H ++ T'⟩ (.hp id o) = some (.agg [.str x.name, w1, w2, w3])) ∧ AStrs H w1 x.must ∧ AStrs H w2 x.may ∧ AStrs H w3 x.single := by
 obtain ⟨id, o, own, cells, e1, e2, e3, e4⟩ := ASl.idx h hx (by decide)
 obtain ⟨w1, w2, w3, e4, e7, e8, e9, e5⟩ := class_at.1 e4
 exact ⟨id, o, w1, w2, w3, e1, fun T' => loadN (up_append _ _ e2) e3 (by decide) e4, e8, e9, e5⟩
end
end Go.Lite
end
