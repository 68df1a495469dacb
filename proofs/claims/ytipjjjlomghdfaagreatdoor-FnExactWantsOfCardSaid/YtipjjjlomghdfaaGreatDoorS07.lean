/- Part 07 of the proof of a law: the interpreter, its soundness, and what functions of the program compute over it. Conditions: none but those that each theorem names. -/
import Derived.Test.YtipjjjlomghdfaaGreatDoorS06
import Derived.KernelRfl

set_option linter.all false
set_option maxRecDepth 20000
set_option maxHeartbeats 40000000
section
namespace Go.Proofs.Try1
open Go Go.Lite
noncomputable def C : Ctx := ctxOf Tryz.prog tabs
variable {a : List V} {H : List Ob} {R : V → List Ob → Prop}
@[simp] theorem ty2 : C.ty 2 = ⟨.int .i64, 1, 8, [.int .i64 0]⟩ := by kernel_rfl
@[simp] theorem ty3 : C.ty 3 = ⟨.int .i64, 1, 8, [.int .i64 0]⟩ := by kernel_rfl
@[simp] theorem ty4 : C.ty 4 = ⟨.bool, 1, 1, [.bool false]⟩ := by kernel_rfl
@[simp] theorem ty5 : C.ty 5 = ⟨.int .u8, 1, 1, [.int .u8 0]⟩ := by kernel_rfl
@[simp] theorem ty9 : C.ty 9 = ⟨.str, 1, 16, [.str []]⟩ := by kernel_rfl
@[simp] theorem SN : C.ty 21 = ⟨.int .i32, 1, 4, [.int .i32 0]⟩ := by kernel_rfl
@[simp] theorem JD : C.ty 22 = ⟨.slice 189, 1, 24, [.slc none 0]⟩ := by kernel_rfl
@[simp] theorem H8 : C.ty 23 = ⟨.slice 193, 1, 24, [.slc none 0]⟩ := by kernel_rfl
@[simp] theorem SL : C.ty 25 = ⟨.struct [(0, 22), (1, 23)], 2, 48, [.slc none 0, .slc none 0]⟩ := by kernel_rfl
@[simp] theorem Jk : C.ty 34 = ⟨.slice 208, 1, 24, [.slc none 0]⟩ := by kernel_rfl
@[simp] theorem IR : C.ty 35 = ⟨.slice 155, 1, 24, [.slc none 0]⟩ := by kernel_rfl
@[simp] theorem SI : C.ty 37 = ⟨.struct [(0, 34), (1, 35)], 2, 48, [.slc none 0, .slc none 0]⟩ := by kernel_rfl
@[simp] theorem FK : C.ty 47 = ⟨.slice 180, 1, 24, [.slc none 0]⟩ := by kernel_rfl
@[simp] theorem F9 : C.ty 48 = ⟨.slice 183, 1, 24, [.slc none 0]⟩ := by kernel_rfl
@[simp] theorem H9 : C.ty 49 = ⟨.slice 186, 1, 24, [.slc none 0]⟩ := by kernel_rfl
@[simp] theorem SH : C.ty 51 = ⟨.struct [(0, 47), (1, 48), (2, 49), (3, 49), (4, 49), (5, 4)], 6, 128, [.slc none 0, .slc none 0, .slc none 0, .slc none 0, .slc none 0, .bool false]⟩ := by kernel_rfl
@[simp] theorem QZ : C.ty 54 = ⟨.slice 119, 1, 24, [.slc none 0]⟩ := by kernel_rfl
@[simp] theorem EU : C.ty 56 = ⟨.slice 202, 1, 24, [.slc none 0]⟩ := by kernel_rfl
@[simp] theorem GZ : C.ty 57 = ⟨.slice 204, 1, 24, [.slc none 0]⟩ := by kernel_rfl
@[simp] theorem GK : C.ty 58 = ⟨.slice 206, 1, 24, [.slc none 0]⟩ := by kernel_rfl
@[simp] theorem SG : C.ty 60 = ⟨.struct [(0, 56), (1, 57), (2, 58), (3, 58), (4, 58), (5, 4)], 6, 128, [.slc none 0, .slc none 0, .slc none 0, .slc none 0, .slc none 0, .bool false]⟩ := by kernel_rfl
@[simp] theorem SK : C.ty 99 = ⟨.func, 1, 8, [.nilfn]⟩ := by kernel_rfl
@[simp] theorem RU : C.ty 116 = ⟨.ptr, 1, 8, [.ptr none]⟩ := by kernel_rfl
@[simp] theorem yh : C.ty 119 = ⟨.struct [(0, 9), (1, 9), (2, 9), (3, 9), (4, 2)], 5, 72, [.str [], .str [], .str [], .str [], .int .i64 0]⟩ := by kernel_rfl
@[simp] theorem RS : C.ty 148 = ⟨.slice 9, 1, 24, [.slc none 0]⟩ := by kernel_rfl
@[simp] theorem DC : C.ty 153 = ⟨.slice 249, 1, 24, [.slc none 0]⟩ := by kernel_rfl
@[simp] theorem tX : C.ty 155 = ⟨.struct [(0, 56), (1, 153)], 2, 48, [.slc none 0, .slc none 0]⟩ := by kernel_rfl
@[simp] theorem Sj : C.ty 156 = ⟨.func, 1, 8, [.nilfn]⟩ := by kernel_rfl
@[simp] theorem mF : C.ty 180 = ⟨.struct [(0, 9), (1, 9)], 2, 32, [.str [], .str []]⟩ := by kernel_rfl
@[simp] theorem lY : C.ty 183 = ⟨.struct [(0, 2), (1, 9), (2, 9), (3, 2)], 4, 48, [.int .i64 0, .str [], .str [], .int .i64 0]⟩ := by kernel_rfl
@[simp] theorem mO : C.ty 186 = ⟨.struct [(0, 2), (1, 9), (2, 2)], 3, 32, [.int .i64 0, .str [], .int .i64 0]⟩ := by kernel_rfl
@[simp] theorem mi : C.ty 189 = ⟨.struct [(0, 9), (1, 148), (2, 148), (3, 148)], 4, 88, [.str [], .slc none 0, .slc none 0, .slc none 0]⟩ := by kernel_rfl
@[simp] theorem Dx : C.ty 191 = ⟨.slice 323, 1, 24, [.slc none 0]⟩ := by kernel_rfl
@[simp] theorem mf : C.ty 193 = ⟨.struct [(0, 47), (1, 191)], 2, 48, [.slc none 0, .slc none 0]⟩ := by kernel_rfl
@[simp] theorem oW : C.ty 202 = ⟨.struct [(0, 9), (1, 9)], 2, 32, [.str [], .str []]⟩ := by kernel_rfl
@[simp] theorem rE : C.ty 204 = ⟨.struct [(0, 2), (1, 9), (2, 9), (3, 2)], 4, 48, [.int .i64 0, .str [], .str [], .int .i64 0]⟩ := by kernel_rfl
@[simp] theorem uO : C.ty 206 = ⟨.struct [(0, 2), (1, 9), (2, 2)], 3, 32, [.int .i64 0, .str [], .int .i64 0]⟩ := by kernel_rfl
@[simp] theorem vS : C.ty 208 = ⟨.struct [(0, 9), (1, 148), (2, 148), (3, 148)], 4, 88, [.str [], .slc none 0, .slc none 0, .slc none 0]⟩ := by kernel_rfl
@[simp] theorem RQ : C.ty 212 = ⟨.ptr, 1, 8, [.ptr none]⟩ := by kernel_rfl
@[simp] theorem IL : C.ty 222 = ⟨.slice 5, 1, 24, [.slc none 0]⟩ := by kernel_rfl
@[simp] theorem SB : C.ty 242 = ⟨.func, 1, 8, [.nilfn]⟩ := by kernel_rfl
@[simp] theorem Sm : C.ty 247 = ⟨.func, 1, 8, [.nilfn]⟩ := by kernel_rfl
@[simp] theorem uG : C.ty 249 = ⟨.struct [(0, 9), (1, 148)], 2, 40, [.str [], .slc none 0]⟩ := by kernel_rfl
@[simp] theorem RV : C.ty 268 = ⟨.array 256 4, 256, 256, List.replicate 256 (.bool false)⟩ := by kernel_rfl
@[simp] theorem RN : C.ty 272 = ⟨.ptr, 1, 8, [.ptr none]⟩ := by kernel_rfl
@[simp] theorem Si : C.ty 286 = ⟨.func, 1, 8, [.nilfn]⟩ := by kernel_rfl
@[simp] theorem Sz : C.ty 291 = ⟨.slice 148, 1, 24, [.slc none 0]⟩ := by kernel_rfl
@[simp] theorem lU : C.ty 323 = ⟨.struct [(0, 9), (1, 148)], 2, 40, [.str [], .slc none 0]⟩ := by kernel_rfl
@[simp] theorem RZ : C.ty 329 = ⟨.ptr, 1, 8, [.ptr none]⟩ := by kernel_rfl
@[simp] theorem SC : C.ty 331 = ⟨.struct [(0, 58), (1, 155), (3, 3), (4, 4)], 5, 88, [.slc none 0, .slc none 0, .slc none 0, .int .i64 0, .bool false]⟩ := by kernel_rfl
@[simp] theorem RX : C.ty 337 = ⟨.slice 2, 1, 24, [.slc none 0]⟩ := by kernel_rfl
@[simp] theorem RY : C.ty 349 = ⟨.int .u64, 1, 8, [.int .u64 0]⟩ := by kernel_rfl
@[simp] theorem RP : C.ty 360 = ⟨.array 256 5, 256, 256, List.replicate 256 (.int .u8 0)⟩ := by kernel_rfl
@[simp] theorem Sr : C.ty 362 = ⟨.struct [(0, 5), (1, 5)], 2, 2, [.int .u8 0, .int .u8 0]⟩ := by kernel_rfl
@[simp] theorem Su : C.ty 363 = ⟨.array 16 362, 32, 32, List.replicate 32 (.int .u8 0)⟩ := by kernel_rfl
@[simp] theorem Sv : C.ty 378 = ⟨.func, 1, 8, [.nilfn]⟩ := by kernel_rfl
noncomputable def rH := Tryz.f4.body.getD .skip
theorem SE : Ret C 4 a H R ↔ WP C 4 rH ⟨initRegs a, 0, H⟩ (finQ C Tryz.f4 H R) := Ret_fn rfl (by kernel_rfl) Tryz.func4 rfl
@[simp] theorem SA : C.locs 4 = [2, 3, 7, 8] := by kernel_rfl
noncomputable def iw := Tryz.f13.body.getD .skip
theorem wV : Ret C 13 a H R ↔ WP C 13 iw ⟨initRegs a, 0, H⟩ (finQ C Tryz.f13 H R) := Ret_fn rfl (by kernel_rfl) Tryz.func13 rfl
@[simp] theorem Qp : C.locs 13 = [2] := by kernel_rfl
noncomputable def mY := Tryz.f14.body.getD .skip
theorem EO : Ret C 14 a H R ↔ WP C 14 mY ⟨initRegs a, 0, H⟩ (finQ C Tryz.f14 H R) := Ret_fn rfl (by kernel_rfl) Tryz.func14 rfl
@[simp] theorem QD : C.locs 14 = [2] := by kernel_rfl
noncomputable def nI := Tryz.f15.body.getD .skip
theorem QI : Ret C 15 a H R ↔ WP C 15 nI ⟨initRegs a, 0, H⟩ (finQ C Tryz.f15 H R) := Ret_fn rfl (by kernel_rfl) Tryz.func15 rfl
@[simp] theorem Ru : C.locs 15 = [2, 3] := by kernel_rfl
noncomputable def yI := Tryz.f16.body.getD .skip
theorem PZ : Ret C 16 a H R ↔ WP C 16 yI ⟨initRegs a, 0, H⟩ (finQ C Tryz.f16 H R) := Ret_fn rfl (by kernel_rfl) Tryz.func16 rfl
@[simp] theorem QY : C.locs 16 = [1, 2, 3] := by kernel_rfl
noncomputable def zH := Tryz.f17.body.getD .skip
theorem QH : Ret C 17 a H R ↔ WP C 17 zH ⟨initRegs a, 0, H⟩ (finQ C Tryz.f17 H R) := Ret_fn rfl (by kernel_rfl) Tryz.func17 rfl
@[simp] theorem QG : C.locs 17 = [1, 2, 3] := by kernel_rfl
noncomputable def nC := Tryz.f18.body.getD .skip
theorem RG : Ret C 18 a H R ↔ WP C 18 nC ⟨initRegs a, 0, H⟩ (finQ C Tryz.f18 H R) := Ret_fn rfl (by kernel_rfl) Tryz.func18 rfl
@[simp] theorem Ql : C.locs 18 = [2] := by kernel_rfl
noncomputable def xy := Tryz.f19.body.getD .skip
theorem PX : Ret C 19 a H R ↔ WP C 19 xy ⟨initRegs a, 0, H⟩ (finQ C Tryz.f19 H R) := Ret_fn rfl (by kernel_rfl) Tryz.func19 rfl
@[simp] theorem P9 : C.locs 19 = [] := by kernel_rfl
noncomputable def fM := Tryz.f20.body.getD .skip
theorem qN : Ret C 20 a H R ↔ WP C 20 fM ⟨initRegs a, 0, H⟩ (finQ C Tryz.f20 H R) := Ret_fn rfl (by kernel_rfl) Tryz.func20 rfl
@[simp] theorem Ro : C.locs 20 = [2, 3] := by kernel_rfl
noncomputable def oM := Tryz.f21.body.getD .skip
theorem EI : Ret C 21 a H R ↔ WP C 21 oM ⟨initRegs a, 0, H⟩ (finQ C Tryz.f21 H R) := Ret_fn rfl (by kernel_rfl) Tryz.func21 rfl
@[simp] theorem Qs : C.locs 21 = [2, 3] := by kernel_rfl
noncomputable def xe := Tryz.f22.body.getD .skip
theorem Q3 : Ret C 22 a H R ↔ WP C 22 xe ⟨initRegs a, 0, H⟩ (finQ C Tryz.f22 H R) := Ret_fn rfl (by kernel_rfl) Tryz.func22 rfl
@[simp] theorem P8 : C.locs 22 = [2] := by kernel_rfl
noncomputable def zO := Tryz.f23.body.getD .skip
theorem QL : Ret C 23 a H R ↔ WP C 23 zO ⟨initRegs a, 0, H⟩ (finQ C Tryz.f23 H R) := Ret_fn rfl (by kernel_rfl) Tryz.func23 rfl
@[simp] theorem Qb : C.locs 23 = [2] := by kernel_rfl
noncomputable def xq := Tryz.f24.body.getD .skip
theorem RI : Ret C 24 a H R ↔ WP C 24 xq ⟨initRegs a, 0, H⟩ (finQ C Tryz.f24 H R) := Ret_fn rfl (by kernel_rfl) Tryz.func24 rfl
@[simp] theorem RH : C.locs 24 = [] := by kernel_rfl
noncomputable def yY := Tryz.f25.body.getD .skip
theorem Rh : Ret C 25 a H R ↔ WP C 25 yY ⟨initRegs a, 0, H⟩ (finQ C Tryz.f25 H R) := Ret_fn rfl (by kernel_rfl) Tryz.func25 rfl
@[simp] theorem Qx : C.locs 25 = [] := by kernel_rfl
noncomputable def nX := Tryz.f41.body.getD .skip
theorem Rl : Ret C 41 a H R ↔ WP C 41 nX ⟨initRegs a, 0, H⟩ (finQ C Tryz.f41 H R) := Ret_fn rfl (by kernel_rfl) Tryz.func41 rfl
@[simp] theorem Qd : C.locs 41 = [1, 4] := by kernel_rfl
noncomputable def cO := Tryz.f44.body.getD .skip
theorem Hg : C.fids 44 = true := by kernel_rfl
theorem I9 : Tryz.f44.body = some cO := rfl
theorem JK : C.prim 44 = none := rfl
theorem IU : C.funcs 44 = some Tryz.f44 := Tryz.func44
theorem Ey : Ret C 44 a H R ↔ WP C 44 cO ⟨initRegs a, 0, H⟩ (finQ C Tryz.f44 H R) := Ret_fn rfl (by kernel_rfl) Tryz.func44 rfl
@[simp] theorem Em : C.locs 44 = [] := by kernel_rfl
noncomputable def oL := Tryz.f47.body.getD .skip
theorem Qk : Ret C 47 a H R ↔ WP C 47 oL ⟨initRegs a, 0, H⟩ (finQ C Tryz.f47 H R) := Ret_fn rfl (by kernel_rfl) Tryz.func47 rfl
@[simp] theorem RF : C.locs 47 = [4] := by kernel_rfl
noncomputable def ig := Tryz.f50.body.getD .skip
theorem Qy : Ret C 50 a H R ↔ WP C 50 ig ⟨initRegs a, 0, H⟩ (finQ C Tryz.f50 H R) := Ret_fn rfl (by kernel_rfl) Tryz.func50 rfl
@[simp] theorem Qo : C.locs 50 = [] := by kernel_rfl
noncomputable def lF := Tryz.f53.body.getD .skip
theorem Qj : Ret C 53 a H R ↔ WP C 53 lF ⟨initRegs a, 0, H⟩ (finQ C Tryz.f53 H R) := Ret_fn rfl (by kernel_rfl) Tryz.func53 rfl
@[simp] theorem Rj : C.locs 53 = [] := by kernel_rfl
noncomputable def xG := Tryz.f54.body.getD .skip
theorem QV : Ret C 54 a H R ↔ WP C 54 xG ⟨initRegs a, 0, H⟩ (finQ C Tryz.f54 H R) := Ret_fn rfl (by kernel_rfl) Tryz.func54 rfl
@[simp] theorem QO : C.locs 54 = [] := by kernel_rfl
noncomputable def zW := Tryz.f55.body.getD .skip
theorem Qi : Ret C 55 a H R ↔ WP C 55 zW ⟨initRegs a, 0, H⟩ (finQ C Tryz.f55 H R) := Ret_fn rfl (by kernel_rfl) Tryz.func55 rfl
@[simp] theorem Rn : C.locs 55 = [] := by kernel_rfl
noncomputable def zB := Tryz.f56.body.getD .skip
theorem Q8 : Ret C 56 a H R ↔ WP C 56 zB ⟨initRegs a, 0, H⟩ (finQ C Tryz.f56 H R) := Ret_fn rfl (by kernel_rfl) Tryz.func56 rfl
@[simp] theorem Qe : C.locs 56 = [] := by kernel_rfl
noncomputable def zg := Tryz.f57.body.getD .skip
theorem QF : Ret C 57 a H R ↔ WP C 57 zg ⟨initRegs a, 0, H⟩ (finQ C Tryz.f57 H R) := Ret_fn rfl (by kernel_rfl) Tryz.func57 rfl
@[simp] theorem QU : C.locs 57 = [] := by kernel_rfl
noncomputable def bW := Tryz.f58.body.getD .skip
theorem Qz : Ret C 58 a H R ↔ WP C 58 bW ⟨initRegs a, 0, H⟩ (finQ C Tryz.f58 H R) := Ret_fn rfl (by kernel_rfl) Tryz.func58 rfl
@[simp] theorem QW : C.locs 58 = [1] := by kernel_rfl
noncomputable def yA := Tryz.f59.body.getD .skip
theorem RD : Ret C 59 a H R ↔ WP C 59 yA ⟨initRegs a, 0, H⟩ (finQ C Tryz.f59 H R) := Ret_fn rfl (by kernel_rfl) Tryz.func59 rfl
@[simp] theorem P6 : C.locs 59 = [2, 3] := by kernel_rfl
noncomputable def oD := Tryz.f60.body.getD .skip
theorem Qa : Ret C 60 a H R ↔ WP C 60 oD ⟨initRegs a, 0, H⟩ (finQ C Tryz.f60 H R) := Ret_fn rfl (by kernel_rfl) Tryz.func60 rfl
@[simp] theorem QQ : C.locs 60 = [] := by kernel_rfl
noncomputable def yC := Tryz.f61.body.getD .skip
theorem Qm : Ret C 61 a H R ↔ WP C 61 yC ⟨initRegs a, 0, H⟩ (finQ C Tryz.f61 H R) := Ret_fn rfl (by kernel_rfl) Tryz.func61 rfl
@[simp] theorem Qq : C.locs 61 = [] := by kernel_rfl
noncomputable def Ag := Tryz.f62.body.getD .skip
theorem PW : Ret C 62 a H R ↔ WP C 62 Ag ⟨initRegs a, 0, H⟩ (finQ C Tryz.f62 H R) := Ret_fn rfl (by kernel_rfl) Tryz.func62 rfl
@[simp] theorem QK : C.locs 62 = [] := by kernel_rfl
noncomputable def zi := Tryz.f63.body.getD .skip
theorem QE : Ret C 63 a H R ↔ WP C 63 zi ⟨initRegs a, 0, H⟩ (finQ C Tryz.f63 H R) := Ret_fn rfl (by kernel_rfl) Tryz.func63 rfl
@[simp] theorem PT : C.locs 63 = [] := by kernel_rfl
noncomputable def Af := Tryz.f64.body.getD .skip
theorem QB : Ret C 64 a H R ↔ WP C 64 Af ⟨initRegs a, 0, H⟩ (finQ C Tryz.f64 H R) := Ret_fn rfl (by kernel_rfl) Tryz.func64 rfl
@[simp] theorem PU : C.locs 64 = [] := by kernel_rfl
noncomputable def eP := Tryz.f65.body.getD .skip
theorem Q4 : Ret C 65 a H R ↔ WP C 65 eP ⟨initRegs a, 0, H⟩ (finQ C Tryz.f65 H R) := Ret_fn rfl (by kernel_rfl) Tryz.func65 rfl
@[simp] theorem Rq : C.locs 65 = [1] := by kernel_rfl
noncomputable def yG := Tryz.f66.body.getD .skip
theorem Qv : Ret C 66 a H R ↔ WP C 66 yG ⟨initRegs a, 0, H⟩ (finQ C Tryz.f66 H R) := Ret_fn rfl (by kernel_rfl) Tryz.func66 rfl
@[simp] theorem QS : C.locs 66 = [2] := by kernel_rfl
noncomputable def gW := Tryz.f67.body.getD .skip
theorem wE : Ret C 67 a H R ↔ WP C 67 gW ⟨initRegs a, 0, H⟩ (finQ C Tryz.f67 H R) := Ret_fn rfl (by kernel_rfl) Tryz.func67 rfl
@[simp] theorem QR : C.locs 67 = [2, 3] := by kernel_rfl
noncomputable def lu := Tryz.f68.body.getD .skip
theorem Rx : Ret C 68 a H R ↔ WP C 68 lu ⟨initRegs a, 0, H⟩ (finQ C Tryz.f68 H R) := Ret_fn rfl (by kernel_rfl) Tryz.func68 rfl
@[simp] theorem Qg : C.locs 68 = [] := by kernel_rfl
noncomputable def xm := Tryz.f69.body.getD .skip
theorem Qr : Ret C 69 a H R ↔ WP C 69 xm ⟨initRegs a, 0, H⟩ (finQ C Tryz.f69 H R) := Ret_fn rfl (by kernel_rfl) Tryz.func69 rfl
@[simp] theorem PY : C.locs 69 = [] := by kernel_rfl
noncomputable def xQ := Tryz.f70.body.getD .skip
theorem Q9 : Ret C 70 a H R ↔ WP C 70 xQ ⟨initRegs a, 0, H⟩ (finQ C Tryz.f70 H R) := Ret_fn rfl (by kernel_rfl) Tryz.func70 rfl
@[simp] theorem Rk : C.locs 70 = [] := by kernel_rfl
noncomputable def zC := Tryz.f71.body.getD .skip
theorem P7 : Ret C 71 a H R ↔ WP C 71 zC ⟨initRegs a, 0, H⟩ (finQ C Tryz.f71 H R) := Ret_fn rfl (by kernel_rfl) Tryz.func71 rfl
@[simp] theorem QP : C.locs 71 = [] := by kernel_rfl
noncomputable def yx := Tryz.f72.body.getD .skip
theorem Rf : Ret C 72 a H R ↔ WP C 72 yx ⟨initRegs a, 0, H⟩ (finQ C Tryz.f72 H R) := Ret_fn rfl (by kernel_rfl) Tryz.func72 rfl
@[simp] theorem QJ : C.locs 72 = [] := by kernel_rfl
noncomputable def xU := Tryz.f73.body.getD .skip
theorem PS : Ret C 73 a H R ↔ WP C 73 xU ⟨initRegs a, 0, H⟩ (finQ C Tryz.f73 H R) := Ret_fn rfl (by kernel_rfl) Tryz.func73 rfl
@[simp] theorem Rz : C.locs 73 = [] := by kernel_rfl
noncomputable def yK := Tryz.f74.body.getD .skip
theorem Qu : Ret C 74 a H R ↔ WP C 74 yK ⟨initRegs a, 0, H⟩ (finQ C Tryz.f74 H R) := Ret_fn rfl (by kernel_rfl) Tryz.func74 rfl
@[simp] theorem Ry : C.locs 74 = [] := by kernel_rfl
noncomputable def yV := Tryz.f75.body.getD .skip
theorem Ri : Ret C 75 a H R ↔ WP C 75 yV ⟨initRegs a, 0, H⟩ (finQ C Tryz.f75 H R) := Ret_fn rfl (by kernel_rfl) Tryz.func75 rfl
@[simp] theorem QA : C.locs 75 = [] := by kernel_rfl
noncomputable def zS := Tryz.f76.body.getD .skip
theorem QX : Ret C 76 a H R ↔ WP C 76 zS ⟨initRegs a, 0, H⟩ (finQ C Tryz.f76 H R) := Ret_fn rfl (by kernel_rfl) Tryz.func76 rfl
@[simp] theorem QC : C.locs 76 = [] := by kernel_rfl
noncomputable def zU := Tryz.f77.body.getD .skip
theorem Qc : Ret C 77 a H R ↔ WP C 77 zU ⟨initRegs a, 0, H⟩ (finQ C Tryz.f77 H R) := Ret_fn rfl (by kernel_rfl) Tryz.func77 rfl
@[simp] theorem Rt : C.locs 77 = [] := by kernel_rfl
noncomputable def qU := Tryz.f78.body.getD .skip
theorem QN : Ret C 78 a H R ↔ WP C 78 qU ⟨initRegs a, 0, H⟩ (finQ C Tryz.f78 H R) := Ret_fn rfl (by kernel_rfl) Tryz.func78 rfl
@[simp] theorem RJ : C.locs 78 = [] := by kernel_rfl
noncomputable def nz := Tryz.f91.body.getD .skip
theorem P5 : Ret C 91 a H R ↔ WP C 91 nz ⟨initRegs a, 0, H⟩ (finQ C Tryz.f91 H R) := Ret_fn rfl (by kernel_rfl) Tryz.func91 rfl
@[simp] theorem Qw : C.locs 91 = [] := by kernel_rfl
noncomputable def iZ := Tryz.f94.body.getD .skip
theorem IM : Ret C 94 a H R ↔ WP C 94 iZ ⟨initRegs a, 0, H⟩ (finQ C Tryz.f94 H R) := Ret_fn rfl (by kernel_rfl) Tryz.func94 rfl
@[simp] theorem Qn : C.locs 94 = [] := by kernel_rfl
noncomputable def uB := Tryz.f100.body.getD .skip
theorem Jl : Ret C 100 a H R ↔ WP C 100 uB ⟨initRegs a, 0, H⟩ (finQ C Tryz.f100 H R) := Ret_fn rfl (by kernel_rfl) Tryz.func100 rfl
@[simp] theorem LX : C.locs 100 = [] := by kernel_rfl
noncomputable def iU := Tryz.f101.body.getD .skip
theorem FU : Ret C 101 a H R ↔ WP C 101 iU ⟨initRegs a, 0, H⟩ (finQ C Tryz.f101 H R) := Ret_fn rfl (by kernel_rfl) Tryz.func101 rfl
@[simp] theorem PK : C.locs 101 = [1] := by kernel_rfl
noncomputable def jZ := Tryz.f102.body.getD .skip
theorem Gp : Ret C 102 a H R ↔ WP C 102 jZ ⟨initRegs a, 0, H⟩ (finQ C Tryz.f102 H R) := Ret_fn rfl (by kernel_rfl) Tryz.func102 rfl
@[simp] theorem Nl : C.locs 102 = [3, 5, 9] := by kernel_rfl
noncomputable def tN := Tryz.f103.body.getD .skip
theorem Hm : Ret C 103 a H R ↔ WP C 103 tN ⟨initRegs a, 0, H⟩ (finQ C Tryz.f103 H R) := Ret_fn rfl (by kernel_rfl) Tryz.func103 rfl
@[simp] theorem OG : C.locs 103 = [] := by kernel_rfl
noncomputable def sQ := Tryz.f104.body.getD .skip
theorem FI : Ret C 104 a H R ↔ WP C 104 sQ ⟨initRegs a, 0, H⟩ (finQ C Tryz.f104 H R) := Ret_fn rfl (by kernel_rfl) Tryz.func104 rfl
@[simp] theorem Oi : C.locs 104 = [2] := by kernel_rfl
noncomputable def nZ := Tryz.f110.body.getD .skip
theorem F7 : Ret C 110 a H R ↔ WP C 110 nZ ⟨initRegs a, 0, H⟩ (finQ C Tryz.f110 H R) := Ret_fn rfl (by kernel_rfl) Tryz.func110 rfl
@[simp] theorem OD : C.locs 110 = [4] := by kernel_rfl
noncomputable def jP := Tryz.f111.body.getD .skip
theorem Jb : Ret C 111 a H R ↔ WP C 111 jP ⟨initRegs a, 0, H⟩ (finQ C Tryz.f111 H R) := Ret_fn rfl (by kernel_rfl) Tryz.func111 rfl
@[simp] theorem PI : C.locs 111 = [] := by kernel_rfl
noncomputable def nD := Tryz.f113.body.getD .skip
theorem Gl : Ret C 113 a H R ↔ WP C 113 nD ⟨initRegs a, 0, H⟩ (finQ C Tryz.f113 H R) := Ret_fn rfl (by kernel_rfl) Tryz.func113 rfl
@[simp] theorem Pi : C.locs 113 = [] := by kernel_rfl
noncomputable def rX := Tryz.f114.body.getD .skip
theorem Gn : Ret C 114 a H R ↔ WP C 114 rX ⟨initRegs a, 0, H⟩ (finQ C Tryz.f114 H R) := Ret_fn rfl (by kernel_rfl) Tryz.func114 rfl
@[simp] theorem Oo : C.locs 114 = [2] := by kernel_rfl
noncomputable def jA := Tryz.f115.body.getD .skip
theorem JR : Ret C 115 a H R ↔ WP C 115 jA ⟨initRegs a, 0, H⟩ (finQ C Tryz.f115 H R) := Ret_fn rfl (by kernel_rfl) Tryz.func115 rfl
@[simp] theorem Om : C.locs 115 = [] := by kernel_rfl
noncomputable def vJ := Tryz.f121.body.getD .skip
theorem GV : Ret C 121 a H R ↔ WP C 121 vJ ⟨initRegs a, 0, H⟩ (finQ C Tryz.f121 H R) := Ret_fn rfl (by kernel_rfl) Tryz.func121 rfl
@[simp] theorem KP : C.locs 121 = [] := by kernel_rfl
noncomputable def jI := Tryz.f124.body.getD .skip
theorem xJ : Ret C 124 a H R ↔ WP C 124 jI ⟨initRegs a, 0, H⟩ (finQ C Tryz.f124 H R) := Ret_fn rfl (by kernel_rfl) Tryz.func124 rfl
@[simp] theorem Oq : C.locs 124 = [2] := by kernel_rfl
noncomputable def jJ := Tryz.f125.body.getD .skip
theorem yS : Ret C 125 a H R ↔ WP C 125 jJ ⟨initRegs a, 0, H⟩ (finQ C Tryz.f125 H R) := Ret_fn rfl (by kernel_rfl) Tryz.func125 rfl
@[simp] theorem NL : C.locs 125 = [2] := by kernel_rfl
noncomputable def nT := Tryz.f126.body.getD .skip
theorem DX : Ret C 126 a H R ↔ WP C 126 nT ⟨initRegs a, 0, H⟩ (finQ C Tryz.f126 H R) := Ret_fn rfl (by kernel_rfl) Tryz.func126 rfl
@[simp] theorem MR : C.locs 126 = [2] := by kernel_rfl
noncomputable def gG := Tryz.f127.body.getD .skip
theorem pM : Ret C 127 a H R ↔ WP C 127 gG ⟨initRegs a, 0, H⟩ (finQ C Tryz.f127 H R) := Ret_fn rfl (by kernel_rfl) Tryz.func127 rfl
@[simp] theorem NI : C.locs 127 = [2] := by kernel_rfl
noncomputable def kC := Tryz.f128.body.getD .skip
theorem yN : Ret C 128 a H R ↔ WP C 128 kC ⟨initRegs a, 0, H⟩ (finQ C Tryz.f128 H R) := Ret_fn rfl (by kernel_rfl) Tryz.func128 rfl
@[simp] theorem MO : C.locs 128 = [2] := by kernel_rfl
noncomputable def uX := Tryz.f129.body.getD .skip
theorem GM : Ret C 129 a H R ↔ WP C 129 uX ⟨initRegs a, 0, H⟩ (finQ C Tryz.f129 H R) := Ret_fn rfl (by kernel_rfl) Tryz.func129 rfl
@[simp] theorem MK : C.locs 129 = [] := by kernel_rfl
noncomputable def iF := Tryz.f130.body.getD .skip
theorem Hr : Ret C 130 a H R ↔ WP C 130 iF ⟨initRegs a, 0, H⟩ (finQ C Tryz.f130 H R) := Ret_fn rfl (by kernel_rfl) Tryz.func130 rfl
@[simp] theorem PG : C.locs 130 = [] := by kernel_rfl
noncomputable def iV := Tryz.f131.body.getD .skip
theorem IP : Ret C 131 a H R ↔ WP C 131 iV ⟨initRegs a, 0, H⟩ (finQ C Tryz.f131 H R) := Ret_fn rfl (by kernel_rfl) Tryz.func131 rfl
@[simp] theorem Oy : C.locs 131 = [] := by kernel_rfl
noncomputable def uu := Tryz.f132.body.getD .skip
theorem Kq : Ret C 132 a H R ↔ WP C 132 uu ⟨initRegs a, 0, H⟩ (finQ C Tryz.f132 H R) := Ret_fn rfl (by kernel_rfl) Tryz.func132 rfl
@[simp] theorem NW : C.locs 132 = [] := by kernel_rfl
noncomputable def ui := Tryz.f133.body.getD .skip
theorem KD : Ret C 133 a H R ↔ WP C 133 ui ⟨initRegs a, 0, H⟩ (finQ C Tryz.f133 H R) := Ret_fn rfl (by kernel_rfl) Tryz.func133 rfl
@[simp] theorem Pn : C.locs 133 = [] := by kernel_rfl
noncomputable def sF := Tryz.f134.body.getD .skip
theorem Hw : Ret C 134 a H R ↔ WP C 134 sF ⟨initRegs a, 0, H⟩ (finQ C Tryz.f134 H R) := Ret_fn rfl (by kernel_rfl) Tryz.func134 rfl
@[simp] theorem MJ : C.locs 134 = [] := by kernel_rfl
noncomputable def vw := Tryz.f135.body.getD .skip
theorem Kv : Ret C 135 a H R ↔ WP C 135 vw ⟨initRegs a, 0, H⟩ (finQ C Tryz.f135 H R) := Ret_fn rfl (by kernel_rfl) Tryz.func135 rfl
@[simp] theorem Og : C.locs 135 = [] := by kernel_rfl
noncomputable def jF := Tryz.f136.body.getD .skip
theorem FX : Ret C 136 a H R ↔ WP C 136 jF ⟨initRegs a, 0, H⟩ (finQ C Tryz.f136 H R) := Ret_fn rfl (by kernel_rfl) Tryz.func136 rfl
@[simp] theorem MB : C.locs 136 = [3, 4] := by kernel_rfl
noncomputable def dA := Tryz.f137.body.getD .skip
theorem KE : Ret C 137 a H R ↔ WP C 137 dA ⟨initRegs a, 0, H⟩ (finQ C Tryz.f137 H R) := Ret_fn rfl (by kernel_rfl) Tryz.func137 rfl
@[simp] theorem LQ : C.locs 137 = [2, 3, 4, 5] := by kernel_rfl
noncomputable def uU := Tryz.f138.body.getD .skip
theorem Ib : Ret C 138 a H R ↔ WP C 138 uU ⟨initRegs a, 0, H⟩ (finQ C Tryz.f138 H R) := Ret_fn rfl (by kernel_rfl) Tryz.func138 rfl
@[simp] theorem Lm : C.locs 138 = [1, 2, 3] := by kernel_rfl
noncomputable def vN := Tryz.f139.body.getD .skip
theorem GY : Ret C 139 a H R ↔ WP C 139 vN ⟨initRegs a, 0, H⟩ (finQ C Tryz.f139 H R) := Ret_fn rfl (by kernel_rfl) Tryz.func139 rfl
@[simp] theorem Oe : C.locs 139 = [1, 2, 3] := by kernel_rfl
noncomputable def su := Tryz.f140.body.getD .skip
theorem Ku : Ret C 140 a H R ↔ WP C 140 su ⟨initRegs a, 0, H⟩ (finQ C Tryz.f140 H R) := Ret_fn rfl (by kernel_rfl) Tryz.func140 rfl
@[simp] theorem KY : C.locs 140 = [1, 2, 3] := by kernel_rfl
noncomputable def vC := Tryz.f141.body.getD .skip
theorem JM : Ret C 141 a H R ↔ WP C 141 vC ⟨initRegs a, 0, H⟩ (finQ C Tryz.f141 H R) := Ret_fn rfl (by kernel_rfl) Tryz.func141 rfl
@[simp] theorem Ns : C.locs 141 = [1, 2, 3] := by kernel_rfl
noncomputable def uK := Tryz.f142.body.getD .skip
theorem JJ : Ret C 142 a H R ↔ WP C 142 uK ⟨initRegs a, 0, H⟩ (finQ C Tryz.f142 H R) := Ret_fn rfl (by kernel_rfl) Tryz.func142 rfl
@[simp] theorem NK : C.locs 142 = [1, 2, 3] := by kernel_rfl
noncomputable def jM := Tryz.f143.body.getD .skip
theorem Fh : Ret C 143 a H R ↔ WP C 143 jM ⟨initRegs a, 0, H⟩ (finQ C Tryz.f143 H R) := Ret_fn rfl (by kernel_rfl) Tryz.func143 rfl
@[simp] theorem Lt : C.locs 143 = [] := by kernel_rfl
noncomputable def gu := Tryz.f144.body.getD .skip
theorem JL : Ret C 144 a H R ↔ WP C 144 gu ⟨initRegs a, 0, H⟩ (finQ C Tryz.f144 H R) := Ret_fn rfl (by kernel_rfl) Tryz.func144 rfl
@[simp] theorem Ll : C.locs 144 = [] := by kernel_rfl
noncomputable def gQ := Tryz.f145.body.getD .skip
theorem FN : Ret C 145 a H R ↔ WP C 145 gQ ⟨initRegs a, 0, H⟩ (finQ C Tryz.f145 H R) := Ret_fn rfl (by kernel_rfl) Tryz.func145 rfl
@[simp] theorem NP : C.locs 145 = [] := by kernel_rfl
noncomputable def ou := Tryz.f146.body.getD .skip
theorem Gm : Ret C 146 a H R ↔ WP C 146 ou ⟨initRegs a, 0, H⟩ (finQ C Tryz.f146 H R) := Ret_fn rfl (by kernel_rfl) Tryz.func146 rfl
@[simp] theorem N8 : C.locs 146 = [] := by kernel_rfl
noncomputable def uk := Tryz.f147.body.getD .skip
theorem I4 : Ret C 147 a H R ↔ WP C 147 uk ⟨initRegs a, 0, H⟩ (finQ C Tryz.f147 H R) := Ret_fn rfl (by kernel_rfl) Tryz.func147 rfl
@[simp] theorem NM : C.locs 147 = [] := by kernel_rfl
noncomputable def tK := Tryz.f148.body.getD .skip
theorem Ij : Ret C 148 a H R ↔ WP C 148 tK ⟨initRegs a, 0, H⟩ (finQ C Tryz.f148 H R) := Ret_fn rfl (by kernel_rfl) Tryz.func148 rfl
@[simp] theorem Nr : C.locs 148 = [5] := by kernel_rfl
noncomputable def rY := Tryz.f149.body.getD .skip
theorem FQ : Ret C 149 a H R ↔ WP C 149 rY ⟨initRegs a, 0, H⟩ (finQ C Tryz.f149 H R) := Ret_fn rfl (by kernel_rfl) Tryz.func149 rfl
@[simp] theorem MC : C.locs 149 = [5] := by kernel_rfl
noncomputable def vP := Tryz.f150.body.getD .skip
theorem J5 : Ret C 150 a H R ↔ WP C 150 vP ⟨initRegs a, 0, H⟩ (finQ C Tryz.f150 H R) := Ret_fn rfl (by kernel_rfl) Tryz.func150 rfl
@[simp] theorem Po : C.locs 150 = [5] := by kernel_rfl
noncomputable def jK := Tryz.f151.body.getD .skip
theorem F8 : Ret C 151 a H R ↔ WP C 151 jK ⟨initRegs a, 0, H⟩ (finQ C Tryz.f151 H R) := Ret_fn rfl (by kernel_rfl) Tryz.func151 rfl
@[simp] theorem OW : C.locs 151 = [3] := by kernel_rfl
noncomputable def di := Tryz.f152.body.getD .skip
theorem FD : Ret C 152 a H R ↔ WP C 152 di ⟨initRegs a, 0, H⟩ (finQ C Tryz.f152 H R) := Ret_fn rfl (by kernel_rfl) Tryz.func152 rfl
@[simp] theorem Nq : C.locs 152 = [2, 4] := by kernel_rfl
noncomputable def jD := Tryz.f153.body.getD .skip
theorem zI : Ret C 153 a H R ↔ WP C 153 jD ⟨initRegs a, 0, H⟩ (finQ C Tryz.f153 H R) := Ret_fn rfl (by kernel_rfl) Tryz.func153 rfl
@[simp] theorem KJ : C.locs 153 = [2, 3] := by kernel_rfl
noncomputable def gq := Tryz.f154.body.getD .skip
theorem pW : Ret C 154 a H R ↔ WP C 154 gq ⟨initRegs a, 0, H⟩ (finQ C Tryz.f154 H R) := Ret_fn rfl (by kernel_rfl) Tryz.func154 rfl
@[simp] theorem MZ : C.locs 154 = [2, 3] := by kernel_rfl
noncomputable def iH := Tryz.f155.body.getD .skip
theorem sG : Ret C 155 a H R ↔ WP C 155 iH ⟨initRegs a, 0, H⟩ (finQ C Tryz.f155 H R) := Ret_fn rfl (by kernel_rfl) Tryz.func155 rfl
@[simp] theorem Oj : C.locs 155 = [2, 3] := by kernel_rfl
noncomputable def gB := Tryz.f156.body.getD .skip
theorem qw : Ret C 156 a H R ↔ WP C 156 gB ⟨initRegs a, 0, H⟩ (finQ C Tryz.f156 H R) := Ret_fn rfl (by kernel_rfl) Tryz.func156 rfl
@[simp] theorem MW : C.locs 156 = [2, 3] := by kernel_rfl
noncomputable def kw := Tryz.f157.body.getD .skip
theorem zQ : Ret C 157 a H R ↔ WP C 157 kw ⟨initRegs a, 0, H⟩ (finQ C Tryz.f157 H R) := Ret_fn rfl (by kernel_rfl) Tryz.func157 rfl
@[simp] theorem OX : C.locs 157 = [2, 3] := by kernel_rfl
noncomputable def ug := Tryz.f158.body.getD .skip
theorem Hq : Ret C 158 a H R ↔ WP C 158 ug ⟨initRegs a, 0, H⟩ (finQ C Tryz.f158 H R) := Ret_fn rfl (by kernel_rfl) Tryz.func158 rfl
@[simp] theorem NQ : C.locs 158 = [] := by kernel_rfl
noncomputable def uV := Tryz.f159.body.getD .skip
theorem J4 : Ret C 159 a H R ↔ WP C 159 uV ⟨initRegs a, 0, H⟩ (finQ C Tryz.f159 H R) := Ret_fn rfl (by kernel_rfl) Tryz.func159 rfl
@[simp] theorem O3 : C.locs 159 = [] := by kernel_rfl
noncomputable def nJ := Tryz.f179.body.getD .skip
theorem Gu : Ret C 179 a H R ↔ WP C 179 nJ ⟨initRegs a, 0, H⟩ (finQ C Tryz.f179 H R) := Ret_fn rfl (by kernel_rfl) Tryz.func179 rfl
@[simp] theorem Ls : C.locs 179 = [] := by kernel_rfl
noncomputable def bH := Tryz.f181.body.getD .skip
theorem Hf : Ret C 181 a H R ↔ WP C 181 bH ⟨initRegs a, 0, H⟩ (finQ C Tryz.f181 H R) := Ret_fn rfl (by kernel_rfl) Tryz.func181 rfl
@[simp] theorem OT : C.locs 181 = [1] := by kernel_rfl
noncomputable def vF := Tryz.f182.body.getD .skip
theorem Ji : Ret C 182 a H R ↔ WP C 182 vF ⟨initRegs a, 0, H⟩ (finQ C Tryz.f182 H R) := Ret_fn rfl (by kernel_rfl) Tryz.func182 rfl
@[simp] theorem LJ : C.locs 182 = [] := by kernel_rfl
noncomputable def jQ := Tryz.f183.body.getD .skip
theorem Iw : Ret C 183 a H R ↔ WP C 183 jQ ⟨initRegs a, 0, H⟩ (finQ C Tryz.f183 H R) := Ret_fn rfl (by kernel_rfl) Tryz.func183 rfl
@[simp] theorem N7 : C.locs 183 = [3, 4] := by kernel_rfl
noncomputable def jR := Tryz.f184.body.getD .skip
theorem Jq : Ret C 184 a H R ↔ WP C 184 jR ⟨initRegs a, 0, H⟩ (finQ C Tryz.f184 H R) := Ret_fn rfl (by kernel_rfl) Tryz.func184 rfl
@[simp] theorem Ot : C.locs 184 = [3] := by kernel_rfl
noncomputable def ut := Tryz.f185.body.getD .skip
theorem Gh : Ret C 185 a H R ↔ WP C 185 ut ⟨initRegs a, 0, H⟩ (finQ C Tryz.f185 H R) := Ret_fn rfl (by kernel_rfl) Tryz.func185 rfl
@[simp] theorem Px : C.locs 185 = [2] := by kernel_rfl
noncomputable def bg := Tryz.f186.body.getD .skip
theorem DR : C.fids 186 = true := by kernel_rfl
theorem DV : Tryz.f186.body = some bg := rfl
theorem D8 : C.prim 186 = none := rfl
theorem DF : C.funcs 186 = some Tryz.f186 := Tryz.func186
theorem yu : Ret C 186 a H R ↔ WP C 186 bg ⟨initRegs a, 0, H⟩ (finQ C Tryz.f186 H R) := Ret_fn rfl (by kernel_rfl) Tryz.func186 rfl
@[simp] theorem BR : C.locs 186 = [] := by kernel_rfl
noncomputable def uZ := Tryz.f187.body.getD .skip
theorem J3 : Ret C 187 a H R ↔ WP C 187 uZ ⟨initRegs a, 0, H⟩ (finQ C Tryz.f187 H R) := Ret_fn rfl (by kernel_rfl) Tryz.func187 rfl
@[simp] theorem MI : C.locs 187 = [] := by kernel_rfl
noncomputable def sU := Tryz.f192.body.getD .skip
theorem Ie : Ret C 192 a H R ↔ WP C 192 sU ⟨initRegs a, 0, H⟩ (finQ C Tryz.f192 H R) := Ret_fn rfl (by kernel_rfl) Tryz.func192 rfl
@[simp] theorem KZ : C.locs 192 = [] := by kernel_rfl
noncomputable def sH := Tryz.f194.body.getD .skip
theorem H7 : Ret C 194 a H R ↔ WP C 194 sH ⟨initRegs a, 0, H⟩ (finQ C Tryz.f194 H R) := Ret_fn rfl (by kernel_rfl) Tryz.func194 rfl
@[simp] theorem Oh : C.locs 194 = [1] := by kernel_rfl
noncomputable def um := Tryz.f195.body.getD .skip
theorem Ja : Ret C 195 a H R ↔ WP C 195 um ⟨initRegs a, 0, H⟩ (finQ C Tryz.f195 H R) := Ret_fn rfl (by kernel_rfl) Tryz.func195 rfl
@[simp] theorem Nv : C.locs 195 = [] := by kernel_rfl
noncomputable def iQ := Tryz.f196.body.getD .skip
theorem IJ : Ret C 196 a H R ↔ WP C 196 iQ ⟨initRegs a, 0, H⟩ (finQ C Tryz.f196 H R) := Ret_fn rfl (by kernel_rfl) Tryz.func196 rfl
@[simp] theorem LU : C.locs 196 = [1, 4] := by kernel_rfl
noncomputable def jB := Tryz.f197.body.getD .skip
theorem Jv : Ret C 197 a H R ↔ WP C 197 jB ⟨initRegs a, 0, H⟩ (finQ C Tryz.f197 H R) := Ret_fn rfl (by kernel_rfl) Tryz.func197 rfl
@[simp] theorem O1 : C.locs 197 = [5, 8] := by kernel_rfl
noncomputable def aZ := Tryz.f199.body.getD .skip
theorem D6 : C.fids 199 = true := by kernel_rfl
theorem CJ : Tryz.f199.body = some aZ := rfl
theorem Ee : C.prim 199 = none := rfl
theorem Dz : C.funcs 199 = some Tryz.f199 := Tryz.func199
theorem yD : Ret C 199 a H R ↔ WP C 199 aZ ⟨initRegs a, 0, H⟩ (finQ C Tryz.f199 H R) := Ret_fn rfl (by kernel_rfl) Tryz.func199 rfl
@[simp] theorem Ce : C.locs 199 = [] := by kernel_rfl
noncomputable def rO := Tryz.f200.body.getD .skip
theorem JF : Ret C 200 a H R ↔ WP C 200 rO ⟨initRegs a, 0, H⟩ (finQ C Tryz.f200 H R) := Ret_fn rfl (by kernel_rfl) Tryz.func200 rfl
@[simp] theorem MF : C.locs 200 = [] := by kernel_rfl
noncomputable def vM := Tryz.f201.body.getD .skip
theorem Ii : Ret C 201 a H R ↔ WP C 201 vM ⟨initRegs a, 0, H⟩ (finQ C Tryz.f201 H R) := Ret_fn rfl (by kernel_rfl) Tryz.func201 rfl
@[simp] theorem Pv : C.locs 201 = [] := by kernel_rfl
noncomputable def uM := Tryz.f203.body.getD .skip
theorem Jt : Ret C 203 a H R ↔ WP C 203 uM ⟨initRegs a, 0, H⟩ (finQ C Tryz.f203 H R) := Ret_fn rfl (by kernel_rfl) Tryz.func203 rfl
@[simp] theorem O0 : C.locs 203 = [] := by kernel_rfl
@[simp] theorem PM : C.locs 207 = [] := by kernel_rfl
@[simp] theorem Ou : C.locs 208 = [] := by kernel_rfl
noncomputable def uF := Tryz.f209.body.getD .skip
theorem Gv : Ret C 209 a H R ↔ WP C 209 uF ⟨initRegs a, 0, H⟩ (finQ C Tryz.f209 H R) := Ret_fn rfl (by kernel_rfl) Tryz.func209 rfl
@[simp] theorem Ny : C.locs 209 = [2] := by kernel_rfl
noncomputable def sK := Tryz.f210.body.getD .skip
theorem Ht : Ret C 210 a H R ↔ WP C 210 sK ⟨initRegs a, 0, H⟩ (finQ C Tryz.f210 H R) := Ret_fn rfl (by kernel_rfl) Tryz.func210 rfl
@[simp] theorem PE : C.locs 210 = [] := by kernel_rfl
noncomputable def tJ := Tryz.f211.body.getD .skip
theorem Jm : Ret C 211 a H R ↔ WP C 211 tJ ⟨initRegs a, 0, H⟩ (finQ C Tryz.f211 H R) := Ret_fn rfl (by kernel_rfl) Tryz.func211 rfl
@[simp] theorem KN : C.locs 211 = [] := by kernel_rfl
@[simp] theorem Pq : C.locs 212 = [] := by kernel_rfl
@[simp] theorem KU : C.locs 213 = [] := by kernel_rfl
noncomputable def mX := Tryz.f214.body.getD .skip
theorem JA : Ret C 214 a H R ↔ WP C 214 mX ⟨initRegs a, 0, H⟩ (finQ C Tryz.f214 H R) := Ret_fn rfl (by kernel_rfl) Tryz.func214 rfl
@[simp] theorem Nw : C.locs 214 = [] := by kernel_rfl
noncomputable def uJ := Tryz.f216.body.getD .skip
theorem FV : Ret C 216 a H R ↔ WP C 216 uJ ⟨initRegs a, 0, H⟩ (finQ C Tryz.f216 H R) := Ret_fn rfl (by kernel_rfl) Tryz.func216 rfl
@[simp] theorem NZ : C.locs 216 = [] := by kernel_rfl
noncomputable def aT := Tryz.f217.body.getD .skip
theorem DN : C.fids 217 = true := by kernel_rfl
theorem Dp : Tryz.f217.body = some aT := rfl
theorem DT : C.prim 217 = none := rfl
theorem Dn : C.funcs 217 = some Tryz.f217 := Tryz.func217
theorem yz : Ret C 217 a H R ↔ WP C 217 aT ⟨initRegs a, 0, H⟩ (finQ C Tryz.f217 H R) := Ret_fn rfl (by kernel_rfl) Tryz.func217 rfl
@[simp] theorem Bd : C.locs 217 = [] := by kernel_rfl
noncomputable def gz := Tryz.f218.body.getD .skip
theorem Dv : Ret C 218 a H R ↔ WP C 218 gz ⟨initRegs a, 0, H⟩ (finQ C Tryz.f218 H R) := Ret_fn rfl (by kernel_rfl) Tryz.func218 rfl
@[simp] theorem Ph : C.locs 218 = [] := by kernel_rfl
noncomputable def gy := Tryz.f219.body.getD .skip
theorem Dy : Ret C 219 a H R ↔ WP C 219 gy ⟨initRegs a, 0, H⟩ (finQ C Tryz.f219 H R) := Ret_fn rfl (by kernel_rfl) Tryz.func219 rfl
@[simp] theorem LW : C.locs 219 = [] := by kernel_rfl
noncomputable def iK := Tryz.f220.body.getD .skip
theorem GX : Ret C 220 a H R ↔ WP C 220 iK ⟨initRegs a, 0, H⟩ (finQ C Tryz.f220 H R) := Ret_fn rfl (by kernel_rfl) Tryz.func220 rfl
@[simp] theorem NR : C.locs 220 = [1] := by kernel_rfl
noncomputable def uT := Tryz.f221.body.getD .skip
theorem IB : Ret C 221 a H R ↔ WP C 221 uT ⟨initRegs a, 0, H⟩ (finQ C Tryz.f221 H R) := Ret_fn rfl (by kernel_rfl) Tryz.func221 rfl
@[simp] theorem O8 : C.locs 221 = [] := by kernel_rfl
noncomputable def jy := Tryz.f222.body.getD .skip
theorem JZ : Ret C 222 a H R ↔ WP C 222 jy ⟨initRegs a, 0, H⟩ (finQ C Tryz.f222 H R) := Ret_fn rfl (by kernel_rfl) Tryz.func222 rfl
@[simp] theorem NY : C.locs 222 = [6, 10] := by kernel_rfl
noncomputable def nV := Tryz.f223.body.getD .skip
theorem Il : Ret C 223 a H R ↔ WP C 223 nV ⟨initRegs a, 0, H⟩ (finQ C Tryz.f223 H R) := Ret_fn rfl (by kernel_rfl) Tryz.func223 rfl
@[simp] theorem KL : C.locs 223 = [] := by kernel_rfl
noncomputable def uf := Tryz.f224.body.getD .skip
theorem Ff : Ret C 224 a H R ↔ WP C 224 uf ⟨initRegs a, 0, H⟩ (finQ C Tryz.f224 H R) := Ret_fn rfl (by kernel_rfl) Tryz.func224 rfl
@[simp] theorem Mc : C.locs 224 = [] := by kernel_rfl
noncomputable def rD := Tryz.f225.body.getD .skip
theorem Js : Ret C 225 a H R ↔ WP C 225 rD ⟨initRegs a, 0, H⟩ (finQ C Tryz.f225 H R) := Ret_fn rfl (by kernel_rfl) Tryz.func225 rfl
@[simp] theorem MN : C.locs 225 = [3] := by kernel_rfl
noncomputable def jU := Tryz.f226.body.getD .skip
theorem Ig : Ret C 226 a H R ↔ WP C 226 jU ⟨initRegs a, 0, H⟩ (finQ C Tryz.f226 H R) := Ret_fn rfl (by kernel_rfl) Tryz.func226 rfl
@[simp] theorem O7 : C.locs 226 = [] := by kernel_rfl
noncomputable def vH := Tryz.f227.body.getD .skip
theorem Ip : Ret C 227 a H R ↔ WP C 227 vH ⟨initRegs a, 0, H⟩ (finQ C Tryz.f227 H R) := Ret_fn rfl (by kernel_rfl) Tryz.func227 rfl
@[simp] theorem Md : C.locs 227 = [] := by kernel_rfl
noncomputable def vG := Tryz.f228.body.getD .skip
theorem IE : Ret C 228 a H R ↔ WP C 228 vG ⟨initRegs a, 0, H⟩ (finQ C Tryz.f228 H R) := Ret_fn rfl (by kernel_rfl) Tryz.func228 rfl
@[simp] theorem KW : C.locs 228 = [] := by kernel_rfl
noncomputable def uS := Tryz.f229.body.getD .skip
theorem Iz : Ret C 229 a H R ↔ WP C 229 uS ⟨initRegs a, 0, H⟩ (finQ C Tryz.f229 H R) := Ret_fn rfl (by kernel_rfl) Tryz.func229 rfl
@[simp] theorem Na : C.locs 229 = [1] := by kernel_rfl
noncomputable def jG := Tryz.f230.body.getD .skip
theorem JO : Ret C 230 a H R ↔ WP C 230 jG ⟨initRegs a, 0, H⟩ (finQ C Tryz.f230 H R) := Ret_fn rfl (by kernel_rfl) Tryz.func230 rfl
@[simp] theorem OQ : C.locs 230 = [1] := by kernel_rfl
noncomputable def ae := Tryz.f231.body.getD .skip
theorem mV : Ret C 231 a H R ↔ WP C 231 ae ⟨initRegs a, 0, H⟩ (finQ C Tryz.f231 H R) := Ret_fn rfl (by kernel_rfl) Tryz.func231 rfl
@[simp] theorem Nc : C.locs 231 = [4] := by kernel_rfl
noncomputable def iP := Tryz.f232.body.getD .skip
theorem DK : Ret C 232 a H R ↔ WP C 232 iP ⟨initRegs a, 0, H⟩ (finQ C Tryz.f232 H R) := Ret_fn rfl (by kernel_rfl) Tryz.func232 rfl
@[simp] theorem NC : C.locs 232 = [] := by kernel_rfl
noncomputable def tZ := Tryz.f233.body.getD .skip
theorem JI : Ret C 233 a H R ↔ WP C 233 tZ ⟨initRegs a, 0, H⟩ (finQ C Tryz.f233 H R) := Ret_fn rfl (by kernel_rfl) Tryz.func233 rfl
@[simp] theorem ND : C.locs 233 = [] := by kernel_rfl
noncomputable def nG := Tryz.f234.body.getD .skip
theorem Ef : Ret C 234 a H R ↔ WP C 234 nG ⟨initRegs a, 0, H⟩ (finQ C Tryz.f234 H R) := Ret_fn rfl (by kernel_rfl) Tryz.func234 rfl
@[simp] theorem MH : C.locs 234 = [] := by kernel_rfl
noncomputable def kD := Tryz.f235.body.getD .skip
theorem Ha : Ret C 235 a H R ↔ WP C 235 kD ⟨initRegs a, 0, H⟩ (finQ C Tryz.f235 H R) := Ret_fn rfl (by kernel_rfl) Tryz.func235 rfl
@[simp] theorem OC : C.locs 235 = [] := by kernel_rfl
noncomputable def jS := Tryz.f236.body.getD .skip
theorem I5 : Ret C 236 a H R ↔ WP C 236 jS ⟨initRegs a, 0, H⟩ (finQ C Tryz.f236 H R) := Ret_fn rfl (by kernel_rfl) Tryz.func236 rfl
@[simp] theorem PO : C.locs 236 = [] := by kernel_rfl
noncomputable def nU := Tryz.f237.body.getD .skip
theorem J7 : Ret C 237 a H R ↔ WP C 237 nU ⟨initRegs a, 0, H⟩ (finQ C Tryz.f237 H R) := Ret_fn rfl (by kernel_rfl) Tryz.func237 rfl
@[simp] theorem OV : C.locs 237 = [8] := by kernel_rfl
noncomputable def rP := Tryz.f238.body.getD .skip
theorem JX : Ret C 238 a H R ↔ WP C 238 rP ⟨initRegs a, 0, H⟩ (finQ C Tryz.f238 H R) := Ret_fn rfl (by kernel_rfl) Tryz.func238 rfl
@[simp] theorem MQ : C.locs 238 = [] := by kernel_rfl
noncomputable def sN := Tryz.f239.body.getD .skip
theorem J9 : Ret C 239 a H R ↔ WP C 239 sN ⟨initRegs a, 0, H⟩ (finQ C Tryz.f239 H R) := Ret_fn rfl (by kernel_rfl) Tryz.func239 rfl
@[simp] theorem MV : C.locs 239 = [5] := by kernel_rfl
noncomputable def jX := Tryz.f240.body.getD .skip
theorem Gi : Ret C 240 a H R ↔ WP C 240 jX ⟨initRegs a, 0, H⟩ (finQ C Tryz.f240 H R) := Ret_fn rfl (by kernel_rfl) Tryz.func240 rfl
@[simp] theorem Py : C.locs 240 = [] := by kernel_rfl
noncomputable def sJ := Tryz.f241.body.getD .skip
theorem Ky : Ret C 241 a H R ↔ WP C 241 sJ ⟨initRegs a, 0, H⟩ (finQ C Tryz.f241 H R) := Ret_fn rfl (by kernel_rfl) Tryz.func241 rfl
@[simp] theorem LP : C.locs 241 = [] := by kernel_rfl
noncomputable def kG := Tryz.f248.body.getD .skip
theorem Gf : Ret C 248 a H R ↔ WP C 248 kG ⟨initRegs a, 0, H⟩ (finQ C Tryz.f248 H R) := Ret_fn rfl (by kernel_rfl) Tryz.func248 rfl
@[simp] theorem OB : C.locs 248 = [] := by kernel_rfl
noncomputable def uq := Tryz.f259.body.getD .skip
theorem JB : Ret C 259 a H R ↔ WP C 259 uq ⟨initRegs a, 0, H⟩ (finQ C Tryz.f259 H R) := Ret_fn rfl (by kernel_rfl) Tryz.func259 rfl
@[simp] theorem KX : C.locs 259 = [] := by kernel_rfl
noncomputable def nS := Tryz.f260.body.getD .skip
theorem JP : Ret C 260 a H R ↔ WP C 260 nS ⟨initRegs a, 0, H⟩ (finQ C Tryz.f260 H R) := Ret_fn rfl (by kernel_rfl) Tryz.func260 rfl
@[simp] theorem LV : C.locs 260 = [2] := by kernel_rfl
noncomputable def tV := Tryz.f261.body.getD .skip
theorem Ic : Ret C 261 a H R ↔ WP C 261 tV ⟨initRegs a, 0, H⟩ (finQ C Tryz.f261 H R) := Ret_fn rfl (by kernel_rfl) Tryz.func261 rfl
@[simp] theorem LK : C.locs 261 = [] := by kernel_rfl
noncomputable def uQ := Tryz.f262.body.getD .skip
theorem Iu : Ret C 262 a H R ↔ WP C 262 uQ ⟨initRegs a, 0, H⟩ (finQ C Tryz.f262 H R) := Ret_fn rfl (by kernel_rfl) Tryz.func262 rfl
@[simp] theorem OE : C.locs 262 = [] := by kernel_rfl
noncomputable def eY := Tryz.f263.body.getD .skip
theorem CY : C.fids 263 = true := by kernel_rfl
theorem D7 : Tryz.f263.body = some eY := rfl
theorem Eh : C.prim 263 = none := rfl
theorem Dw : C.funcs 263 = some Tryz.f263 := Tryz.func263
theorem y8 : Ret C 263 a H R ↔ WP C 263 eY ⟨initRegs a, 0, H⟩ (finQ C Tryz.f263 H R) := Ret_fn rfl (by kernel_rfl) Tryz.func263 rfl
@[simp] theorem Bq : C.locs 263 = [] := by kernel_rfl
noncomputable def nM := Tryz.f264.body.getD .skip
theorem Je : Ret C 264 a H R ↔ WP C 264 nM ⟨initRegs a, 0, H⟩ (finQ C Tryz.f264 H R) := Ret_fn rfl (by kernel_rfl) Tryz.func264 rfl
@[simp] theorem Me : C.locs 264 = [] := by kernel_rfl
noncomputable def rM := Tryz.f265.body.getD .skip
theorem Fq : Ret C 265 a H R ↔ WP C 265 rM ⟨initRegs a, 0, H⟩ (finQ C Tryz.f265 H R) := Ret_fn rfl (by kernel_rfl) Tryz.func265 rfl
@[simp] theorem NE : C.locs 265 = [] := by kernel_rfl
noncomputable def jL := Tryz.f266.body.getD .skip
theorem IK : Ret C 266 a H R ↔ WP C 266 jL ⟨initRegs a, 0, H⟩ (finQ C Tryz.f266 H R) := Ret_fn rfl (by kernel_rfl) Tryz.func266 rfl
@[simp] theorem KT : C.locs 266 = [1] := by kernel_rfl
noncomputable def nK := Tryz.f267.body.getD .skip
theorem Gj : Ret C 267 a H R ↔ WP C 267 nK ⟨initRegs a, 0, H⟩ (finQ C Tryz.f267 H R) := Ret_fn rfl (by kernel_rfl) Tryz.func267 rfl
@[simp] theorem Ol : C.locs 267 = [4] := by kernel_rfl
noncomputable def nY := Tryz.f268.body.getD .skip
theorem Ju : Ret C 268 a H R ↔ WP C 268 nY ⟨initRegs a, 0, H⟩ (finQ C Tryz.f268 H R) := Ret_fn rfl (by kernel_rfl) Tryz.func268 rfl
@[simp] theorem LZ : C.locs 268 = [2] := by kernel_rfl
noncomputable def oK := Tryz.f269.body.getD .skip
theorem GR : Ret C 269 a H R ↔ WP C 269 oK ⟨initRegs a, 0, H⟩ (finQ C Tryz.f269 H R) := Ret_fn rfl (by kernel_rfl) Tryz.func269 rfl
@[simp] theorem PQ : C.locs 269 = [] := by kernel_rfl
noncomputable def dX := Tryz.f271.body.getD .skip
theorem Dc : C.fids 271 = true := by kernel_rfl
theorem Ei : Tryz.f271.body = some dX := rfl
theorem D5 : C.prim 271 = none := rfl
theorem CP : C.funcs 271 = some Tryz.f271 := Tryz.func271
theorem zK : Ret C 271 a H R ↔ WP C 271 dX ⟨initRegs a, 0, H⟩ (finQ C Tryz.f271 H R) := Ret_fn rfl (by kernel_rfl) Tryz.func271 rfl
@[simp] theorem BK : C.locs 271 = [] := by kernel_rfl
noncomputable def eH := Tryz.f272.body.getD .skip
theorem CQ : C.fids 272 = true := by kernel_rfl
theorem DL : Tryz.f272.body = some eH := rfl
theorem CS : C.prim 272 = none := rfl
theorem Di : C.funcs 272 = some Tryz.f272 := Tryz.func272
theorem zh : Ret C 272 a H R ↔ WP C 272 eH ⟨initRegs a, 0, H⟩ (finQ C Tryz.f272 H R) := Ret_fn rfl (by kernel_rfl) Tryz.func272 rfl
@[simp] theorem AY : C.locs 272 = [] := by kernel_rfl
noncomputable def rW := Tryz.f273.body.getD .skip
theorem JH : Ret C 273 a H R ↔ WP C 273 rW ⟨initRegs a, 0, H⟩ (finQ C Tryz.f273 H R) := Ret_fn rfl (by kernel_rfl) Tryz.func273 rfl
@[simp] theorem PH : C.locs 273 = [] := by kernel_rfl
noncomputable def uN := Tryz.f274.body.getD .skip
theorem JS : Ret C 274 a H R ↔ WP C 274 uN ⟨initRegs a, 0, H⟩ (finQ C Tryz.f274 H R) := Ret_fn rfl (by kernel_rfl) Tryz.func274 rfl
@[simp] theorem O4 : C.locs 274 = [2] := by kernel_rfl
noncomputable def jW := Tryz.f275.body.getD .skip
theorem GI : Ret C 275 a H R ↔ WP C 275 jW ⟨initRegs a, 0, H⟩ (finQ C Tryz.f275 H R) := Ret_fn rfl (by kernel_rfl) Tryz.func275 rfl
@[simp] theorem O9 : C.locs 275 = [] := by kernel_rfl
noncomputable def sV := Tryz.f278.body.getD .skip
theorem FZ : Ret C 278 a H R ↔ WP C 278 sV ⟨initRegs a, 0, H⟩ (finQ C Tryz.f278 H R) := Ret_fn rfl (by kernel_rfl) Tryz.func278 rfl
@[simp] theorem PP : C.locs 278 = [] := by kernel_rfl
@[simp] theorem La : C.locs 279 = [] := by kernel_rfl
@[simp] theorem LM : C.locs 280 = [] := by kernel_rfl
@[simp] theorem Pz : C.locs 281 = [] := by kernel_rfl
noncomputable def jC := Tryz.f282.body.getD .skip
theorem zk : Ret C 282 a H R ↔ WP C 282 jC ⟨initRegs a, 0, H⟩ (finQ C Tryz.f282 H R) := Ret_fn rfl (by kernel_rfl) Tryz.func282 rfl
@[simp] theorem Nz : C.locs 282 = [2] := by kernel_rfl
noncomputable def aj := Tryz.f283.body.getD .skip
theorem Gx : Ret C 283 a H R ↔ WP C 283 aj ⟨initRegs a, 0, H⟩ (finQ C Tryz.f283 H R) := Ret_fn rfl (by kernel_rfl) Tryz.func283 rfl
@[simp] theorem KO : C.locs 283 = [1] := by kernel_rfl
noncomputable def aO := Tryz.f284.body.getD .skip
theorem He : Ret C 284 a H R ↔ WP C 284 aO ⟨initRegs a, 0, H⟩ (finQ C Tryz.f284 H R) := Ret_fn rfl (by kernel_rfl) Tryz.func284 rfl
@[simp] theorem OI : C.locs 284 = [1] := by kernel_rfl
noncomputable def bI := Tryz.f285.body.getD .skip
theorem Hz : Ret C 285 a H R ↔ WP C 285 bI ⟨initRegs a, 0, H⟩ (finQ C Tryz.f285 H R) := Ret_fn rfl (by kernel_rfl) Tryz.func285 rfl
@[simp] theorem KQ : C.locs 285 = [] := by kernel_rfl
noncomputable def sW := Tryz.f286.body.getD .skip
theorem IW : Ret C 286 a H R ↔ WP C 286 sW ⟨initRegs a, 0, H⟩ (finQ C Tryz.f286 H R) := Ret_fn rfl (by kernel_rfl) Tryz.func286 rfl
@[simp] theorem PR : C.locs 286 = [] := by kernel_rfl
noncomputable def tq := Tryz.f287.body.getD .skip
theorem Gy : Ret C 287 a H R ↔ WP C 287 tq ⟨initRegs a, 0, H⟩ (finQ C Tryz.f287 H R) := Ret_fn rfl (by kernel_rfl) Tryz.func287 rfl
@[simp] theorem OO : C.locs 287 = [2, 3] := by kernel_rfl
noncomputable def jw := Tryz.f288.body.getD .skip
theorem Iy : Ret C 288 a H R ↔ WP C 288 jw ⟨initRegs a, 0, H⟩ (finQ C Tryz.f288 H R) := Ret_fn rfl (by kernel_rfl) Tryz.func288 rfl
@[simp] theorem O5 : C.locs 288 = [] := by kernel_rfl
noncomputable def rJ := Tryz.f289.body.getD .skip
theorem Kz : Ret C 289 a H R ↔ WP C 289 rJ ⟨initRegs a, 0, H⟩ (finQ C Tryz.f289 H R) := Ret_fn rfl (by kernel_rfl) Tryz.func289 rfl
@[simp] theorem NJ : C.locs 289 = [] := by kernel_rfl
noncomputable def bC := Tryz.f290.body.getD .skip
theorem JQ : Ret C 290 a H R ↔ WP C 290 bC ⟨initRegs a, 0, H⟩ (finQ C Tryz.f290 H R) := Ret_fn rfl (by kernel_rfl) Tryz.func290 rfl
@[simp] theorem NF : C.locs 290 = [3] := by kernel_rfl
noncomputable def rQ := Tryz.f291.body.getD .skip
theorem Gw : Ret C 291 a H R ↔ WP C 291 rQ ⟨initRegs a, 0, H⟩ (finQ C Tryz.f291 H R) := Ret_fn rfl (by kernel_rfl) Tryz.func291 rfl
@[simp] theorem ML : C.locs 291 = [1, 2, 3] := by kernel_rfl
noncomputable def uD := Tryz.f292.body.getD .skip
theorem FY : Ret C 292 a H R ↔ WP C 292 uD ⟨initRegs a, 0, H⟩ (finQ C Tryz.f292 H R) := Ret_fn rfl (by kernel_rfl) Tryz.func292 rfl
@[simp] theorem PN : C.locs 292 = [] := by kernel_rfl
noncomputable def aU := Tryz.f293.body.getD .skip
theorem C9 : C.fids 293 = true := by kernel_rfl
theorem DY : Tryz.f293.body = some aU := rfl
theorem Dt : C.prim 293 = none := rfl
theorem Ej : C.funcs 293 = some Tryz.f293 := Tryz.func293
theorem zf : Ret C 293 a H R ↔ WP C 293 aU ⟨initRegs a, 0, H⟩ (finQ C Tryz.f293 H R) := Ret_fn rfl (by kernel_rfl) Tryz.func293 rfl
@[simp] theorem Cc : C.locs 293 = [] := by kernel_rfl
noncomputable def aP := Tryz.f294.body.getD .skip
theorem IC : Ret C 294 a H R ↔ WP C 294 aP ⟨initRegs a, 0, H⟩ (finQ C Tryz.f294 H R) := Ret_fn rfl (by kernel_rfl) Tryz.func294 rfl
@[simp] theorem N9 : C.locs 294 = [1] := by kernel_rfl
noncomputable def bK := Tryz.f295.body.getD .skip
theorem Hy : Ret C 295 a H R ↔ WP C 295 bK ⟨initRegs a, 0, H⟩ (finQ C Tryz.f295 H R) := Ret_fn rfl (by kernel_rfl) Tryz.func295 rfl
@[simp] theorem OU : C.locs 295 = [] := by kernel_rfl
noncomputable def iG := Tryz.f297.body.getD .skip
theorem yc : Ret C 297 a H R ↔ WP C 297 iG ⟨initRegs a, 0, H⟩ (finQ C Tryz.f297 H R) := Ret_fn rfl (by kernel_rfl) Tryz.func297 rfl
@[simp] theorem O6 : C.locs 297 = [] := by kernel_rfl
noncomputable def oC := Tryz.f298.body.getD .skip
theorem Jn : Ret C 298 a H R ↔ WP C 298 oC ⟨initRegs a, 0, H⟩ (finQ C Tryz.f298 H R) := Ret_fn rfl (by kernel_rfl) Tryz.func298 rfl
@[simp] theorem Nh : C.locs 298 = [] := by kernel_rfl
noncomputable def mZ := Tryz.f299.body.getD .skip
theorem Kt : Ret C 299 a H R ↔ WP C 299 mZ ⟨initRegs a, 0, H⟩ (finQ C Tryz.f299 H R) := Ret_fn rfl (by kernel_rfl) Tryz.func299 rfl
@[simp] theorem NT : C.locs 299 = [] := by kernel_rfl
noncomputable def jH := Tryz.f300.body.getD .skip
theorem Fp : Ret C 300 a H R ↔ WP C 300 jH ⟨initRegs a, 0, H⟩ (finQ C Tryz.f300 H R) := Ret_fn rfl (by kernel_rfl) Tryz.func300 rfl
@[simp] theorem OH : C.locs 300 = [] := by kernel_rfl
noncomputable def nN := Tryz.f301.body.getD .skip
theorem Fg : Ret C 301 a H R ↔ WP C 301 nN ⟨initRegs a, 0, H⟩ (finQ C Tryz.f301 H R) := Ret_fn rfl (by kernel_rfl) Tryz.func301 rfl
@[simp] theorem KI : C.locs 301 = [] := by kernel_rfl
noncomputable def tY := Tryz.f302.body.getD .skip
theorem Jr : Ret C 302 a H R ↔ WP C 302 tY ⟨initRegs a, 0, H⟩ (finQ C Tryz.f302 H R) := Ret_fn rfl (by kernel_rfl) Tryz.func302 rfl
@[simp] theorem OA : C.locs 302 = [7] := by kernel_rfl
noncomputable def dD := Tryz.f303.body.getD .skip
theorem GH : Ret C 303 a H R ↔ WP C 303 dD ⟨initRegs a, 0, H⟩ (finQ C Tryz.f303 H R) := Ret_fn rfl (by kernel_rfl) Tryz.func303 rfl
@[simp] theorem KG : C.locs 303 = [] := by kernel_rfl
noncomputable def kF := Tryz.f304.body.getD .skip
theorem xY : Ret C 304 a H R ↔ WP C 304 kF ⟨initRegs a, 0, H⟩ (finQ C Tryz.f304 H R) := Ret_fn rfl (by kernel_rfl) Tryz.func304 rfl
@[simp] theorem Pg : C.locs 304 = [2, 3] := by kernel_rfl
noncomputable def oI := Tryz.f306.body.getD .skip
theorem FP : Ret C 306 a H R ↔ WP C 306 oI ⟨initRegs a, 0, H⟩ (finQ C Tryz.f306 H R) := Ret_fn rfl (by kernel_rfl) Tryz.func306 rfl
@[simp] theorem Lr : C.locs 306 = [4, 7] := by kernel_rfl
noncomputable def uY := Tryz.f308.body.getD .skip
theorem Gz : Ret C 308 a H R ↔ WP C 308 uY ⟨initRegs a, 0, H⟩ (finQ C Tryz.f308 H R) := Ret_fn rfl (by kernel_rfl) Tryz.func308 rfl
@[simp] theorem LY : C.locs 308 = [] := by kernel_rfl
noncomputable def rC := Tryz.f309.body.getD .skip
theorem Ih : Ret C 309 a H R ↔ WP C 309 rC ⟨initRegs a, 0, H⟩ (finQ C Tryz.f309 H R) := Ret_fn rfl (by kernel_rfl) Tryz.func309 rfl
@[simp] theorem KH : C.locs 309 = [] := by kernel_rfl
noncomputable def eQ := Tryz.f310.body.getD .skip
theorem DI : C.fids 310 = true := by kernel_rfl
theorem CZ : Tryz.f310.body = some eQ := rfl
theorem Ed : C.prim 310 = none := rfl
theorem Dq : C.funcs 310 = some Tryz.f310 := Tryz.func310
theorem zT : Ret C 310 a H R ↔ WP C 310 eQ ⟨initRegs a, 0, H⟩ (finQ C Tryz.f310 H R) := Ret_fn rfl (by kernel_rfl) Tryz.func310 rfl
@[simp] theorem BO : C.locs 310 = [] := by kernel_rfl
noncomputable def iR := Tryz.f311.body.getD .skip
theorem yJ : Ret C 311 a H R ↔ WP C 311 iR ⟨initRegs a, 0, H⟩ (finQ C Tryz.f311 H R) := Ret_fn rfl (by kernel_rfl) Tryz.func311 rfl
@[simp] theorem NU : C.locs 311 = [] := by kernel_rfl
noncomputable def jV := Tryz.f312.body.getD .skip
theorem CW : Ret C 312 a H R ↔ WP C 312 jV ⟨initRegs a, 0, H⟩ (finQ C Tryz.f312 H R) := Ret_fn rfl (by kernel_rfl) Tryz.func312 rfl
@[simp] theorem Lp : C.locs 312 = [] := by kernel_rfl
noncomputable def uh := Tryz.f313.body.getD .skip
theorem Jc : Ret C 313 a H R ↔ WP C 313 uh ⟨initRegs a, 0, H⟩ (finQ C Tryz.f313 H R) := Ret_fn rfl (by kernel_rfl) Tryz.func313 rfl
@[simp] theorem NH : C.locs 313 = [] := by kernel_rfl
noncomputable def vI := Tryz.f314.body.getD .skip
theorem IZ : Ret C 314 a H R ↔ WP C 314 vI ⟨initRegs a, 0, H⟩ (finQ C Tryz.f314 H R) := Ret_fn rfl (by kernel_rfl) Tryz.func314 rfl
@[simp] theorem LH : C.locs 314 = [] := by kernel_rfl
noncomputable def bQ := Tryz.f315.body.getD .skip
theorem Dh : C.fids 315 = true := by kernel_rfl
theorem DW : Tryz.f315.body = some bQ := rfl
theorem Ec : C.prim 315 = none := rfl
theorem CE : C.funcs 315 = some Tryz.f315 := Tryz.func315
theorem yl : Ret C 315 a H R ↔ WP C 315 bQ ⟨initRegs a, 0, H⟩ (finQ C Tryz.f315 H R) := Ret_fn rfl (by kernel_rfl) Tryz.func315 rfl
@[simp] theorem Au : C.locs 315 = [] := by kernel_rfl
noncomputable def vK := Tryz.f316.body.getD .skip
theorem FT : Ret C 316 a H R ↔ WP C 316 vK ⟨initRegs a, 0, H⟩ (finQ C Tryz.f316 H R) := Ret_fn rfl (by kernel_rfl) Tryz.func316 rfl
@[simp] theorem MX : C.locs 316 = [] := by kernel_rfl
@[simp] theorem Nk : C.locs 317 = [9] := by kernel_rfl
@[simp] theorem MS : C.locs 319 = [] := by kernel_rfl
noncomputable def nH := Tryz.f320.body.getD .skip
theorem II : Ret C 320 a H R ↔ WP C 320 nH ⟨initRegs a, 0, H⟩ (finQ C Tryz.f320 H R) := Ret_fn rfl (by kernel_rfl) Tryz.func320 rfl
@[simp] theorem Oz : C.locs 320 = [] := by kernel_rfl
noncomputable def aK := Tryz.f321.body.getD .skip
theorem Ik : Ret C 321 a H R ↔ WP C 321 aK ⟨initRegs a, 0, H⟩ (finQ C Tryz.f321 H R) := Ret_fn rfl (by kernel_rfl) Tryz.func321 rfl
@[simp] theorem OJ : C.locs 321 = [] := by kernel_rfl
noncomputable def vO := Tryz.f322.body.getD .skip
theorem Kw : Ret C 322 a H R ↔ WP C 322 vO ⟨initRegs a, 0, H⟩ (finQ C Tryz.f322 H R) := Ret_fn rfl (by kernel_rfl) Tryz.func322 rfl
@[simp] theorem OZ : C.locs 322 = [] := by kernel_rfl
noncomputable def oH := Tryz.f323.body.getD .skip
theorem F6 : Ret C 323 a H R ↔ WP C 323 oH ⟨initRegs a, 0, H⟩ (finQ C Tryz.f323 H R) := Ret_fn rfl (by kernel_rfl) Tryz.func323 rfl
@[simp] theorem Ld : C.locs 323 = [] := by kernel_rfl
noncomputable def rZ := Tryz.f326.body.getD .skip
theorem JC : Ret C 326 a H R ↔ WP C 326 rZ ⟨initRegs a, 0, H⟩ (finQ C Tryz.f326 H R) := Ret_fn rfl (by kernel_rfl) Tryz.func326 rfl
@[simp] theorem Pj : C.locs 326 = [] := by kernel_rfl
noncomputable def dZ := Tryz.f327.body.getD .skip
theorem Gg : Ret C 327 a H R ↔ WP C 327 dZ ⟨initRegs a, 0, H⟩ (finQ C Tryz.f327 H R) := Ret_fn rfl (by kernel_rfl) Tryz.func327 rfl
@[simp] theorem MM : C.locs 327 = [] := by kernel_rfl
noncomputable def ny := Tryz.f328.body.getD .skip
theorem JU : Ret C 328 a H R ↔ WP C 328 ny ⟨initRegs a, 0, H⟩ (finQ C Tryz.f328 H R) := Ret_fn rfl (by kernel_rfl) Tryz.func328 rfl
@[simp] theorem NG : C.locs 328 = [] := by kernel_rfl
noncomputable def uI := Tryz.f329.body.getD .skip
theorem Jg : Ret C 329 a H R ↔ WP C 329 uI ⟨initRegs a, 0, H⟩ (finQ C Tryz.f329 H R) := Ret_fn rfl (by kernel_rfl) Tryz.func329 rfl
@[simp] theorem LG : C.locs 329 = [] := by kernel_rfl
noncomputable def mW := Tryz.f330.body.getD .skip
theorem CV : Ret C 330 a H R ↔ WP C 330 mW ⟨initRegs a, 0, H⟩ (finQ C Tryz.f330 H R) := Ret_fn rfl (by kernel_rfl) Tryz.func330 rfl
@[simp] theorem NV : C.locs 330 = [] := by kernel_rfl
noncomputable def rq := Tryz.f331.body.getD .skip
theorem H6 : Ret C 331 a H R ↔ WP C 331 rq ⟨initRegs a, 0, H⟩ (finQ C Tryz.f331 H R) := Ret_fn rfl (by kernel_rfl) Tryz.func331 rfl
@[simp] theorem Np : C.locs 331 = [] := by kernel_rfl
noncomputable def sZ := Tryz.f332.body.getD .skip
theorem JV : Ret C 332 a H R ↔ WP C 332 sZ ⟨initRegs a, 0, H⟩ (finQ C Tryz.f332 H R) := Ret_fn rfl (by kernel_rfl) Tryz.func332 rfl
@[simp] theorem Ox : C.locs 332 = [] := by kernel_rfl
noncomputable def rF := Tryz.f333.body.getD .skip
theorem FH : Ret C 333 a H R ↔ WP C 333 rF ⟨initRegs a, 0, H⟩ (finQ C Tryz.f333 H R) := Ret_fn rfl (by kernel_rfl) Tryz.func333 rfl
@[simp] theorem Lu : C.locs 333 = [2] := by kernel_rfl
noncomputable def eG := Tryz.f334.body.getD .skip
theorem Df : C.fids 334 = true := by kernel_rfl
theorem Du : Tryz.f334.body = some eG := rfl
theorem D9 : C.prim 334 = none := rfl
theorem Eb : C.funcs 334 = some Tryz.f334 := Tryz.func334
theorem zM : Ret C 334 a H R ↔ WP C 334 eG ⟨initRegs a, 0, H⟩ (finQ C Tryz.f334 H R) := Ret_fn rfl (by kernel_rfl) Tryz.func334 rfl
@[simp] theorem Ai : C.locs 334 = [] := by kernel_rfl
noncomputable def tu := Tryz.f335.body.getD .skip
theorem Fz : Ret C 335 a H R ↔ WP C 335 tu ⟨initRegs a, 0, H⟩ (finQ C Tryz.f335 H R) := Ret_fn rfl (by kernel_rfl) Tryz.func335 rfl
@[simp] theorem PD : C.locs 335 = [] := by kernel_rfl
noncomputable def bf := Tryz.f336.body.getD .skip
theorem CG : C.fids 336 = true := by kernel_rfl
theorem Ea : Tryz.f336.body = some bf := rfl
theorem DJ : C.prim 336 = none := rfl
theorem CX : C.funcs 336 = some Tryz.f336 := Tryz.func336
theorem yT : Ret C 336 a H R ↔ WP C 336 bf ⟨initRegs a, 0, H⟩ (finQ C Tryz.f336 H R) := Ret_fn rfl (by kernel_rfl) Tryz.func336 rfl
@[simp] theorem AU : C.locs 336 = [] := by kernel_rfl
@[simp] theorem Lh : C.locs 337 = [] := by kernel_rfl
@[simp] theorem Pm : C.locs 338 = [] := by kernel_rfl
noncomputable def oG := Tryz.f351.body.getD .skip
theorem J8 : Ret C 351 a H R ↔ WP C 351 oG ⟨initRegs a, 0, H⟩ (finQ C Tryz.f351 H R) := Ret_fn rfl (by kernel_rfl) Tryz.func351 rfl
@[simp] theorem NS : C.locs 351 = [] := by kernel_rfl
noncomputable def sD := Tryz.f352.body.getD .skip
theorem FW : Ret C 352 a H R ↔ WP C 352 sD ⟨initRegs a, 0, H⟩ (finQ C Tryz.f352 H R) := Ret_fn rfl (by kernel_rfl) Tryz.func352 rfl
@[simp] theorem Lj : C.locs 352 = [] := by kernel_rfl
noncomputable def dO := Tryz.f353.body.getD .skip
theorem Dk : C.fids 353 = true := by kernel_rfl
theorem DD : Tryz.f353.body = some dO := rfl
theorem DU : C.prim 353 = none := rfl
theorem CO : C.funcs 353 = some Tryz.f353 := Tryz.func353
theorem xC : Ret C 353 a H R ↔ WP C 353 dO ⟨initRegs a, 0, H⟩ (finQ C Tryz.f353 H R) := Ret_fn rfl (by kernel_rfl) Tryz.func353 rfl
@[simp] theorem Aj : C.locs 353 = [] := by kernel_rfl
noncomputable def uo := Tryz.f354.body.getD .skip
theorem I8 : Ret C 354 a H R ↔ WP C 354 uo ⟨initRegs a, 0, H⟩ (finQ C Tryz.f354 H R) := Ret_fn rfl (by kernel_rfl) Tryz.func354 rfl
@[simp] theorem Nj : C.locs 354 = [] := by kernel_rfl
noncomputable def sO := Tryz.f355.body.getD .skip
theorem Jo : Ret C 355 a H R ↔ WP C 355 sO ⟨initRegs a, 0, H⟩ (finQ C Tryz.f355 H R) := Ret_fn rfl (by kernel_rfl) Tryz.func355 rfl
@[simp] theorem MG : C.locs 355 = [2] := by kernel_rfl
@[simp] theorem Qh : C.ord 4 8 = some ⟨[0, 2, 1, 3, 4, 5], [], [], [(0, 2), (2, 3)], [], []⟩ := by kernel_rfl
@[simp] theorem OM : C.ord 4 14 = some ⟨[0, 1, 2, 3, 4], [], [], [(0, 7), (1, 2)], [], []⟩ := by kernel_rfl
@[simp] theorem LC : C.ord 4 16 = some ⟨[0, 1, 2, 3, 4], [], [], [(0, 8), (1, 3)], [], []⟩ := by kernel_rfl
@[simp] theorem Nu : C.ord 4 31 = some ⟨[0, 2, 1, 3, 4, 5], [], [], [(0, 2), (2, 3)], [], []⟩ := by kernel_rfl
@[simp] theorem Cb : C.ord 19 6 = none := by kernel_rfl
@[simp] theorem Oa : C.ord 25 4 = some ⟨[0, 1, 2, 3, 4, 5, 6, 7], [6], [4], [], [], []⟩ := by kernel_rfl
@[simp] theorem Nb : C.ord 25 7 = some ⟨[0, 1, 2, 3, 4, 5, 6, 7], [6], [4], [], [], []⟩ := by kernel_rfl
@[simp] theorem IV : C.ord 25 10 = some ⟨[0, 1, 2, 3, 4, 5, 6, 7], [6], [4], [], [], []⟩ := by kernel_rfl
@[simp] theorem GU : C.ord 25 13 = some ⟨[0, 1, 2, 3, 4, 5, 6, 7], [6], [4], [], [], []⟩ := by kernel_rfl
@[simp] theorem MP : C.ord 41 7 = some ⟨[0, 1, 2, 3, 4, 5, 6, 7, 8, 9, 10, 11, 12, 13, 14, 15, 16, 17, 18, 19, 20, 22, 23, 21, 24, 25, 26, 27], [], [], [(0, 4), (5, 1), (6, 4), (15, 1), (23, 4)], [], []⟩ := by kernel_rfl
@[simp] theorem Jf : C.ord 41 13 = some ⟨[0, 1, 2, 3, 4, 5, 6, 7, 8, 9, 10], [], [], [(4, 1)], [], []⟩ := by kernel_rfl
@[simp] theorem Ov : C.ord 47 6 = some ⟨[0, 1, 2, 3, 4, 5, 6, 7, 8, 9, 10, 11, 12, 13, 14, 15, 17, 18, 16, 19, 20, 21, 22], [], [], [(2, 4), (18, 4)], [], []⟩ := by kernel_rfl
@[simp] theorem Oc : C.ord 59 6 = none := by kernel_rfl
@[simp] theorem OL : C.ord 59 7 = none := by kernel_rfl
@[simp] theorem OY : C.ord 65 3 = some ⟨[0, 1, 2, 3, 4, 5, 7, 8, 10, 11, 6, 9, 12, 13, 14, 15, 16, 17, 18], [], [], [(1, 1), (5, 1), (8, 1), (11, 1)], [], []⟩ := by kernel_rfl
@[simp] theorem AL : C.ord 68 6 = none := by kernel_rfl
@[simp] theorem Az : C.ord 69 6 = none := by kernel_rfl
@[simp] theorem Bc : C.ord 70 6 = none := by kernel_rfl
@[simp] theorem Bl : C.ord 71 6 = none := by kernel_rfl
@[simp] theorem Ar : C.ord 72 6 = none := by kernel_rfl
@[simp] theorem IX : C.ord 100 4 = none := by kernel_rfl
@[simp] theorem Jh : C.ord 102 2 = none := by kernel_rfl
@[simp] theorem Gt : C.ord 102 7 = none := by kernel_rfl
@[simp] theorem Kr : C.ord 103 5 = some ⟨[0, 1, 2, 3, 4, 5, 6, 7, 8, 9, 10, 11, 12, 13, 14, 15, 16], [14], [6], [], [], []⟩ := by kernel_rfl
@[simp] theorem Fe : C.ord 110 6 = none := by kernel_rfl
@[simp] theorem G9 : C.ord 121 4 = none := by kernel_rfl
@[simp] theorem Gq : C.ord 133 9 = none := by kernel_rfl
@[simp] theorem EZ : C.ord 133 11 = none := by kernel_rfl
@[simp] theorem GL : C.ord 150 5 = some ⟨[0, 1, 2, 4, 5, 3, 6, 7], [], [], [(2, 5), (5, 5)], [], []⟩ := by kernel_rfl
@[simp] theorem JG : C.ord 151 1 = none := by kernel_rfl
@[simp] theorem Jj : C.ord 181 6 = none := by kernel_rfl
@[simp] theorem E8 : C.ord 181 11 = none := by kernel_rfl
@[simp] theorem IG : C.ord 182 4 = none := by kernel_rfl
@[simp] theorem H5 : C.ord 187 4 = none := by kernel_rfl
@[simp] theorem JY : C.ord 194 8 = some ⟨[0, 1, 2, 3, 4, 8, 9, 5, 6, 7, 10, 11, 12, 13, 14, 15, 16, 17, 18, 19, 20, 21, 22, 23, 24], [5, 6], [8], [(1, 1), (19, 1)], [], []⟩ := by kernel_rfl
@[simp] theorem Hu : C.ord 196 6 = none := by kernel_rfl
@[simp] theorem Fb : C.ord 197 10 = some ⟨[0, 1, 2, 3, 4, 5, 6, 7, 8, 9, 10, 11, 12, 13, 14, 15, 16, 17], [15], [4, 7], [], [], []⟩ := by kernel_rfl
@[simp] theorem Jp : C.ord 201 1 = some ⟨[0, 1, 2, 3, 4, 5, 6, 7, 8, 9, 10], [5], [3], [], [], []⟩ := by kernel_rfl
@[simp] theorem J6 : C.ord 214 6 = none := by kernel_rfl
@[simp] theorem IA : C.ord 224 7 = some ⟨[0, 1, 2, 3, 4, 5, 6, 7, 8, 9, 10, 11, 12, 13, 14, 15], [13], [5], [], [], []⟩ := by kernel_rfl
@[simp] theorem FM : C.ord 225 3 = none := by kernel_rfl
@[simp] theorem FO : C.ord 237 1 = some ⟨[0, 1, 2, 3, 4, 5, 6, 7], [], [2], [(6, 8)], [], []⟩ := by kernel_rfl
@[simp] theorem yU : C.ord 241 6 = none := by kernel_rfl
@[simp] theorem HY : C.ord 259 4 = some ⟨[0, 1, 2, 3, 4, 5, 6, 7, 8, 9, 10, 11, 12, 13, 14, 16, 17, 18, 19, 15, 20, 21, 22, 23], [15], [19], [], [], []⟩ := by kernel_rfl
@[simp] theorem I7 : C.ord 290 1 = some ⟨[0, 1, 2, 3, 4, 5, 6, 7, 8, 9, 10, 11], [], [3, 7, 9], [(11, 3)], [], []⟩ := by kernel_rfl
@[simp] theorem EY : C.ord 290 10 = none := by kernel_rfl
@[simp] theorem Ir : C.ord 297 6 = none := by kernel_rfl
@[simp] theorem Fa : C.ord 297 11 = none := by kernel_rfl
@[simp] theorem JE : C.ord 299 3 = some ⟨[0, 1, 3, 4, 5, 7, 2, 6, 8, 9], [2, 7], [1, 5], [], [(7, 0)], [(1, [0]), (2, [0]), (5, [0]), (6, [0])]⟩ := by kernel_rfl
@[simp] theorem Jd : C.ord 302 1 = some ⟨[0, 1, 2, 3, 4, 5, 6, 7, 8], [], [2], [(6, 7)], [], []⟩ := by kernel_rfl
@[simp] theorem EW : C.ord 302 23 = none := by kernel_rfl
@[simp] theorem EX : C.ord 302 29 = none := by kernel_rfl
@[simp] theorem FC : C.ord 306 5 = some ⟨[0, 1, 2, 3, 5, 6, 8, 9, 4, 7, 10, 11, 12, 13], [], [], [(1, 7), (3, 7), (6, 7), (9, 7), (12, 4)], [], []⟩ := by kernel_rfl
@[simp] theorem IQ : C.ord 314 1 = some ⟨[0, 2, 1, 3, 4], [1], [2], [], [], []⟩ := by kernel_rfl
end Go.Proofs.Try1
end
section
namespace Go.Proofs.Try1
open Go Go.Lite
def fG (f : Nat) (sh : Sh) : Prop := ∀ (H : List Ob) (cs : List V) (u : U) (left : Nat), At H sh cs u → left ≤ 1048576 →
 callW C f [valC sh cs, .int .i64 left] H = some (.int .i64 (if wt u ≤ left then ((left - wt u : Nat) : Int) else -1), H)
theorem ed : fG 179 (.slice .str) := by
 intro H cs u left h hleft
 simp only [At] at h
 obtain ⟨v, l, rfl, rfl, hlen, hv⟩ := h
 apply Ret.eq
 rw [Gu]
 by_cases h0 : (l.length : Int) ≤ left
 ·have h0' : ¬ ((left : Int) - l.length < 0) := by omega
  have hw0 : IntKind.i64.wrap ((left : Int) - l.length) = (left : Int) - l.length := wrap_i64 (by omega) (by omega)
  simp [nJ, Tryz.f179, valC, hv.len, hw0, h0']
  refine WP_loop (fun k σ => ∃ (i : Nat) (r : Nat → R), i + k = l.length ∧ σ = ⟨r, 0, H⟩ ∧ r 0 = .val v ∧ l.length + wts (l.take i) ≤ left ∧ r 1 = .val (.int .i64 ((left : Int) - l.length - wts (l.take i))) ∧ r 5 = .val (.int .i64 i)) ?_ l.length _ ⟨0, _, by simp, rfl, by simp, by simp [wts]; omega, by simp [wts], by simp⟩
  rintro k σ ⟨i, r, hik, rfl, r0, hle, r1, r5⟩
  cases k with
  | zero =>
   have hi : i = l.length := by omega
   subst hi
   rw [List.take_length] at hle r1
   simp [r0, r1, r5, hv.len, wt, hle]
   omega
  | succ k =>
   have hi : i < l.length := by omega
   obtain ⟨x, hx⟩ : ∃ x, l[i]? = some x := ⟨l[i], by simp [hi]⟩
   obtain ⟨eid, o, own, cells, e1, e2, e3, s, e4, rfl, e5⟩ := hv.idx hx (by decide)
   simp only [Sh.size_str] at e1
   have c0 : cells[o]? = some (.str s) := by simpa using cells_get e4 (j := 0) rfl
   have ld := load1 e2 c0
   have ht := wts_take hx
   simp only [wt] at ht
   have hg := wts_get hx
   simp only [wt] at hg
   have hw : IntKind.i64.wrap ((i : Int) + 1) = ((i + 1 : Nat) : Int) := by rw [wrap_i64 (by omega) (by omega)]; omega
   have hw2 : IntKind.i64.wrap ((left : Int) - l.length - wts (l.take i) - s.length) = (left : Int) - l.length - wts (l.take i) - s.length := wrap_i64 (by have : s.length ≤ maxLen := e5; unfold maxLen at this; omega) (by omega)
   by_cases hb : l.length + wts (l.take (i + 1)) ≤ left
   ·have hb' : ¬ ((left : Int) - l.length - wts (l.take i) - s.length < 0) := by omega
    simp [r0, r1, r5, hi, hv.len, e1, ld, hw, hw2, hb']
    exact ⟨k, by omega, i + 1, by omega, hb, by omega, by omega⟩
   ·have hb' : (left : Int) - l.length - wts (l.take i) - s.length < 0 := by omega
    have := wts_take_le (l := l) (i := i + 1)
    have hn : ¬ (l.length + wts l ≤ left) := by omega
    simp [r0, r1, r5, hi, hv.len, e1, ld, hw, hw2, hb', wt, hn]
 ·have h0' : (left : Int) - l.length < 0 := by omega
  have hw0 : IntKind.i64.wrap ((left : Int) - l.length) = (left : Int) - l.length := wrap_i64 (by have : l.length ≤ maxLen := hlen; unfold maxLen at this; omega) (by omega)
  have hn : ¬ (l.length + wts l ≤ left) := by omega
  simp [nJ, Tryz.f179, valC, hv.len, hw0, h0', wt, hn]
theorem mG {f g tS tE : Nat} {zs : List V} {fs : List Sh} {F : Func} (hop : ∀ {a : List V} {H : List Ob} {R : V → List Ob → Prop}, Ret C f a H R ↔ WP C f (ren [(47, tS), (180, tE)] [(124, g)] lF) ⟨initRegs a, 0, H⟩ (finQ C F H R))
  (hF : F.results = #[.tmp 4]) (hS : C.ty tS = ⟨.slice tE, 1, 24, zs⟩) (hE : (C.ty tE).size = (Sh.st fs).size) (hE2 : (C.ty tE).isAgg = true) (hE0 : (C.ty tE).size ≠ 0) (hg : fG g (.st fs)) : fG f (.slice (.st fs)) := by
 intro H cs u left h hleft
 simp only [At] at h
 obtain ⟨v, l, rfl, rfl, hlen, hv⟩ := h
 apply Ret.eq
 rw [hop]
 by_cases h0 : (l.length : Int) ≤ left
 ·have h0' : ¬ ((left : Int) - l.length < 0) := by omega
  have hw0 : IntKind.i64.wrap ((left : Int) - l.length) = (left : Int) - l.length := wrap_i64 (by omega) (by omega)
  simp [lF, Tryz.f53, ren, renO, renP, renX, sub, valC, hS, hv.len, hw0, h0']
  refine WP_loop (fun k σ => ∃ (i : Nat) (r : Nat → R), i + k = l.length ∧ σ = ⟨r, 0, H⟩ ∧ r 0 = .val v ∧ l.length + wts (l.take i) ≤ left ∧ r 1 = .val (.int .i64 ((left : Int) - l.length - wts (l.take i))) ∧ r 5 = .val (.int .i64 i)) ?_ l.length _ ⟨0, _, by simp, rfl, by simp, by simp [wts]; omega, by simp [wts], by simp⟩
  rintro k σ ⟨i, r, hik, rfl, r0, hle, r1, r5⟩
  cases k with
  | zero =>
   have hi : i = l.length := by omega
   subst hi
   rw [List.take_length] at hle r1
   simp [r0, r1, r5, hS, hv.len, wt, hle, hF]
   omega
  | succ k =>
   have hi : i < l.length := by omega
   obtain ⟨x, hx⟩ : ∃ x, l[i]? = some x := ⟨l[i], by simp [hi]⟩
   obtain ⟨eid, o, own, cells, e1, e2, e3, e4⟩ := hv.idx hx (by rw [← hE]; exact hE0)
   have e1 := fun (k : IntKind) => e1 tE 1 24 zs C.ty k hE
   have ld := load_agg (T := C.ty tE) e2 (by rw [hE]; exact e3) rfl hE0 hE2
   rw [hE] at ld
   have ht := wts_take hx
   have hw : IntKind.i64.wrap ((i : Int) + 1) = ((i + 1 : Nat) : Int) := by rw [wrap_i64 (by omega) (by omega)]; omega
   have hc := hg H _ x (left - l.length - wts (l.take i)) e4 (by omega)
   rw [show ((left - l.length - wts (l.take i) : Nat) : Int) = (left : Int) - l.length - wts (l.take i) by omega] at hc
   simp only [valC, Sh.size_st] at hc
   by_cases hb : l.length + wts (l.take (i + 1)) ≤ left
   ·have hb2 : wt x ≤ left - l.length - wts (l.take i) := by omega
    have hb' : ¬ (((left - l.length - wts (l.take i) - wt x : Nat) : Int) < 0) := by omega
    rw [if_pos hb2] at hc
    simp [r0, r1, r5, hi, hS, hv.len, e1, ld, hw, hc, hb']
    exact ⟨k, by omega, i + 1, by omega, hb, by omega, by omega⟩
   ·have hb2 : ¬ (wt x ≤ left - l.length - wts (l.take i)) := by omega
    have := wts_take_le (l := l) (i := i + 1)
    have hn : ¬ (l.length + wts l ≤ left) := by omega
    rw [if_neg hb2] at hc
    simp [r0, r1, r5, hi, hS, hv.len, e1, ld, hw, hc, wt, hn, hF]
 ·have h0' : (left : Int) - l.length < 0 := by omega
  have hw0 : IntKind.i64.wrap ((left : Int) - l.length) = (left : Int) - l.length := wrap_i64 (by have : l.length ≤ maxLen := hlen; unfold maxLen at this; omega) (by omega)
  have hn : ¬ (l.length + wts l ≤ left) := by omega
  simp [lF, Tryz.f53, ren, renO, renP, renX, sub, valC, hS, hv.len, hw0, h0', wt, hn, hF]
end Go.Proofs.Try1
end
section
namespace Go.Lite
open Go
def bys (b : Str) : List V := b.map fun c => .int .u8 c.toNat
theorem bys_len {b : Str} : (bys b).length = b.length := by simp [bys]
theorem bys_get {b : Str} {i : Nat} {c : UInt8} (h : b[i]? = some c) : (bys b)[i]? = some (.int .u8 c.toNat) := by simp [bys, h]
theorem byteOf_u8 {c : UInt8} : byteOfV (.int .u8 c.toNat) = some c := by
 simp [byteOfV]
theorem bys_mapM : ∀ {b : Str}, (bys b).mapM byteOfV = some b
 | [] => rfl
 | c :: b => by
  have := bys_mapM (b := b)
  simp only [bys, List.map_cons, List.mapM_cons, byteOf_u8] at this ⊢
  rw [this]
  rfl
theorem bys_append {a b : Str} : bys (a ++ b) = bys a ++ bys b := by simp [bys]
theorem bys_take {b : Str} {n : Nat} : (bys b).take n = bys (b.take n) := by simp [bys, List.map_take]
def Bs (H G : List Ob) (v : V) (b : Str) : Prop := ∃ T id, G = H ++ T ∧ H.length ≤ id ∧ G[id]? = some (.mk true 1 (bys b)) ∧ v = .slc (some (id, 0)) b.length
theorem Bs.init {H : List Ob} : Bs H (H ++ [.mk true 1 []]) (.slc (some (H.length, 0)) 0) [] := ⟨_, H.length, rfl, Nat.le_refl _, by simp [bys], rfl⟩
section
variable {H G : List Ob} {v : V} {b : Str}
theorem Bs.push (h : Bs H G v b) (hb : b.length ≤ 1000000000) {c : UInt8} {z : List V} {d : LD} (hz : z.length = 1) : ∃ v' G', appendV ⟨d, 1, 1, z⟩ (G ++ [.mk true 1 [.int .u8 c.toNat]]) v (.slc (some (G.length, 0)) 1) = some (v', G') ∧ Bs H G' v' (b ++ [c]) := by
 obtain ⟨T, id, rfl, h1, h2, rfl⟩ := h
 have hid : id < (H ++ T).length := (List.getElem?_eq_some_iff.1 h2).1
 have hid' : id < H.length + T.length := by simpa using hid
 have hg : (H ++ T ++ [Ob.mk true 1 [.int .u8 c.toNat]])[id]? = some (.mk true 1 (bys b)) := by rw [List.getElem?_append_left hid]; exact h2
 have hnew : newCells ⟨d, 1, 1, z⟩ (H ++ T ++ [Ob.mk true 1 [.int .u8 c.toNat]]) (.slc (some ((H ++ T).length, 0)) 1) = some ([.int .u8 c.toNat], 1) := by
  simp only [newCells, Nat.mul_one, slcCells, get_last]
  rfl
 refine ⟨.slc (some ((H ++ T ++ [Ob.mk true 1 [.int .u8 c.toNat]]).length, 0)) (b.length + 1), (H ++ T ++ [Ob.mk true 1 [.int .u8 c.toNat]]).set id .dead ++ [.mk true 1 (bys b ++ [.int .u8 c.toNat])], ?_, ?_⟩
 ·unfold appendV
  rw [if_pos (by simp [growOk, hz]), hnew]
  simp only [Nat.one_ne_zero, if_false, List.all_cons, List.all_nil, isOne_int, Bool.and_true, if_true, hg]
  have e1 : ¬ (0 + (b.length + 1) * 1 ≤ (bys b).length) := by rw [bys_len]; omega
  have e2 : (0 + b.length * 1 = (bys b).length ∨ b.length = 0 ∧ (bys b).length ≤ 0) ∧ (b.length + 1) * 1 ≤ maxMade := ⟨.inl (by rw [bys_len]; simp), by unfold maxMade; omega⟩
  rw [if_neg e1, if_pos e2, List.drop_zero]
 ·refine ⟨T.set (id - H.length) .dead ++ [.mk true 1 [.int .u8 c.toNat]] ++ [.mk true 1 (bys b ++ [.int .u8 c.toNat])], (H ++ T ++ [Ob.mk true 1 [.int .u8 c.toNat]]).length, ?_, by simp only [List.length_append]; omega, ?_, by simp⟩
  ·rw [List.append_assoc H T, List.set_append_right _ _ h1, List.set_append_left _ _ (by omega)]
   simp
  ·have hl : ((H ++ T ++ [Ob.mk true 1 [V.int .u8 c.toNat]]).set id .dead).length = (H ++ T ++ [Ob.mk true 1 [V.int .u8 c.toNat]]).length := List.length_set
   rw [← hl, get_last, bys_append]
   rfl
theorem Bs.last (h : Bs H G v b) {d : UInt8} (hd : b.getLast? = some d) : ∃ id, v = .slc (some (id, 0)) b.length ∧ ∀ T : LT, T.one → ∀ r c, loadAt T ⟨r, c, G⟩ (.hp id (b.length - 1)) = some (.int .u8 d.toNat) := by
 obtain ⟨T, id, rfl, h1, h2, rfl⟩ := h
 refine ⟨id, rfl, load1 h2 (bys_get ?_)⟩
 rw [List.getLast?_eq_getElem?] at hd
 exact hd
theorem Bs.cut (h : Bs H G v b) {n : Nat} (hn : n ≤ b.length) : ∃ id, v = .slc (some (id, 0)) b.length ∧ strideIs G id 1 = true ∧ slcCells G (some (id, 0)) n = some (bys (b.take n)) := by
 obtain ⟨T, id, rfl, h1, h2, rfl⟩ := h
 refine ⟨id, rfl, by simp [strideIs, h2], ?_⟩
 simp only [slcCells, h2]
 by_cases h0 : n = 0
 ·subst h0; rfl
 ·rw [if_neg h0]
  unfold rdCells
  rw [if_pos (by rw [bys_len]; omega), List.drop_zero, bys_take]
theorem Bs.ext (h : Bs H G v b) : ∃ T, G = H ++ T := by
 obtain ⟨T, id, h, _⟩ := h
 exact ⟨T, h⟩
theorem Bs.len (h : Bs H G v b) {e s n : Nat} {z : List V} : lenV ⟨.slice e, s, n, z⟩ v = some (.int .i64 b.length) := by
 obtain ⟨T, id, _, _, _, rfl⟩ := h
 rfl
end
abbrev shRdn : Sh := .st [.str, .str]
abbrev shAttr : Sh := .st [.str, .slice .str]
abbrev shEntry : Sh := .st [.slice shRdn, .slice shAttr]
abbrev shClass : Sh := .st [.str, .slice .str, .slice .str, .slice .str]
structure PRdn where
 attr : Str
 value : Str
structure PAttr where
 name : Str
 vals : List Str
structure PEntry where
 dn : List PRdn
 attrs : List PAttr
structure PClass where
 name : Str
 must : List Str
 may : List Str
 single : List Str
abbrev strU (s : Str) : U := .str s
def PRdn.u (r : PRdn) : U := .st [.str r.attr, .str r.value]
def PAttr.u (a : PAttr) : U := .st [.str a.name, .lst (a.vals.map strU)]
def PEntry.u (e : PEntry) : U := .st [.lst (e.dn.map PRdn.u), .lst (e.attrs.map PAttr.u)]
def PClass.u (c : PClass) : U := .st [.str c.name, .lst (c.must.map strU), .lst (c.may.map strU), .lst (c.single.map strU)]
section
variable (H : List Ob)
def ASl {α : Type} (sh : Sh) (f : α → U) (v : V) (l : List α) : Prop := At H (.slice sh) [v] (.lst (l.map f))
abbrev AStrs (v : V) (l : List Str) : Prop := ASl H .str strU v l
abbrev ARdns (v : V) (l : List PRdn) : Prop := ASl H shRdn PRdn.u v l
abbrev AAttrs (v : V) (l : List PAttr) : Prop := ASl H shAttr PAttr.u v l
abbrev AClasses (v : V) (l : List PClass) : Prop := ASl H shClass PClass.u v l
end
section
variable {H H' T : List Ob} {v : V} {α : Type} {sh : Sh} {f : α → U} {l : List α}
theorem ASl.at (h : ASl H sh f v l) : At H (.slice sh) [v] (.lst (l.map f)) := h
theorem ASl.sl (h : ASl H sh f v l) : Sl H sh.size (At H sh) v (l.map f) := by
 obtain ⟨w, m, hw, hm, _, h⟩ := At_slice.1 h.at
 cases hw
 cases hm
 exact h
theorem ASl.bound (h : ASl H sh f v l) : l.length ≤ maxLen := by
 obtain ⟨w, m, hw, hm, h, _⟩ := At_slice.1 h.at
 cases hm
 simpa using h
theorem ASl.len (h : ASl H sh f v l) {e s b : Nat} {z : List V} : lenV ⟨.slice e, s, b, z⟩ v = some (.int .i64 l.length) := by
 have := h.sl.len (e := e) (s := s) (b := b) (z := z)
 simpa using this
theorem ASl.one (h : ASl H sh f v l) : isOne v = true ∧ cellsOf v = some [v] := h.sl.one
theorem ASl.ext (h : ASl H sh f v l) : ASl (H ++ T) sh f v l := At.ext h
theorem ASl.up (h : ASl H sh f v l) (hH : ∀ (id : Nat) o, H[id]? = some o → H'[id]? = some o) : ASl H' sh f v l := At.up hH _ h
theorem ASl.idx (h : ASl H sh f v l) {i : Nat} {x : α} (hx : l[i]? = some x) (hs : sh.size ≠ 0) : ∃ id o own cells,
  (∀ (e s b : Nat) (z : List V) (ty : Nat → LT) (k : IntKind), (ty e).size = sh.size → indexR ⟨.slice e, s, b, z⟩ ty (.val v) (.int k i) = some (.val (.ptr (some (id, o))))) ∧
  H[id]? = some (.mk own sh.size cells) ∧ o + sh.size ≤ cells.length ∧ At H sh ((cells.drop o).take sh.size) (f x) :=
 h.sl.idx (by rw [List.getElem?_map, hx]; rfl) hs
theorem Sl.typed (hf : ∀ cs u, At H sh cs u → ∃ x : α, u = f x) {us : List U} {n : Nat} (h : Sl H n (At H sh) v us) : ∃ l : List α, us = l.map f := by
 have h2 : ∀ u ∈ us, ∃ x : α, u = f x := by
  intro u hu
  rcases h with ⟨_, rfl⟩ | ⟨id, off, own, cells, _, _, _, h4⟩
  ·cases hu
  ·obtain ⟨i, hi, rfl⟩ := List.getElem_of_mem hu
   exact hf _ _ (h4 i _ (List.getElem?_eq_getElem hi))
 clear h
 induction us with
 | nil => exact ⟨[], rfl⟩
 | cons u us ih =>
  obtain ⟨x, rfl⟩ := h2 u List.mem_cons_self
  obtain ⟨l, rfl⟩ := ih fun w hw => h2 w (List.mem_cons_of_mem _ hw)
  exact ⟨x :: l, rfl⟩
theorem ASl.typed (hf : ∀ cs u, At H sh cs u → ∃ x : α, u = f x) {cs : List V} {u : U} (h : At H (.slice sh) cs u) : ∃ v l, cs = [v] ∧ u = .lst (l.map f) ∧ ASl H sh f v l := by
 have h0 := h
 obtain ⟨v, us, rfl, rfl, _, hs⟩ := At_slice.1 h
 obtain ⟨l, rfl⟩ := Sl.typed hf hs
 exact ⟨v, l, rfl, rfl, h0⟩
theorem strs_typed {cs : List V} {u : U} (h : At H (.slice .str) cs u) : ∃ v l, cs = [v] ∧ u = .lst (l.map strU) ∧ AStrs H v l :=
 ASl.typed (fun cs u h => by obtain ⟨s, _, rfl, _⟩ := At_str.1 h; exact ⟨s, rfl⟩) h
theorem rdn_at {cs : List V} {r : PRdn} : At H shRdn cs r.u ↔ cs = [.str r.attr, .str r.value] ∧ r.attr.length ≤ maxLen ∧ r.value.length ≤ maxLen := by
 constructor
 ·intro h
  obtain ⟨us, hu, h⟩ := At_st.1 h
  cases hu
  obtain ⟨c1, c2, u1, us1, rfl, hu, h1, h⟩ := Ats_cons.1 h
  cases hu
  obtain ⟨c3, c4, u2, us2, rfl, hu, h2, h⟩ := Ats_cons.1 h
  cases hu
  obtain ⟨rfl, _⟩ := Ats_nil.1 h
  obtain ⟨s, rfl, hs, w1⟩ := At_str.1 h1
  cases hs
  obtain ⟨s, rfl, hs, w2⟩ := At_str.1 h2
  cases hs
  exact ⟨rfl, w1, w2⟩
 ·rintro ⟨rfl, h1, h2⟩
  exact At_st.2 ⟨_, rfl, Ats_cons.2 ⟨[_], _, _, _, rfl, rfl, At_str.2 ⟨_, rfl, rfl, h1⟩, Ats_cons.2 ⟨[_], _, _, _, rfl, rfl, At_str.2 ⟨_, rfl, rfl, h2⟩, Ats_nil.2 ⟨rfl, rfl⟩⟩⟩⟩
theorem rdn_typed {cs : List V} {u : U} (h : At H shRdn cs u) : ∃ r : PRdn, u = r.u := by
 replace h := At_st.1 h
 obtain ⟨us, rfl, h⟩ := h
 obtain ⟨c1, c2, u1, us1, rfl, rfl, h1, h⟩ := Ats_cons.1 h
 obtain ⟨c3, c4, u2, us2, rfl, rfl, h2, h⟩ := Ats_cons.1 h
 obtain ⟨rfl, rfl⟩ := Ats_nil.1 h
 obtain ⟨s, rfl, rfl, w1⟩ := At_str.1 h1
 obtain ⟨t, rfl, rfl, w2⟩ := At_str.1 h2
 exact ⟨⟨s, t⟩, rfl⟩
theorem attr_at {cs : List V} {a : PAttr} : At H shAttr cs a.u ↔ ∃ v, cs = [.str a.name, v] ∧ a.name.length ≤ maxLen ∧ AStrs H v a.vals := by
 constructor
 ·intro h
  obtain ⟨us, hu, h⟩ := At_st.1 h
  cases hu
  obtain ⟨c1, c2, u1, us1, rfl, hu, h1, h⟩ := Ats_cons.1 h
  cases hu
  obtain ⟨c3, c4, u2, us2, rfl, hu, h2, h⟩ := Ats_cons.1 h
  cases hu
  obtain ⟨rfl, _⟩ := Ats_nil.1 h
  obtain ⟨s, rfl, hs, w1⟩ := At_str.1 h1
  cases hs
  obtain ⟨v, _, rfl, _⟩ := At_slice.1 h2
  exact ⟨v, rfl, w1, h2⟩
 ·rintro ⟨v, rfl, h1, h2⟩
  exact At_st.2 ⟨_, rfl, Ats_cons.2 ⟨[_], _, _, _, rfl, rfl, At_str.2 ⟨_, rfl, rfl, h1⟩, Ats_cons.2 ⟨[_], _, _, _, rfl, rfl, h2, Ats_nil.2 ⟨rfl, rfl⟩⟩⟩⟩
theorem attr_typed {cs : List V} {u : U} (h : At H shAttr cs u) : ∃ r : PAttr, u = r.u := by
 replace h := At_st.1 h
 obtain ⟨us, rfl, h⟩ := h
 obtain ⟨c1, c2, u1, us1, rfl, rfl, h1, h⟩ := Ats_cons.1 h
 obtain ⟨c3, c4, u2, us2, rfl, rfl, h2, h⟩ := Ats_cons.1 h
 obtain ⟨rfl, rfl⟩ := Ats_nil.1 h
 obtain ⟨s, rfl, rfl, w1⟩ := At_str.1 h1
 obtain ⟨v, l, rfl, rfl, _⟩ := strs_typed h2
 exact ⟨⟨s, l⟩, rfl⟩
theorem class_at {cs : List V} {c : PClass} : At H shClass cs c.u ↔ ∃ v1 v2 v3, cs = [.str c.name, v1, v2, v3] ∧ c.name.length ≤ maxLen ∧ AStrs H v1 c.must ∧ AStrs H v2 c.may ∧ AStrs H v3 c.single := by
 constructor
 ·intro h
  obtain ⟨us, hu, h⟩ := At_st.1 h
  cases hu
  obtain ⟨c1, c2, u1, us1, rfl, hu, h1, h⟩ := Ats_cons.1 h
  cases hu
  obtain ⟨c3, c4, u2, us2, rfl, hu, h2, h⟩ := Ats_cons.1 h
  cases hu
  obtain ⟨c5, c6, u3, us3, rfl, hu, h3, h⟩ := Ats_cons.1 h
  cases hu
  obtain ⟨c7, c8, u4, us4, rfl, hu, h4, h⟩ := Ats_cons.1 h
  cases hu
  obtain ⟨rfl, _⟩ := Ats_nil.1 h
  obtain ⟨s, rfl, hs, w1⟩ := At_str.1 h1
  cases hs
  obtain ⟨v1, _, rfl, _⟩ := At_slice.1 h2
  obtain ⟨v2, _, rfl, _⟩ := At_slice.1 h3
  obtain ⟨v3, _, rfl, _⟩ := At_slice.1 h4
  exact ⟨v1, v2, v3, rfl, w1, h2, h3, h4⟩
 ·rintro ⟨v1, v2, v3, rfl, h1, h2, h3, h4⟩
  exact At_st.2 ⟨_, rfl, Ats_cons.2 ⟨[_], _, _, _, rfl, rfl, At_str.2 ⟨_, rfl, rfl, h1⟩, Ats_cons.2 ⟨[_], _, _, _, rfl, rfl, h2, Ats_cons.2 ⟨[_], _, _, _, rfl, rfl, h3, Ats_cons.2 ⟨[_], _, _, _, rfl, rfl, h4, Ats_nil.2 ⟨rfl, rfl⟩⟩⟩⟩⟩⟩
theorem class_typed {cs : List V} {u : U} (h : At H shClass cs u) : ∃ r : PClass, u = r.u := by
 replace h := At_st.1 h
 obtain ⟨us, rfl, h⟩ := h
 obtain ⟨c1, c2, u1, us1, rfl, rfl, h1, h⟩ := Ats_cons.1 h
 obtain ⟨c3, c4, u2, us2, rfl, rfl, h2, h⟩ := Ats_cons.1 h
 obtain ⟨c5, c6, u3, us3, rfl, rfl, h3, h⟩ := Ats_cons.1 h
 obtain ⟨c7, c8, u4, us4, rfl, rfl, h4, h⟩ := Ats_cons.1 h
 obtain ⟨rfl, rfl⟩ := Ats_nil.1 h
 obtain ⟨s, rfl, rfl, w1⟩ := At_str.1 h1
 obtain ⟨v, l, rfl, rfl, _⟩ := strs_typed h2
 obtain ⟨v', l', rfl, rfl, _⟩ := strs_typed h3
 obtain ⟨v'', l'', rfl, rfl, _⟩ := strs_typed h4
 exact ⟨⟨s, l, l', l''⟩, rfl⟩
theorem entry_at {cs : List V} {e : PEntry} : At H shEntry cs e.u ↔ ∃ v1 v2, cs = [v1, v2] ∧ ARdns H v1 e.dn ∧ AAttrs H v2 e.attrs := by
 constructor
 ·intro h
  obtain ⟨us, hu, h⟩ := At_st.1 h
  cases hu
  obtain ⟨c1, c2, u1, us1, rfl, hu, h1, h⟩ := Ats_cons.1 h
  cases hu
  obtain ⟨c3, c4, u2, us2, rfl, hu, h2, h⟩ := Ats_cons.1 h
  cases hu
  obtain ⟨rfl, _⟩ := Ats_nil.1 h
  obtain ⟨v1, _, rfl, _⟩ := At_slice.1 h1
  obtain ⟨v2, _, rfl, _⟩ := At_slice.1 h2
  exact ⟨v1, v2, rfl, h1, h2⟩
 ·rintro ⟨v1, v2, rfl, h1, h2⟩
  exact At_st.2 ⟨_, rfl, Ats_cons.2 ⟨[_], _, _, _, rfl, rfl, h1, Ats_cons.2 ⟨[_], _, _, _, rfl, rfl, h2, Ats_nil.2 ⟨rfl, rfl⟩⟩⟩⟩
theorem entry_typed {cs : List V} {u : U} (h : At H shEntry cs u) : ∃ r : PEntry, u = r.u := by
 replace h := At_st.1 h
 obtain ⟨us, rfl, h⟩ := h
 obtain ⟨c1, c2, u1, us1, rfl, rfl, h1, h⟩ := Ats_cons.1 h
 obtain ⟨c3, c4, u2, us2, rfl, rfl, h2, h⟩ := Ats_cons.1 h
 obtain ⟨rfl, rfl⟩ := Ats_nil.1 h
 obtain ⟨v, l, rfl, rfl, _⟩ := ASl.typed (fun _ _ => rdn_typed) h1
 obtain ⟨v', l', rfl, rfl, _⟩ := ASl.typed (fun _ _ => attr_typed) h2
 exact ⟨⟨l, l'⟩, rfl⟩
theorem strs_idx {xs : List Str} (h : AStrs H v xs) {i : Nat} {s : Str} (hx : xs[i]? = some s) : ∃ id o,
  (∀ (e s b : Nat) (z : List V) (ty : Nat → LT) (k : IntKind), (ty e).size = 1 → indexR ⟨.slice e, s, b, z⟩ ty (.val v) (.int k i) = some (.val (.ptr (some (id, o))))) ∧
  (∀ T : LT, T.one → ∀ r c, loadAt T ⟨r, c, H⟩ (.hp id o) = some (.str s)) ∧ s.length ≤ maxLen := by
 obtain ⟨id, o, own, cells, e1, e2, e3, e4⟩ := ASl.idx h hx (by decide)
 obtain ⟨t, e4, ht, e5⟩ := At_str.1 e4
 cases ht
 exact ⟨id, o, e1, load1 e2 (by simpa using cells_get e4 (j := 0) rfl), e5⟩
theorem rdns_idx {xs : List PRdn} (h : ARdns H v xs) {i : Nat} {x : PRdn} (hx : xs[i]? = some x) : ∃ id o,
  (∀ (e s b : Nat) (z : List V) (ty : Nat → LT) (k : IntKind), (ty e).size = 2 → indexR ⟨.slice e, s, b, z⟩ ty (.val v) (.int k i) = some (.val (.ptr (some (id, o))))) ∧
  (∀ T : LT, T.one → ∀ r c, loadAt T ⟨r, c, H⟩ (.hp id o) = some (.str x.attr)) ∧ (∀ T : LT, T.one → ∀ r c, loadAt T ⟨r, c, H⟩ (.hp id (o + 1)) = some (.str x.value)) ∧
  (∀ T : LT, T.many 2 → ∀ r c, loadAt T ⟨r, c, H⟩ (.hp id o) = some (.agg [.str x.attr, .str x.value])) ∧ At H shRdn [.str x.attr, .str x.value] x.u := by
 obtain ⟨id, o, own, cells, e1, e2, e3, e4⟩ := ASl.idx h hx (by decide)
 have e6 := e4
 obtain ⟨e4, e5⟩ := rdn_at.1 e4
 rw [e4] at e6
 exact ⟨id, o, e1, load1 e2 (by simpa using cells_get e4 (j := 0) rfl), load1 e2 (by simpa using cells_get e4 (j := 1) rfl), loadN e2 e3 (by decide) e4, e6⟩
theorem attrs_idx {xs : List PAttr} (h : AAttrs H v xs) {i : Nat} {x : PAttr} (hx : xs[i]? = some x) : ∃ id o w,
  (∀ (e s b : Nat) (z : List V) (ty : Nat → LT) (k : IntKind), (ty e).size = 2 → indexR ⟨.slice e, s, b, z⟩ ty (.val v) (.int k i) = some (.val (.ptr (some (id, o))))) ∧
  (∀ T : LT, T.one → ∀ r c, loadAt T ⟨r, c, H⟩ (.hp id o) = some (.str x.name)) ∧ (∀ T : LT, T.one → ∀ r c, loadAt T ⟨r, c, H⟩ (.hp id (o + 1)) = some w) ∧
  (∀ T : LT, T.many 2 → ∀ r c, loadAt T ⟨r, c, H⟩ (.hp id o) = some (.agg [.str x.name, w])) ∧ AStrs H w x.vals ∧ At H shAttr [.str x.name, w] x.u ∧ x.name.length ≤ maxLen := by
 obtain ⟨id, o, own, cells, e1, e2, e3, e4⟩ := ASl.idx h hx (by decide)
 have e6 := e4
 obtain ⟨w, e4, e7, e5⟩ := attr_at.1 e4
 rw [e4] at e6
 exact ⟨id, o, w, e1, load1 e2 (by simpa using cells_get e4 (j := 0) rfl), load1 e2 (by simpa using cells_get e4 (j := 1) rfl), loadN e2 e3 (by decide) e4, e5, e6, e7⟩
theorem classes_idx {xs : List PClass} (h : AClasses H v xs) {i : Nat} {x : PClass} (hx : xs[i]? = some x) : ∃ id o w1 w2 w3,
  (∀ (e s b : Nat) (z : List V) (ty : Nat → LT) (k : IntKind), (ty e).size = 4 → indexR ⟨.slice e, s, b, z⟩ ty (.val v) (.int k i) = some (.val (.ptr (some (id, o))))) ∧
  (∀ T : LT, T.one → ∀ r c, loadAt T ⟨r, c, H⟩ (.hp id o) = some (.str x.name)) ∧
  (∀ T : LT, T.many 4 → ∀ r c, loadAt T ⟨r, c, H⟩ (.hp id o) = some (.agg [.str x.name, w1, w2, w3])) ∧ AStrs H w1 x.must ∧ AStrs H w2 x.may ∧ AStrs H w3 x.single ∧ At H shClass [.str x.name, w1, w2, w3] x.u ∧ x.name.length ≤ maxLen := by
 obtain ⟨id, o, own, cells, e1, e2, e3, e4⟩ := ASl.idx h hx (by decide)
 have e6 := e4
 obtain ⟨w1, w2, w3, e4, e7, e8, e9, e5⟩ := class_at.1 e4
 rw [e4] at e6
 exact ⟨id, o, w1, w2, w3, e1, load1 e2 (by simpa using cells_get e4 (j := 0) rfl), loadN e2 e3 (by decide) e4, e8, e9, e5, e6, e7⟩
theorem classes_idxT {xs : List PClass} (h : AClasses H v xs) {i : Nat} {x : PClass} (hx : xs[i]? = some x) : ∃ id o w1 w2 w3,
  (∀ (e s b : Nat) (z : List V) (ty : Nat → LT) (k : IntKind), (ty e).size = 4 → indexR ⟨.slice e, s, b, z⟩ ty (.val v) (.int k i) = some (.val (.ptr (some (id, o))))) ∧
  (∀ T' : List Ob, ∀ T : LT, T.many 4 → ∀ r c, loadAt T ⟨r, c, H ++ T'⟩ (.hp id o) = some (.agg [.str x.name, w1, w2, w3])) ∧ AStrs H w1 x.must ∧ AStrs H w2 x.may ∧ AStrs H w3 x.single := by
 obtain ⟨id, o, own, cells, e1, e2, e3, e4⟩ := ASl.idx h hx (by decide)
 obtain ⟨w1, w2, w3, e4, e7, e8, e9, e5⟩ := class_at.1 e4
 exact ⟨id, o, w1, w2, w3, e1, fun T' => loadN (up_append _ _ e2) e3 (by decide) e4, e8, e9, e5⟩
end
end Go.Lite
end
