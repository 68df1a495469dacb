/- Part 07 of the proof of a law: the interpreter, its soundness, and what functions of the program compute over it. Conditions: none but those that each theorem names. -/
import Derived.Test.YtipjjjlomghdfaaGreatDoorU06
import Derived.KernelRfl

set_option linter.all false
set_option maxRecDepth 20000
set_option maxHeartbeats 40000000
section
namespace Go.Proofs.Try1
open Go Go.Lite
noncomputable def C : Ctx := ctxOf Tryz.prog tabs
variable {a : List V} {H : List Ob} {R : V → List Ob → Prop}
@[simp] theorem ty2 : C.ty 2 = ⟨.int .i64, 1, 8, [.int .i64 0]⟩ := by kernel_rfl
@[simp] theorem ty3 : C.ty 3 = ⟨.int .i64, 1, 8, [.int .i64 0]⟩ := by kernel_rfl
@[simp] theorem ty4 : C.ty 4 = ⟨.bool, 1, 1, [.bool false]⟩ := by kernel_rfl
@[simp] theorem ty5 : C.ty 5 = ⟨.int .u8, 1, 1, [.int .u8 0]⟩ := by kernel_rfl
@[simp] theorem ty9 : C.ty 9 = ⟨.str, 1, 16, [.str []]⟩ := by kernel_rfl
@[simp] theorem RF : C.ty 21 = ⟨.int .i32, 1, 4, [.int .i32 0]⟩ := by kernel_rfl
@[simp] theorem IE : C.ty 22 = ⟨.slice 189, 1, 24, [.slc none 0]⟩ := by kernel_rfl
@[simp] theorem Ee : C.ty 23 = ⟨.slice 193, 1, 24, [.slc none 0]⟩ := by kernel_rfl
@[simp] theorem Rz : C.ty 25 = ⟨.struct [(0, 22), (1, 23)], 2, 48, [.slc none 0, .slc none 0]⟩ := by kernel_rfl
@[simp] theorem Ep : C.ty 26 = ⟨.slice 150, 1, 24, [.slc none 0]⟩ := by kernel_rfl
@[simp] theorem Jp : C.ty 27 = ⟨.slice 241, 1, 24, [.slc none 0]⟩ := by kernel_rfl
@[simp] theorem Rx : C.ty 29 = ⟨.struct [(0, 2), (1, 27)], 2, 32, [.int .i64 0, .slc none 0]⟩ := by kernel_rfl
@[simp] theorem Rt : C.ty 31 = ⟨.struct [(0, 25), (2, 26), (3, 29), (5, 9)], 6, 120, [.slc none 0, .slc none 0, .slc none 0, .int .i64 0, .slc none 0, .str []]⟩ := by kernel_rfl
@[simp] theorem IA : C.ty 34 = ⟨.slice 208, 1, 24, [.slc none 0]⟩ := by kernel_rfl
@[simp] theorem EZ : C.ty 35 = ⟨.slice 155, 1, 24, [.slc none 0]⟩ := by kernel_rfl
@[simp] theorem Ro : C.ty 37 = ⟨.struct [(0, 34), (1, 35)], 2, 48, [.slc none 0, .slc none 0]⟩ := by kernel_rfl
@[simp] theorem Es : C.ty 38 = ⟨.slice 162, 1, 24, [.slc none 0]⟩ := by kernel_rfl
@[simp] theorem DZ : C.ty 39 = ⟨.slice 164, 1, 24, [.slc none 0]⟩ := by kernel_rfl
@[simp] theorem Rn : C.ty 41 = ⟨.struct [(0, 2), (1, 39)], 2, 32, [.int .i64 0, .slc none 0]⟩ := by kernel_rfl
@[simp] theorem RG : C.ty 43 = ⟨.struct [(0, 37), (2, 38), (3, 41), (5, 9)], 6, 120, [.slc none 0, .slc none 0, .slc none 0, .int .i64 0, .slc none 0, .str []]⟩ := by kernel_rfl
@[simp] theorem FT : C.ty 47 = ⟨.slice 180, 1, 24, [.slc none 0]⟩ := by kernel_rfl
@[simp] theorem DJ : C.ty 56 = ⟨.slice 202, 1, 24, [.slc none 0]⟩ := by kernel_rfl
@[simp] theorem Ry : C.ty 71 = ⟨.struct [(0, 2), (1, 2), (2, 35)], 3, 40, [.int .i64 0, .int .i64 0, .slc none 0]⟩ := by kernel_rfl
@[simp] theorem RD : C.ty 73 = ⟨.struct [(0, 43), (6, 71), (9, 2)], 10, 168, [.slc none 0, .slc none 0, .slc none 0, .int .i64 0, .slc none 0, .str [], .int .i64 0, .int .i64 0, .slc none 0, .int .i64 0]⟩ := by kernel_rfl
@[simp] theorem Ru : C.ty 99 = ⟨.func, 1, 8, [.nilfn]⟩ := by kernel_rfl
@[simp] theorem Rh : C.ty 116 = ⟨.ptr, 1, 8, [.ptr none]⟩ := by kernel_rfl
@[simp] theorem QU : C.ty 133 = ⟨.struct [(0, 41), (2, 39), (3, 2)], 4, 64, [.int .i64 0, .slc none 0, .slc none 0, .int .i64 0]⟩ := by kernel_rfl
@[simp] theorem Rl : C.ty 148 = ⟨.slice 9, 1, 24, [.slc none 0]⟩ := by kernel_rfl
@[simp] theorem jJ : C.ty 150 = ⟨.struct [(0, 9), (1, 47), (2, 148), (3, 2), (4, 4)], 5, 80, [.str [], .slc none 0, .slc none 0, .int .i64 0, .bool false]⟩ := by kernel_rfl
@[simp] theorem BO : C.ty 153 = ⟨.slice 249, 1, 24, [.slc none 0]⟩ := by kernel_rfl
@[simp] theorem qA : C.ty 155 = ⟨.struct [(0, 56), (1, 153)], 2, 48, [.slc none 0, .slc none 0]⟩ := by kernel_rfl
@[simp] theorem QQ : C.ty 156 = ⟨.func, 1, 8, [.nilfn]⟩ := by kernel_rfl
@[simp] theorem Q5 : C.ty 160 = ⟨.func, 1, 8, [.nilfn]⟩ := by kernel_rfl
@[simp] theorem sO : C.ty 162 = ⟨.struct [(0, 9), (1, 56), (2, 148), (3, 2), (4, 4)], 5, 80, [.str [], .slc none 0, .slc none 0, .int .i64 0, .bool false]⟩ := by kernel_rfl
@[simp] theorem l9 : C.ty 164 = ⟨.struct [(0, 2), (1, 2), (2, 9), (3, 155)], 5, 80, [.int .i64 0, .int .i64 0, .str [], .slc none 0, .slc none 0]⟩ := by kernel_rfl
@[simp] theorem QT : C.ty 174 = ⟨.func, 1, 8, [.nilfn]⟩ := by kernel_rfl
@[simp] theorem kC : C.ty 180 = ⟨.struct [(0, 9), (1, 9)], 2, 32, [.str [], .str []]⟩ := by kernel_rfl
@[simp] theorem ku : C.ty 189 = ⟨.struct [(0, 9), (1, 148), (2, 148), (3, 148)], 4, 88, [.str [], .slc none 0, .slc none 0, .slc none 0]⟩ := by kernel_rfl
@[simp] theorem CE : C.ty 191 = ⟨.slice 323, 1, 24, [.slc none 0]⟩ := by kernel_rfl
@[simp] theorem jM : C.ty 193 = ⟨.struct [(0, 47), (1, 191)], 2, 48, [.slc none 0, .slc none 0]⟩ := by kernel_rfl
@[simp] theorem mg : C.ty 202 = ⟨.struct [(0, 9), (1, 9)], 2, 32, [.str [], .str []]⟩ := by kernel_rfl
@[simp] theorem sD : C.ty 208 = ⟨.struct [(0, 9), (1, 148), (2, 148), (3, 148)], 4, 88, [.str [], .slc none 0, .slc none 0, .slc none 0]⟩ := by kernel_rfl
@[simp] theorem Q9 : C.ty 212 = ⟨.ptr, 1, 8, [.ptr none]⟩ := by kernel_rfl
@[simp] theorem Gz : C.ty 222 = ⟨.slice 5, 1, 24, [.slc none 0]⟩ := by kernel_rfl
@[simp] theorem jW : C.ty 241 = ⟨.struct [(0, 2), (1, 2), (2, 9), (3, 193)], 5, 80, [.int .i64 0, .int .i64 0, .str [], .slc none 0, .slc none 0]⟩ := by kernel_rfl
@[simp] theorem Q4 : C.ty 242 = ⟨.func, 1, 8, [.nilfn]⟩ := by kernel_rfl
@[simp] theorem QY : C.ty 247 = ⟨.func, 1, 8, [.nilfn]⟩ := by kernel_rfl
@[simp] theorem rX : C.ty 249 = ⟨.struct [(0, 9), (1, 148)], 2, 40, [.str [], .slc none 0]⟩ := by kernel_rfl
@[simp] theorem Rj : C.ty 268 = ⟨.array 256 4, 256, 256, List.replicate 256 (.bool false)⟩ := by kernel_rfl
@[simp] theorem Rf : C.ty 272 = ⟨.ptr, 1, 8, [.ptr none]⟩ := by kernel_rfl
@[simp] theorem Q3 : C.ty 286 = ⟨.func, 1, 8, [.nilfn]⟩ := by kernel_rfl
@[simp] theorem Q8 : C.ty 291 = ⟨.slice 148, 1, 24, [.slc none 0]⟩ := by kernel_rfl
@[simp] theorem jS : C.ty 323 = ⟨.struct [(0, 9), (1, 148)], 2, 40, [.str [], .slc none 0]⟩ := by kernel_rfl
@[simp] theorem QW : C.ty 349 = ⟨.int .u64, 1, 8, [.int .u64 0]⟩ := by kernel_rfl
@[simp] theorem Ri : C.ty 360 = ⟨.array 256 5, 256, 256, List.replicate 256 (.int .u8 0)⟩ := by kernel_rfl
@[simp] theorem QS : C.ty 362 = ⟨.struct [(0, 5), (1, 5)], 2, 2, [.int .u8 0, .int .u8 0]⟩ := by kernel_rfl
@[simp] theorem Rk : C.ty 363 = ⟨.array 16 362, 32, 32, List.replicate 32 (.int .u8 0)⟩ := by kernel_rfl
@[simp] theorem QR : C.ty 378 = ⟨.func, 1, 8, [.nilfn]⟩ := by kernel_rfl
noncomputable def yH := Tryz.f5.body.getD .skip
theorem Rq : Ret C 5 a H R ↔ WP C 5 yH ⟨initRegs a, 0, H⟩ (finQ C Tryz.f5 H R) := Ret_fn rfl (by kernel_rfl) Tryz.func5 rfl
@[simp] theorem QX : C.locs 5 = [2, 6, 7, 8, 12] := by kernel_rfl
noncomputable def kw := Tryz.f8.body.getD .skip
theorem op8 : Ret C 8 a H R ↔ WP C 8 kw ⟨initRegs a, 0, H⟩ (finQ C Tryz.f8 H R) := Ret_fn rfl (by kernel_rfl) Tryz.func8 rfl
@[simp] theorem QZ : C.locs 8 = [2] := by kernel_rfl
noncomputable def kD := Tryz.f9.body.getD .skip
theorem op9 : Ret C 9 a H R ↔ WP C 9 kD ⟨initRegs a, 0, H⟩ (finQ C Tryz.f9 H R) := Ret_fn rfl (by kernel_rfl) Tryz.func9 rfl
@[simp] theorem Q7 : C.locs 9 = [1] := by kernel_rfl
noncomputable def zh := Tryz.f10.body.getD .skip
theorem Qz : Ret C 10 a H R ↔ WP C 10 zh ⟨initRegs a, 0, H⟩ (finQ C Tryz.f10 H R) := Ret_fn rfl (by kernel_rfl) Tryz.func10 rfl
@[simp] theorem OI : C.locs 10 = [1, 2, 3] := by kernel_rfl
noncomputable def gp := Tryz.f11.body.getD .skip
theorem P8 : Ret C 11 a H R ↔ WP C 11 gp ⟨initRegs a, 0, H⟩ (finQ C Tryz.f11 H R) := Ret_fn rfl (by kernel_rfl) Tryz.func11 rfl
@[simp] theorem Qn : C.locs 11 = [1] := by kernel_rfl
noncomputable def fP := Tryz.f12.body.getD .skip
theorem yY : Ret C 12 a H R ↔ WP C 12 fP ⟨initRegs a, 0, H⟩ (finQ C Tryz.f12 H R) := Ret_fn rfl (by kernel_rfl) Tryz.func12 rfl
@[simp] theorem Qs : C.locs 12 = [2, 3] := by kernel_rfl
noncomputable def lU := Tryz.f14.body.getD .skip
theorem DF : Ret C 14 a H R ↔ WP C 14 lU ⟨initRegs a, 0, H⟩ (finQ C Tryz.f14 H R) := Ret_fn rfl (by kernel_rfl) Tryz.func14 rfl
@[simp] theorem P9 : C.locs 14 = [2] := by kernel_rfl
noncomputable def wO := Tryz.f17.body.getD .skip
theorem PN : Ret C 17 a H R ↔ WP C 17 wO ⟨initRegs a, 0, H⟩ (finQ C Tryz.f17 H R) := Ret_fn rfl (by kernel_rfl) Tryz.func17 rfl
@[simp] theorem Py : C.locs 17 = [1, 2, 3] := by kernel_rfl
noncomputable def lY := Tryz.f21.body.getD .skip
theorem D5 : Ret C 21 a H R ↔ WP C 21 lY ⟨initRegs a, 0, H⟩ (finQ C Tryz.f21 H R) := Ret_fn rfl (by kernel_rfl) Tryz.func21 rfl
@[simp] theorem QJ : C.locs 21 = [2, 3] := by kernel_rfl
noncomputable def zk := Tryz.f23.body.getD .skip
theorem OY : Ret C 23 a H R ↔ WP C 23 zk ⟨initRegs a, 0, H⟩ (finQ C Tryz.f23 H R) := Ret_fn rfl (by kernel_rfl) Tryz.func23 rfl
@[simp] theorem Pg : C.locs 23 = [2] := by kernel_rfl
noncomputable def oN := Tryz.f26.body.getD .skip
theorem OT : Ret C 26 a H R ↔ WP C 26 oN ⟨initRegs a, 0, H⟩ (finQ C Tryz.f26 H R) := Ret_fn rfl (by kernel_rfl) Tryz.func26 rfl
@[simp] theorem O9 : C.locs 26 = [2, 4, 5] := by kernel_rfl
noncomputable def oW := Tryz.f27.body.getD .skip
theorem PQ : Ret C 27 a H R ↔ WP C 27 oW ⟨initRegs a, 0, H⟩ (finQ C Tryz.f27 H R) := Ret_fn rfl (by kernel_rfl) Tryz.func27 rfl
@[simp] theorem QH : C.locs 27 = [2, 4, 5] := by kernel_rfl
noncomputable def iY := Tryz.f28.body.getD .skip
theorem Am : Ret C 28 a H R ↔ WP C 28 iY ⟨initRegs a, 0, H⟩ (finQ C Tryz.f28 H R) := Ret_fn rfl (by kernel_rfl) Tryz.func28 rfl
@[simp] theorem Qg : C.locs 28 = [2, 3] := by kernel_rfl
noncomputable def yN := Tryz.f29.body.getD .skip
theorem PH : Ret C 29 a H R ↔ WP C 29 yN ⟨initRegs a, 0, H⟩ (finQ C Tryz.f29 H R) := Ret_fn rfl (by kernel_rfl) Tryz.func29 rfl
@[simp] theorem Qa : C.locs 29 = [2] := by kernel_rfl
noncomputable def xh := Tryz.f30.body.getD .skip
theorem OX : Ret C 30 a H R ↔ WP C 30 xh ⟨initRegs a, 0, H⟩ (finQ C Tryz.f30 H R) := Ret_fn rfl (by kernel_rfl) Tryz.func30 rfl
@[simp] theorem QE : C.locs 30 = [2] := by kernel_rfl
noncomputable def xg := Tryz.f31.body.getD .skip
theorem Pn : Ret C 31 a H R ↔ WP C 31 xg ⟨initRegs a, 0, H⟩ (finQ C Tryz.f31 H R) := Ret_fn rfl (by kernel_rfl) Tryz.func31 rfl
@[simp] theorem Qi : C.locs 31 = [2] := by kernel_rfl
noncomputable def yE := Tryz.f39.body.getD .skip
theorem QC : Ret C 39 a H R ↔ WP C 39 yE ⟨initRegs a, 0, H⟩ (finQ C Tryz.f39 H R) := Ret_fn rfl (by kernel_rfl) Tryz.func39 rfl
@[simp] theorem PE : C.locs 39 = [] := by kernel_rfl
noncomputable def pM := Tryz.f40.body.getD .skip
theorem GG : Ret C 40 a H R ↔ WP C 40 pM ⟨initRegs a, 0, H⟩ (finQ C Tryz.f40 H R) := Ret_fn rfl (by kernel_rfl) Tryz.func40 rfl
@[simp] theorem Qk : C.locs 40 = [2] := by kernel_rfl
noncomputable def kF := Tryz.f41.body.getD .skip
theorem QK : Ret C 41 a H R ↔ WP C 41 kF ⟨initRegs a, 0, H⟩ (finQ C Tryz.f41 H R) := Ret_fn rfl (by kernel_rfl) Tryz.func41 rfl
@[simp] theorem Qo : C.locs 41 = [1, 4] := by kernel_rfl
noncomputable def xB := Tryz.f42.body.getD .skip
theorem Qh : Ret C 42 a H R ↔ WP C 42 xB ⟨initRegs a, 0, H⟩ (finQ C Tryz.f42 H R) := Ret_fn rfl (by kernel_rfl) Tryz.func42 rfl
@[simp] theorem Qx : C.locs 42 = [] := by kernel_rfl
noncomputable def kQ := Tryz.f43.body.getD .skip
theorem OO : Ret C 43 a H R ↔ WP C 43 kQ ⟨initRegs a, 0, H⟩ (finQ C Tryz.f43 H R) := Ret_fn rfl (by kernel_rfl) Tryz.func43 rfl
@[simp] theorem O0 : C.locs 43 = [1, 4] := by kernel_rfl
noncomputable def bH := Tryz.f44.body.getD .skip
theorem Fv : C.fids 44 = true := by kernel_rfl
theorem FZ : Tryz.f44.body = some bH := rfl
theorem H8 : C.prim 44 = none := rfl
theorem GL : C.funcs 44 = some Tryz.f44 := Tryz.func44
theorem Di : Ret C 44 a H R ↔ WP C 44 bH ⟨initRegs a, 0, H⟩ (finQ C Tryz.f44 H R) := Ret_fn rfl (by kernel_rfl) Tryz.func44 rfl
@[simp] theorem DR : C.locs 44 = [] := by kernel_rfl
noncomputable def yM := Tryz.f45.body.getD .skip
theorem PP : Ret C 45 a H R ↔ WP C 45 yM ⟨initRegs a, 0, H⟩ (finQ C Tryz.f45 H R) := Ret_fn rfl (by kernel_rfl) Tryz.func45 rfl
@[simp] theorem Px : C.locs 45 = [] := by kernel_rfl
noncomputable def wP := Tryz.f46.body.getD .skip
theorem PG : Ret C 46 a H R ↔ WP C 46 wP ⟨initRegs a, 0, H⟩ (finQ C Tryz.f46 H R) := Ret_fn rfl (by kernel_rfl) Tryz.func46 rfl
@[simp] theorem Qw : C.locs 46 = [1, 2, 3] := by kernel_rfl
noncomputable def lL := Tryz.f47.body.getD .skip
theorem Qd : Ret C 47 a H R ↔ WP C 47 lL ⟨initRegs a, 0, H⟩ (finQ C Tryz.f47 H R) := Ret_fn rfl (by kernel_rfl) Tryz.func47 rfl
@[simp] theorem Qq : C.locs 47 = [4] := by kernel_rfl
noncomputable def lM := Tryz.f48.body.getD .skip
theorem Po : Ret C 48 a H R ↔ WP C 48 lM ⟨initRegs a, 0, H⟩ (finQ C Tryz.f48 H R) := Ret_fn rfl (by kernel_rfl) Tryz.func48 rfl
@[simp] theorem OV : C.locs 48 = [] := by kernel_rfl
noncomputable def jA := Tryz.f49.body.getD .skip
theorem O4 : Ret C 49 a H R ↔ WP C 49 jA ⟨initRegs a, 0, H⟩ (finQ C Tryz.f49 H R) := Ret_fn rfl (by kernel_rfl) Tryz.func49 rfl
@[simp] theorem Pi : C.locs 49 = [1, 5] := by kernel_rfl
noncomputable def eF := Tryz.f50.body.getD .skip
theorem PK : Ret C 50 a H R ↔ WP C 50 eF ⟨initRegs a, 0, H⟩ (finQ C Tryz.f50 H R) := Ret_fn rfl (by kernel_rfl) Tryz.func50 rfl
@[simp] theorem QB : C.locs 50 = [] := by kernel_rfl
noncomputable def xk := Tryz.f51.body.getD .skip
theorem Qc : Ret C 51 a H R ↔ WP C 51 xk ⟨initRegs a, 0, H⟩ (finQ C Tryz.f51 H R) := Ret_fn rfl (by kernel_rfl) Tryz.func51 rfl
@[simp] theorem Ql : C.locs 51 = [] := by kernel_rfl
noncomputable def lw := Tryz.f52.body.getD .skip
theorem D6 : Ret C 52 a H R ↔ WP C 52 lw ⟨initRegs a, 0, H⟩ (finQ C Tryz.f52 H R) := Ret_fn rfl (by kernel_rfl) Tryz.func52 rfl
@[simp] theorem QD : C.locs 52 = [2, 3] := by kernel_rfl
noncomputable def je := Tryz.f53.body.getD .skip
theorem QN : Ret C 53 a H R ↔ WP C 53 je ⟨initRegs a, 0, H⟩ (finQ C Tryz.f53 H R) := Ret_fn rfl (by kernel_rfl) Tryz.func53 rfl
@[simp] theorem QL : C.locs 53 = [] := by kernel_rfl
noncomputable def xP := Tryz.f56.body.getD .skip
theorem OG : Ret C 56 a H R ↔ WP C 56 xP ⟨initRegs a, 0, H⟩ (finQ C Tryz.f56 H R) := Ret_fn rfl (by kernel_rfl) Tryz.func56 rfl
@[simp] theorem Qv : C.locs 56 = [] := by kernel_rfl
noncomputable def yg := Tryz.f57.body.getD .skip
theorem O5 : Ret C 57 a H R ↔ WP C 57 yg ⟨initRegs a, 0, H⟩ (finQ C Tryz.f57 H R) := Ret_fn rfl (by kernel_rfl) Tryz.func57 rfl
@[simp] theorem Qu : C.locs 57 = [] := by kernel_rfl
noncomputable def lH := Tryz.f60.body.getD .skip
theorem QF : Ret C 60 a H R ↔ WP C 60 lH ⟨initRegs a, 0, H⟩ (finQ C Tryz.f60 H R) := Ret_fn rfl (by kernel_rfl) Tryz.func60 rfl
@[simp] theorem QM : C.locs 60 = [] := by kernel_rfl
noncomputable def wF := Tryz.f63.body.getD .skip
theorem Qb : Ret C 63 a H R ↔ WP C 63 wF ⟨initRegs a, 0, H⟩ (finQ C Tryz.f63 H R) := Ret_fn rfl (by kernel_rfl) Tryz.func63 rfl
@[simp] theorem P6 : C.locs 63 = [] := by kernel_rfl
noncomputable def yV := Tryz.f64.body.getD .skip
theorem O8 : Ret C 64 a H R ↔ WP C 64 yV ⟨initRegs a, 0, H⟩ (finQ C Tryz.f64 H R) := Ret_fn rfl (by kernel_rfl) Tryz.func64 rfl
@[simp] theorem PR : C.locs 64 = [] := by kernel_rfl
noncomputable def jq := Tryz.f68.body.getD .skip
theorem Pv : Ret C 68 a H R ↔ WP C 68 jq ⟨initRegs a, 0, H⟩ (finQ C Tryz.f68 H R) := Ret_fn rfl (by kernel_rfl) Tryz.func68 rfl
@[simp] theorem O7 : C.locs 68 = [] := by kernel_rfl
noncomputable def yT := Tryz.f71.body.getD .skip
theorem PY : Ret C 71 a H R ↔ WP C 71 yT ⟨initRegs a, 0, H⟩ (finQ C Tryz.f71 H R) := Ret_fn rfl (by kernel_rfl) Tryz.func71 rfl
@[simp] theorem O6 : C.locs 71 = [] := by kernel_rfl
noncomputable def yO := Tryz.f72.body.getD .skip
theorem O1 : Ret C 72 a H R ↔ WP C 72 yO ⟨initRegs a, 0, H⟩ (finQ C Tryz.f72 H R) := Ret_fn rfl (by kernel_rfl) Tryz.func72 rfl
@[simp] theorem PI : C.locs 72 = [] := by kernel_rfl
noncomputable def yQ := Tryz.f73.body.getD .skip
theorem QA : Ret C 73 a H R ↔ WP C 73 yQ ⟨initRegs a, 0, H⟩ (finQ C Tryz.f73 H R) := Ret_fn rfl (by kernel_rfl) Tryz.func73 rfl
@[simp] theorem OM : C.locs 73 = [] := by kernel_rfl
noncomputable def yP := Tryz.f76.body.getD .skip
theorem Qp : Ret C 76 a H R ↔ WP C 76 yP ⟨initRegs a, 0, H⟩ (finQ C Tryz.f76 H R) := Ret_fn rfl (by kernel_rfl) Tryz.func76 rfl
@[simp] theorem OW : C.locs 76 = [] := by kernel_rfl
noncomputable def xH := Tryz.f77.body.getD .skip
theorem PS : Ret C 77 a H R ↔ WP C 77 xH ⟨initRegs a, 0, H⟩ (finQ C Tryz.f77 H R) := Ret_fn rfl (by kernel_rfl) Tryz.func77 rfl
@[simp] theorem Pm : C.locs 77 = [] := by kernel_rfl
noncomputable def oM := Tryz.f78.body.getD .skip
theorem QO : Ret C 78 a H R ↔ WP C 78 oM ⟨initRegs a, 0, H⟩ (finQ C Tryz.f78 H R) := Ret_fn rfl (by kernel_rfl) Tryz.func78 rfl
@[simp] theorem Ph : C.locs 78 = [] := by kernel_rfl
noncomputable def wQ := Tryz.f79.body.getD .skip
theorem PU : Ret C 79 a H R ↔ WP C 79 wQ ⟨initRegs a, 0, H⟩ (finQ C Tryz.f79 H R) := Ret_fn rfl (by kernel_rfl) Tryz.func79 rfl
@[simp] theorem QI : C.locs 79 = [1, 2] := by kernel_rfl
noncomputable def yA := Tryz.f80.body.getD .skip
theorem Qy : Ret C 80 a H R ↔ WP C 80 yA ⟨initRegs a, 0, H⟩ (finQ C Tryz.f80 H R) := Ret_fn rfl (by kernel_rfl) Tryz.func80 rfl
@[simp] theorem Qe : C.locs 80 = [2, 4, 5] := by kernel_rfl
noncomputable def yG := Tryz.f81.body.getD .skip
theorem O3 : Ret C 81 a H R ↔ WP C 81 yG ⟨initRegs a, 0, H⟩ (finQ C Tryz.f81 H R) := Ret_fn rfl (by kernel_rfl) Tryz.func81 rfl
@[simp] theorem P7 : C.locs 81 = [1, 2] := by kernel_rfl
noncomputable def yD := Tryz.f82.body.getD .skip
theorem QP : Ret C 82 a H R ↔ WP C 82 yD ⟨initRegs a, 0, H⟩ (finQ C Tryz.f82 H R) := Ret_fn rfl (by kernel_rfl) Tryz.func82 rfl
@[simp] theorem OJ : C.locs 82 = [2, 4, 5] := by kernel_rfl
noncomputable def jy := Tryz.f83.body.getD .skip
theorem Af : Ret C 83 a H R ↔ WP C 83 jy ⟨initRegs a, 0, H⟩ (finQ C Tryz.f83 H R) := Ret_fn rfl (by kernel_rfl) Tryz.func83 rfl
@[simp] theorem QG : C.locs 83 = [2, 3] := by kernel_rfl
noncomputable def wG := Tryz.f84.body.getD .skip
theorem Pj : Ret C 84 a H R ↔ WP C 84 wG ⟨initRegs a, 0, H⟩ (finQ C Tryz.f84 H R) := Ret_fn rfl (by kernel_rfl) Tryz.func84 rfl
@[simp] theorem Qm : C.locs 84 = [] := by kernel_rfl
noncomputable def yZ := Tryz.f85.body.getD .skip
theorem Pq : Ret C 85 a H R ↔ WP C 85 yZ ⟨initRegs a, 0, H⟩ (finQ C Tryz.f85 H R) := Ret_fn rfl (by kernel_rfl) Tryz.func85 rfl
@[simp] theorem PM : C.locs 85 = [2] := by kernel_rfl
noncomputable def yx := Tryz.f86.body.getD .skip
theorem Qr : Ret C 86 a H R ↔ WP C 86 yx ⟨initRegs a, 0, H⟩ (finQ C Tryz.f86 H R) := Ret_fn rfl (by kernel_rfl) Tryz.func86 rfl
@[simp] theorem PW : C.locs 86 = [2] := by kernel_rfl
noncomputable def zo := Tryz.f87.body.getD .skip
theorem OU : Ret C 87 a H R ↔ WP C 87 zo ⟨initRegs a, 0, H⟩ (finQ C Tryz.f87 H R) := Ret_fn rfl (by kernel_rfl) Tryz.func87 rfl
@[simp] theorem PO : C.locs 87 = [2] := by kernel_rfl
noncomputable def yf := Tryz.f88.body.getD .skip
theorem OL : Ret C 88 a H R ↔ WP C 88 yf ⟨initRegs a, 0, H⟩ (finQ C Tryz.f88 H R) := Ret_fn rfl (by kernel_rfl) Tryz.func88 rfl
@[simp] theorem PV : C.locs 88 = [2] := by kernel_rfl
noncomputable def kJ := Tryz.f91.body.getD .skip
theorem OE : Ret C 91 a H R ↔ WP C 91 kJ ⟨initRegs a, 0, H⟩ (finQ C Tryz.f91 H R) := Ret_fn rfl (by kernel_rfl) Tryz.func91 rfl
@[simp] theorem PZ : C.locs 91 = [] := by kernel_rfl
noncomputable def fM := Tryz.f94.body.getD .skip
theorem Ia : Ret C 94 a H R ↔ WP C 94 fM ⟨initRegs a, 0, H⟩ (finQ C Tryz.f94 H R) := Ret_fn rfl (by kernel_rfl) Tryz.func94 rfl
@[simp] theorem OQ : C.locs 94 = [] := by kernel_rfl
noncomputable def jf := Tryz.f98.body.getD .skip
theorem zK : Ret C 98 a H R ↔ WP C 98 jf ⟨initRegs a, 0, H⟩ (finQ C Tryz.f98 H R) := Ret_fn rfl (by kernel_rfl) Tryz.func98 rfl
@[simp] theorem PT : C.locs 98 = [2] := by kernel_rfl
noncomputable def xG := Tryz.f99.body.getD .skip
theorem P5 : Ret C 99 a H R ↔ WP C 99 xG ⟨initRegs a, 0, H⟩ (finQ C Tryz.f99 H R) := Ret_fn rfl (by kernel_rfl) Tryz.func99 rfl
@[simp] theorem OZ : C.locs 99 = [] := by kernel_rfl
noncomputable def sF := Tryz.f100.body.getD .skip
theorem Hm : Ret C 100 a H R ↔ WP C 100 sF ⟨initRegs a, 0, H⟩ (finQ C Tryz.f100 H R) := Ret_fn rfl (by kernel_rfl) Tryz.func100 rfl
@[simp] theorem Oy : C.locs 100 = [] := by kernel_rfl
noncomputable def eY := Tryz.f101.body.getD .skip
theorem FU : Ret C 101 a H R ↔ WP C 101 eY ⟨initRegs a, 0, H⟩ (finQ C Tryz.f101 H R) := Ret_fn rfl (by kernel_rfl) Tryz.func101 rfl
@[simp] theorem LG : C.locs 101 = [1] := by kernel_rfl
noncomputable def iH := Tryz.f102.body.getD .skip
theorem Jk : Ret C 102 a H R ↔ WP C 102 iH ⟨initRegs a, 0, H⟩ (finQ C Tryz.f102 H R) := Ret_fn rfl (by kernel_rfl) Tryz.func102 rfl
@[simp] theorem Oz : C.locs 102 = [3, 5, 9] := by kernel_rfl
noncomputable def su := Tryz.f103.body.getD .skip
theorem IV : Ret C 103 a H R ↔ WP C 103 su ⟨initRegs a, 0, H⟩ (finQ C Tryz.f103 H R) := Ret_fn rfl (by kernel_rfl) Tryz.func103 rfl
@[simp] theorem Nr : C.locs 103 = [] := by kernel_rfl
noncomputable def tJ := Tryz.f104.body.getD .skip
theorem I7 : Ret C 104 a H R ↔ WP C 104 tJ ⟨initRegs a, 0, H⟩ (finQ C Tryz.f104 H R) := Ret_fn rfl (by kernel_rfl) Tryz.func104 rfl
@[simp] theorem La : C.locs 104 = [2] := by kernel_rfl
noncomputable def aJ := Tryz.f105.body.getD .skip
theorem FB : Ret C 105 a H R ↔ WP C 105 aJ ⟨initRegs a, 0, H⟩ (finQ C Tryz.f105 H R) := Ret_fn rfl (by kernel_rfl) Tryz.func105 rfl
@[simp] theorem OB : C.locs 105 = [1] := by kernel_rfl
noncomputable def kS := Tryz.f106.body.getD .skip
theorem II : Ret C 106 a H R ↔ WP C 106 kS ⟨initRegs a, 0, H⟩ (finQ C Tryz.f106 H R) := Ret_fn rfl (by kernel_rfl) Tryz.func106 rfl
@[simp] theorem JG : C.locs 106 = [] := by kernel_rfl
noncomputable def bP := Tryz.f107.body.getD .skip
theorem GY : Ret C 107 a H R ↔ WP C 107 bP ⟨initRegs a, 0, H⟩ (finQ C Tryz.f107 H R) := Ret_fn rfl (by kernel_rfl) Tryz.func107 rfl
@[simp] theorem KQ : C.locs 107 = [5] := by kernel_rfl
noncomputable def rP := Tryz.f108.body.getD .skip
theorem Fh : Ret C 108 a H R ↔ WP C 108 rP ⟨initRegs a, 0, H⟩ (finQ C Tryz.f108 H R) := Ret_fn rfl (by kernel_rfl) Tryz.func108 rfl
@[simp] theorem KO : C.locs 108 = [1, 2, 3] := by kernel_rfl
noncomputable def pO := Tryz.f109.body.getD .skip
theorem Jr : Ret C 109 a H R ↔ WP C 109 pO ⟨initRegs a, 0, H⟩ (finQ C Tryz.f109 H R) := Ret_fn rfl (by kernel_rfl) Tryz.func109 rfl
@[simp] theorem KG : C.locs 109 = [] := by kernel_rfl
noncomputable def kE := Tryz.f110.body.getD .skip
theorem Jf : Ret C 110 a H R ↔ WP C 110 kE ⟨initRegs a, 0, H⟩ (finQ C Tryz.f110 H R) := Ret_fn rfl (by kernel_rfl) Tryz.func110 rfl
@[simp] theorem NP : C.locs 110 = [4] := by kernel_rfl
noncomputable def iQ := Tryz.f111.body.getD .skip
theorem Ho : Ret C 111 a H R ↔ WP C 111 iQ ⟨initRegs a, 0, H⟩ (finQ C Tryz.f111 H R) := Ret_fn rfl (by kernel_rfl) Tryz.func111 rfl
@[simp] theorem MG : C.locs 111 = [] := by kernel_rfl
noncomputable def kN := Tryz.f113.body.getD .skip
theorem Jg : Ret C 113 a H R ↔ WP C 113 kN ⟨initRegs a, 0, H⟩ (finQ C Tryz.f113 H R) := Ret_fn rfl (by kernel_rfl) Tryz.func113 rfl
@[simp] theorem Mc : C.locs 113 = [] := by kernel_rfl
noncomputable def tY := Tryz.f114.body.getD .skip
theorem Jo : Ret C 114 a H R ↔ WP C 114 tY ⟨initRegs a, 0, H⟩ (finQ C Tryz.f114 H R) := Ret_fn rfl (by kernel_rfl) Tryz.func114 rfl
@[simp] theorem KC : C.locs 114 = [2] := by kernel_rfl
noncomputable def iC := Tryz.f115.body.getD .skip
theorem F9 : Ret C 115 a H R ↔ WP C 115 iC ⟨initRegs a, 0, H⟩ (finQ C Tryz.f115 H R) := Ret_fn rfl (by kernel_rfl) Tryz.func115 rfl
@[simp] theorem L9 : C.locs 115 = [] := by kernel_rfl
noncomputable def lZ := Tryz.f116.body.getD .skip
theorem Jl : Ret C 116 a H R ↔ WP C 116 lZ ⟨initRegs a, 0, H⟩ (finQ C Tryz.f116 H R) := Ret_fn rfl (by kernel_rfl) Tryz.func116 rfl
@[simp] theorem LK : C.locs 116 = [] := by kernel_rfl
noncomputable def uo := Tryz.f117.body.getD .skip
theorem IU : Ret C 117 a H R ↔ WP C 117 uo ⟨initRegs a, 0, H⟩ (finQ C Tryz.f117 H R) := Ret_fn rfl (by kernel_rfl) Tryz.func117 rfl
@[simp] theorem KY : C.locs 117 = [1] := by kernel_rfl
noncomputable def aI := Tryz.f118.body.getD .skip
theorem Gi : Ret C 118 a H R ↔ WP C 118 aI ⟨initRegs a, 0, H⟩ (finQ C Tryz.f118 H R) := Ret_fn rfl (by kernel_rfl) Tryz.func118 rfl
@[simp] theorem Na : C.locs 118 = [1] := by kernel_rfl
noncomputable def qP := Tryz.f119.body.getD .skip
theorem Gn : Ret C 119 a H R ↔ WP C 119 qP ⟨initRegs a, 0, H⟩ (finQ C Tryz.f119 H R) := Ret_fn rfl (by kernel_rfl) Tryz.func119 rfl
@[simp] theorem NU : C.locs 119 = [] := by kernel_rfl
noncomputable def iq := Tryz.f120.body.getD .skip
theorem Iq : Ret C 120 a H R ↔ WP C 120 iq ⟨initRegs a, 0, H⟩ (finQ C Tryz.f120 H R) := Ret_fn rfl (by kernel_rfl) Tryz.func120 rfl
@[simp] theorem Nq : C.locs 120 = [1] := by kernel_rfl
noncomputable def uk := Tryz.f121.body.getD .skip
theorem Gx : Ret C 121 a H R ↔ WP C 121 uk ⟨initRegs a, 0, H⟩ (finQ C Tryz.f121 H R) := Ret_fn rfl (by kernel_rfl) Tryz.func121 rfl
@[simp] theorem Kz : C.locs 121 = [] := by kernel_rfl
noncomputable def cO := Tryz.f122.body.getD .skip
theorem jV : Ret C 122 a H R ↔ WP C 122 cO ⟨initRegs a, 0, H⟩ (finQ C Tryz.f122 H R) := Ret_fn rfl (by kernel_rfl) Tryz.func122 rfl
@[simp] theorem KW : C.locs 122 = [2, 3] := by kernel_rfl
noncomputable def sN := Tryz.f123.body.getD .skip
theorem ET : Ret C 123 a H R ↔ WP C 123 sN ⟨initRegs a, 0, H⟩ (finQ C Tryz.f123 H R) := Ret_fn rfl (by kernel_rfl) Tryz.func123 rfl
@[simp] theorem JR : C.locs 123 = [] := by kernel_rfl
noncomputable def gW := Tryz.f124.body.getD .skip
theorem wR : Ret C 124 a H R ↔ WP C 124 gW ⟨initRegs a, 0, H⟩ (finQ C Tryz.f124 H R) := Ret_fn rfl (by kernel_rfl) Tryz.func124 rfl
@[simp] theorem NH : C.locs 124 = [2] := by kernel_rfl
noncomputable def dM := Tryz.f127.body.getD .skip
theorem mJ : Ret C 127 a H R ↔ WP C 127 dM ⟨initRegs a, 0, H⟩ (finQ C Tryz.f127 H R) := Ret_fn rfl (by kernel_rfl) Tryz.func127 rfl
@[simp] theorem Ox : C.locs 127 = [2] := by kernel_rfl
noncomputable def iG := Tryz.f128.body.getD .skip
theorem yS : Ret C 128 a H R ↔ WP C 128 iG ⟨initRegs a, 0, H⟩ (finQ C Tryz.f128 H R) := Ret_fn rfl (by kernel_rfl) Tryz.func128 rfl
@[simp] theorem Ns : C.locs 128 = [2] := by kernel_rfl
noncomputable def uF := Tryz.f129.body.getD .skip
theorem Jv : Ret C 129 a H R ↔ WP C 129 uF ⟨initRegs a, 0, H⟩ (finQ C Tryz.f129 H R) := Ret_fn rfl (by kernel_rfl) Tryz.func129 rfl
@[simp] theorem MO : C.locs 129 = [] := by kernel_rfl
noncomputable def rE := Tryz.f132.body.getD .skip
theorem Hu : Ret C 132 a H R ↔ WP C 132 rE ⟨initRegs a, 0, H⟩ (finQ C Tryz.f132 H R) := Ret_fn rfl (by kernel_rfl) Tryz.func132 rfl
@[simp] theorem Nu : C.locs 132 = [] := by kernel_rfl
noncomputable def rY := Tryz.f138.body.getD .skip
theorem Iz : Ret C 138 a H R ↔ WP C 138 rY ⟨initRegs a, 0, H⟩ (finQ C Tryz.f138 H R) := Ret_fn rfl (by kernel_rfl) Tryz.func138 rfl
@[simp] theorem J8 : C.locs 138 = [1, 2, 3] := by kernel_rfl
noncomputable def uh := Tryz.f141.body.getD .skip
theorem JE : Ret C 141 a H R ↔ WP C 141 uh ⟨initRegs a, 0, H⟩ (finQ C Tryz.f141 H R) := Ret_fn rfl (by kernel_rfl) Tryz.func141 rfl
@[simp] theorem LZ : C.locs 141 = [1, 2, 3] := by kernel_rfl
noncomputable def qU := Tryz.f142.body.getD .skip
theorem IQ : Ret C 142 a H R ↔ WP C 142 qU ⟨initRegs a, 0, H⟩ (finQ C Tryz.f142 H R) := Ret_fn rfl (by kernel_rfl) Tryz.func142 rfl
@[simp] theorem Oi : C.locs 142 = [1, 2, 3] := by kernel_rfl
noncomputable def iy := Tryz.f143.body.getD .skip
theorem GK : Ret C 143 a H R ↔ WP C 143 iy ⟨initRegs a, 0, H⟩ (finQ C Tryz.f143 H R) := Ret_fn rfl (by kernel_rfl) Tryz.func143 rfl
@[simp] theorem Nj : C.locs 143 = [] := by kernel_rfl
noncomputable def kH := Tryz.f146.body.getD .skip
theorem Hl : Ret C 146 a H R ↔ WP C 146 kH ⟨initRegs a, 0, H⟩ (finQ C Tryz.f146 H R) := Ret_fn rfl (by kernel_rfl) Tryz.func146 rfl
@[simp] theorem N9 : C.locs 146 = [] := by kernel_rfl
noncomputable def uq := Tryz.f147.body.getD .skip
theorem Gy : Ret C 147 a H R ↔ WP C 147 uq ⟨initRegs a, 0, H⟩ (finQ C Tryz.f147 H R) := Ret_fn rfl (by kernel_rfl) Tryz.func147 rfl
@[simp] theorem Om : C.locs 147 = [] := by kernel_rfl
noncomputable def iP := Tryz.f153.body.getD .skip
theorem xK : Ret C 153 a H R ↔ WP C 153 iP ⟨initRegs a, 0, H⟩ (finQ C Tryz.f153 H R) := Ret_fn rfl (by kernel_rfl) Tryz.func153 rfl
@[simp] theorem OA : C.locs 153 = [2, 3] := by kernel_rfl
noncomputable def dS := Tryz.f156.body.getD .skip
theorem oh : Ret C 156 a H R ↔ WP C 156 dS ⟨initRegs a, 0, H⟩ (finQ C Tryz.f156 H R) := Ret_fn rfl (by kernel_rfl) Tryz.func156 rfl
@[simp] theorem NJ : C.locs 156 = [2, 3] := by kernel_rfl
noncomputable def iI := Tryz.f157.body.getD .skip
theorem yF : Ret C 157 a H R ↔ WP C 157 iI ⟨initRegs a, 0, H⟩ (finQ C Tryz.f157 H R) := Ret_fn rfl (by kernel_rfl) Tryz.func157 rfl
@[simp] theorem JF : C.locs 157 = [2, 3] := by kernel_rfl
noncomputable def uO := Tryz.f158.body.getD .skip
theorem EL : Ret C 158 a H R ↔ WP C 158 uO ⟨initRegs a, 0, H⟩ (finQ C Tryz.f158 H R) := Ret_fn rfl (by kernel_rfl) Tryz.func158 rfl
@[simp] theorem J3 : C.locs 158 = [] := by kernel_rfl
noncomputable def qL := Tryz.f159.body.getD .skip
theorem Ew : Ret C 159 a H R ↔ WP C 159 qL ⟨initRegs a, 0, H⟩ (finQ C Tryz.f159 H R) := Ret_fn rfl (by kernel_rfl) Tryz.func159 rfl
@[simp] theorem Lr : C.locs 159 = [] := by kernel_rfl
noncomputable def tq := Tryz.f160.body.getD .skip
theorem Je : Ret C 160 a H R ↔ WP C 160 tq ⟨initRegs a, 0, H⟩ (finQ C Tryz.f160 H R) := Ret_fn rfl (by kernel_rfl) Tryz.func160 rfl
@[simp] theorem Lm : C.locs 160 = [1, 2, 3] := by kernel_rfl
noncomputable def uf := Tryz.f161.body.getD .skip
theorem IJ : Ret C 161 a H R ↔ WP C 161 uf ⟨initRegs a, 0, H⟩ (finQ C Tryz.f161 H R) := Ret_fn rfl (by kernel_rfl) Tryz.func161 rfl
@[simp] theorem Kw : C.locs 161 = [] := by kernel_rfl
noncomputable def rC := Tryz.f162.body.getD .skip
theorem Il : Ret C 162 a H R ↔ WP C 162 rC ⟨initRegs a, 0, H⟩ (finQ C Tryz.f162 H R) := Ret_fn rfl (by kernel_rfl) Tryz.func162 rfl
@[simp] theorem JY : C.locs 162 = [1, 2] := by kernel_rfl
@[simp] theorem JW : C.locs 163 = [2] := by kernel_rfl
noncomputable def qG := Tryz.f164.body.getD .skip
theorem GI : Ret C 164 a H R ↔ WP C 164 qG ⟨initRegs a, 0, H⟩ (finQ C Tryz.f164 H R) := Ret_fn rfl (by kernel_rfl) Tryz.func164 rfl
@[simp] theorem J7 : C.locs 164 = [1, 2] := by kernel_rfl
noncomputable def qQ := Tryz.f165.body.getD .skip
theorem Jt : Ret C 165 a H R ↔ WP C 165 qQ ⟨initRegs a, 0, H⟩ (finQ C Tryz.f165 H R) := Ret_fn rfl (by kernel_rfl) Tryz.func165 rfl
@[simp] theorem KT : C.locs 165 = [5] := by kernel_rfl
noncomputable def ru := Tryz.f166.body.getD .skip
theorem IW : Ret C 166 a H R ↔ WP C 166 ru ⟨initRegs a, 0, H⟩ (finQ C Tryz.f166 H R) := Ret_fn rfl (by kernel_rfl) Tryz.func166 rfl
@[simp] theorem JO : C.locs 166 = [1, 2] := by kernel_rfl
noncomputable def fF := Tryz.f167.body.getD .skip
theorem IY : Ret C 167 a H R ↔ WP C 167 fF ⟨initRegs a, 0, H⟩ (finQ C Tryz.f167 H R) := Ret_fn rfl (by kernel_rfl) Tryz.func167 rfl
@[simp] theorem Lp : C.locs 167 = [7] := by kernel_rfl
noncomputable def pV := Tryz.f168.body.getD .skip
theorem Fz : Ret C 168 a H R ↔ WP C 168 pV ⟨initRegs a, 0, H⟩ (finQ C Tryz.f168 H R) := Ret_fn rfl (by kernel_rfl) Tryz.func168 rfl
@[simp] theorem Oq : C.locs 168 = [2] := by kernel_rfl
noncomputable def qH := Tryz.f169.body.getD .skip
theorem EF : Ret C 169 a H R ↔ WP C 169 qH ⟨initRegs a, 0, H⟩ (finQ C Tryz.f169 H R) := Ret_fn rfl (by kernel_rfl) Tryz.func169 rfl
@[simp] theorem Nk : C.locs 169 = [] := by kernel_rfl
noncomputable def tH := Tryz.f170.body.getD .skip
theorem GM : Ret C 170 a H R ↔ WP C 170 tH ⟨initRegs a, 0, H⟩ (finQ C Tryz.f170 H R) := Ret_fn rfl (by kernel_rfl) Tryz.func170 rfl
@[simp] theorem NC : C.locs 170 = [2] := by kernel_rfl
noncomputable def uN := Tryz.f171.body.getD .skip
theorem Ir : Ret C 171 a H R ↔ WP C 171 uN ⟨initRegs a, 0, H⟩ (finQ C Tryz.f171 H R) := Ret_fn rfl (by kernel_rfl) Tryz.func171 rfl
@[simp] theorem NM : C.locs 171 = [] := by kernel_rfl
noncomputable def qX := Tryz.f172.body.getD .skip
theorem Ei : Ret C 172 a H R ↔ WP C 172 qX ⟨initRegs a, 0, H⟩ (finQ C Tryz.f172 H R) := Ret_fn rfl (by kernel_rfl) Tryz.func172 rfl
@[simp] theorem Md : C.locs 172 = [2] := by kernel_rfl
noncomputable def uA := Tryz.f173.body.getD .skip
theorem Fp : Ret C 173 a H R ↔ WP C 173 uA ⟨initRegs a, 0, H⟩ (finQ C Tryz.f173 H R) := Ret_fn rfl (by kernel_rfl) Tryz.func173 rfl
@[simp] theorem LQ : C.locs 173 = [] := by kernel_rfl
noncomputable def kL := Tryz.f179.body.getD .skip
theorem Jc : Ret C 179 a H R ↔ WP C 179 kL ⟨initRegs a, 0, H⟩ (finQ C Tryz.f179 H R) := Ret_fn rfl (by kernel_rfl) Tryz.func179 rfl
@[simp] theorem Oo : C.locs 179 = [] := by kernel_rfl
noncomputable def iw := Tryz.f180.body.getD .skip
theorem wZ : Ret C 180 a H R ↔ WP C 180 iw ⟨initRegs a, 0, H⟩ (finQ C Tryz.f180 H R) := Ret_fn rfl (by kernel_rfl) Tryz.func180 rfl
@[simp] theorem JU : C.locs 180 = [2] := by kernel_rfl
noncomputable def bf := Tryz.f181.body.getD .skip
theorem G9 : Ret C 181 a H R ↔ WP C 181 bf ⟨initRegs a, 0, H⟩ (finQ C Tryz.f181 H R) := Ret_fn rfl (by kernel_rfl) Tryz.func181 rfl
@[simp] theorem NW : C.locs 181 = [1] := by kernel_rfl
noncomputable def pY := Tryz.f182.body.getD .skip
theorem Ii : Ret C 182 a H R ↔ WP C 182 pY ⟨initRegs a, 0, H⟩ (finQ C Tryz.f182 H R) := Ret_fn rfl (by kernel_rfl) Tryz.func182 rfl
@[simp] theorem Nh : C.locs 182 = [] := by kernel_rfl
noncomputable def ig := Tryz.f183.body.getD .skip
theorem F5 : Ret C 183 a H R ↔ WP C 183 ig ⟨initRegs a, 0, H⟩ (finQ C Tryz.f183 H R) := Ret_fn rfl (by kernel_rfl) Tryz.func183 rfl
@[simp] theorem NZ : C.locs 183 = [3, 4] := by kernel_rfl
noncomputable def iO := Tryz.f184.body.getD .skip
theorem EM : Ret C 184 a H R ↔ WP C 184 iO ⟨initRegs a, 0, H⟩ (finQ C Tryz.f184 H R) := Ret_fn rfl (by kernel_rfl) Tryz.func184 rfl
@[simp] theorem Ko : C.locs 184 = [3] := by kernel_rfl
noncomputable def rH := Tryz.f185.body.getD .skip
theorem FV : Ret C 185 a H R ↔ WP C 185 rH ⟨initRegs a, 0, H⟩ (finQ C Tryz.f185 H R) := Ret_fn rfl (by kernel_rfl) Tryz.func185 rfl
@[simp] theorem Kv : C.locs 185 = [2] := by kernel_rfl
noncomputable def aS := Tryz.f186.body.getD .skip
theorem Bj : C.fids 186 = true := by kernel_rfl
theorem Bh : Tryz.f186.body = some aS := rfl
theorem BV : C.prim 186 = none := rfl
theorem Df : C.funcs 186 = some Tryz.f186 := Tryz.func186
theorem yI : Ret C 186 a H R ↔ WP C 186 aS ⟨initRegs a, 0, H⟩ (finQ C Tryz.f186 H R) := Ret_fn rfl (by kernel_rfl) Tryz.func186 rfl
@[simp] theorem Ap : C.locs 186 = [] := by kernel_rfl
noncomputable def qK := Tryz.f187.body.getD .skip
theorem E8 : Ret C 187 a H R ↔ WP C 187 qK ⟨initRegs a, 0, H⟩ (finQ C Tryz.f187 H R) := Ret_fn rfl (by kernel_rfl) Tryz.func187 rfl
@[simp] theorem MW : C.locs 187 = [] := by kernel_rfl
noncomputable def tN := Tryz.f188.body.getD .skip
theorem Hy : Ret C 188 a H R ↔ WP C 188 tN ⟨initRegs a, 0, H⟩ (finQ C Tryz.f188 H R) := Ret_fn rfl (by kernel_rfl) Tryz.func188 rfl
@[simp] theorem MC : C.locs 188 = [] := by kernel_rfl
noncomputable def uj := Tryz.f189.body.getD .skip
theorem Ij : Ret C 189 a H R ↔ WP C 189 uj ⟨initRegs a, 0, H⟩ (finQ C Tryz.f189 H R) := Ret_fn rfl (by kernel_rfl) Tryz.func189 rfl
@[simp] theorem Og : C.locs 189 = [2] := by kernel_rfl
noncomputable def iK := Tryz.f190.body.getD .skip
theorem Gj : Ret C 190 a H R ↔ WP C 190 iK ⟨initRegs a, 0, H⟩ (finQ C Tryz.f190 H R) := Ret_fn rfl (by kernel_rfl) Tryz.func190 rfl
@[simp] theorem JQ : C.locs 190 = [] := by kernel_rfl
noncomputable def uH := Tryz.f191.body.getD .skip
theorem H6 : Ret C 191 a H R ↔ WP C 191 uH ⟨initRegs a, 0, H⟩ (finQ C Tryz.f191 H R) := Ret_fn rfl (by kernel_rfl) Tryz.func191 rfl
@[simp] theorem MH : C.locs 191 = [1] := by kernel_rfl
noncomputable def qm := Tryz.f192.body.getD .skip
theorem HY : Ret C 192 a H R ↔ WP C 192 qm ⟨initRegs a, 0, H⟩ (finQ C Tryz.f192 H R) := Ret_fn rfl (by kernel_rfl) Tryz.func192 rfl
@[simp] theorem J4 : C.locs 192 = [] := by kernel_rfl
noncomputable def ug := Tryz.f193.body.getD .skip
theorem Ha : Ret C 193 a H R ↔ WP C 193 ug ⟨initRegs a, 0, H⟩ (finQ C Tryz.f193 H R) := Ret_fn rfl (by kernel_rfl) Tryz.func193 rfl
@[simp] theorem JI : C.locs 193 = [1, 2, 3] := by kernel_rfl
noncomputable def uC := Tryz.f194.body.getD .skip
theorem H9 : Ret C 194 a H R ↔ WP C 194 uC ⟨initRegs a, 0, H⟩ (finQ C Tryz.f194 H R) := Ret_fn rfl (by kernel_rfl) Tryz.func194 rfl
@[simp] theorem NQ : C.locs 194 = [1] := by kernel_rfl
noncomputable def rM := Tryz.f195.body.getD .skip
theorem EY : Ret C 195 a H R ↔ WP C 195 rM ⟨initRegs a, 0, H⟩ (finQ C Tryz.f195 H R) := Ret_fn rfl (by kernel_rfl) Tryz.func195 rfl
@[simp] theorem NV : C.locs 195 = [] := by kernel_rfl
noncomputable def fA := Tryz.f196.body.getD .skip
theorem Gh : Ret C 196 a H R ↔ WP C 196 fA ⟨initRegs a, 0, H⟩ (finQ C Tryz.f196 H R) := Ret_fn rfl (by kernel_rfl) Tryz.func196 rfl
@[simp] theorem Ny : C.locs 196 = [1, 4] := by kernel_rfl
noncomputable def iM := Tryz.f197.body.getD .skip
theorem Jj : Ret C 197 a H R ↔ WP C 197 iM ⟨initRegs a, 0, H⟩ (finQ C Tryz.f197 H R) := Ret_fn rfl (by kernel_rfl) Tryz.func197 rfl
@[simp] theorem LV : C.locs 197 = [5, 8] := by kernel_rfl
noncomputable def aP := Tryz.f199.body.getD .skip
theorem BH : C.fids 199 = true := by kernel_rfl
theorem Bg : Tryz.f199.body = some aP := rfl
theorem BB : C.prim 199 = none := rfl
theorem CP : C.funcs 199 = some Tryz.f199 := Tryz.func199
theorem wS : Ret C 199 a H R ↔ WP C 199 aP ⟨initRegs a, 0, H⟩ (finQ C Tryz.f199 H R) := Ret_fn rfl (by kernel_rfl) Tryz.func199 rfl
@[simp] theorem AP : C.locs 199 = [] := by kernel_rfl
noncomputable def sK := Tryz.f200.body.getD .skip
theorem Ic : Ret C 200 a H R ↔ WP C 200 sK ⟨initRegs a, 0, H⟩ (finQ C Tryz.f200 H R) := Ret_fn rfl (by kernel_rfl) Tryz.func200 rfl
@[simp] theorem MR : C.locs 200 = [] := by kernel_rfl
noncomputable def tC := Tryz.f201.body.getD .skip
theorem Ib : Ret C 201 a H R ↔ WP C 201 tC ⟨initRegs a, 0, H⟩ (finQ C Tryz.f201 H R) := Ret_fn rfl (by kernel_rfl) Tryz.func201 rfl
@[simp] theorem KJ : C.locs 201 = [] := by kernel_rfl
noncomputable def qo := Tryz.f202.body.getD .skip
theorem Gv : Ret C 202 a H R ↔ WP C 202 qo ⟨initRegs a, 0, H⟩ (finQ C Tryz.f202 H R) := Ret_fn rfl (by kernel_rfl) Tryz.func202 rfl
@[simp] theorem LP : C.locs 202 = [] := by kernel_rfl
noncomputable def rq := Tryz.f203.body.getD .skip
theorem Ji : Ret C 203 a H R ↔ WP C 203 rq ⟨initRegs a, 0, H⟩ (finQ C Tryz.f203 H R) := Ret_fn rfl (by kernel_rfl) Tryz.func203 rfl
@[simp] theorem KL : C.locs 203 = [] := by kernel_rfl
noncomputable def rJ := Tryz.f204.body.getD .skip
theorem Ik : Ret C 204 a H R ↔ WP C 204 rJ ⟨initRegs a, 0, H⟩ (finQ C Tryz.f204 H R) := Ret_fn rfl (by kernel_rfl) Tryz.func204 rfl
@[simp] theorem NF : C.locs 204 = [] := by kernel_rfl
noncomputable def fC := Tryz.f205.body.getD .skip
theorem Et : Ret C 205 a H R ↔ WP C 205 fC ⟨initRegs a, 0, H⟩ (finQ C Tryz.f205 H R) := Ret_fn rfl (by kernel_rfl) Tryz.func205 rfl
@[simp] theorem MN : C.locs 205 = [] := by kernel_rfl
noncomputable def dO := Tryz.f206.body.getD .skip
theorem Gu : Ret C 206 a H R ↔ WP C 206 dO ⟨initRegs a, 0, H⟩ (finQ C Tryz.f206 H R) := Ret_fn rfl (by kernel_rfl) Tryz.func206 rfl
@[simp] theorem NE : C.locs 206 = [3] := by kernel_rfl
@[simp] theorem NT : C.locs 207 = [] := by kernel_rfl
@[simp] theorem JM : C.locs 208 = [] := by kernel_rfl
noncomputable def qR := Tryz.f209.body.getD .skip
theorem Jh : Ret C 209 a H R ↔ WP C 209 qR ⟨initRegs a, 0, H⟩ (finQ C Tryz.f209 H R) := Ret_fn rfl (by kernel_rfl) Tryz.func209 rfl
@[simp] theorem KP : C.locs 209 = [2] := by kernel_rfl
noncomputable def sJ := Tryz.f210.body.getD .skip
theorem I5 : Ret C 210 a H R ↔ WP C 210 sJ ⟨initRegs a, 0, H⟩ (finQ C Tryz.f210 H R) := Ret_fn rfl (by kernel_rfl) Tryz.func210 rfl
@[simp] theorem Lj : C.locs 210 = [] := by kernel_rfl
noncomputable def ut := Tryz.f211.body.getD .skip
theorem IK : Ret C 211 a H R ↔ WP C 211 ut ⟨initRegs a, 0, H⟩ (finQ C Tryz.f211 H R) := Ret_fn rfl (by kernel_rfl) Tryz.func211 rfl
@[simp] theorem Ld : C.locs 211 = [] := by kernel_rfl
@[simp] theorem MQ : C.locs 212 = [] := by kernel_rfl
@[simp] theorem Ky : C.locs 213 = [] := by kernel_rfl
noncomputable def kY := Tryz.f214.body.getD .skip
theorem FW : Ret C 214 a H R ↔ WP C 214 kY ⟨initRegs a, 0, H⟩ (finQ C Tryz.f214 H R) := Ret_fn rfl (by kernel_rfl) Tryz.func214 rfl
@[simp] theorem N8 : C.locs 214 = [] := by kernel_rfl
noncomputable def dL := Tryz.f215.body.getD .skip
theorem nN : Ret C 215 a H R ↔ WP C 215 dL ⟨initRegs a, 0, H⟩ (finQ C Tryz.f215 H R) := Ret_fn rfl (by kernel_rfl) Tryz.func215 rfl
@[simp] theorem Lh : C.locs 215 = [2, 3] := by kernel_rfl
noncomputable def qC := Tryz.f216.body.getD .skip
theorem EE : Ret C 216 a H R ↔ WP C 216 qC ⟨initRegs a, 0, H⟩ (finQ C Tryz.f216 H R) := Ret_fn rfl (by kernel_rfl) Tryz.func216 rfl
@[simp] theorem Nb : C.locs 216 = [] := by kernel_rfl
noncomputable def aF := Tryz.f217.body.getD .skip
theorem Dh : C.fids 217 = true := by kernel_rfl
theorem CO : Tryz.f217.body = some aF := rfl
theorem Ce : C.prim 217 = none := rfl
theorem CS : C.funcs 217 = some Tryz.f217 := Tryz.func217
theorem zl : Ret C 217 a H R ↔ WP C 217 aF ⟨initRegs a, 0, H⟩ (finQ C Tryz.f217 H R) := Ret_fn rfl (by kernel_rfl) Tryz.func217 rfl
@[simp] theorem Aj : C.locs 217 = [] := by kernel_rfl
noncomputable def uy := Tryz.f224.body.getD .skip
theorem EQ : Ret C 224 a H R ↔ WP C 224 uy ⟨initRegs a, 0, H⟩ (finQ C Tryz.f224 H R) := Ret_fn rfl (by kernel_rfl) Tryz.func224 rfl
@[simp] theorem MX : C.locs 224 = [] := by kernel_rfl
noncomputable def uM := Tryz.f227.body.getD .skip
theorem H7 : Ret C 227 a H R ↔ WP C 227 uM ⟨initRegs a, 0, H⟩ (finQ C Tryz.f227 H R) := Ret_fn rfl (by kernel_rfl) Tryz.func227 rfl
@[simp] theorem Lc : C.locs 227 = [] := by kernel_rfl
noncomputable def pW := Tryz.f228.body.getD .skip
theorem Gw : Ret C 228 a H R ↔ WP C 228 pW ⟨initRegs a, 0, H⟩ (finQ C Tryz.f228 H R) := Ret_fn rfl (by kernel_rfl) Tryz.func228 rfl
@[simp] theorem MM : C.locs 228 = [] := by kernel_rfl
noncomputable def sZ := Tryz.f229.body.getD .skip
theorem Js : Ret C 229 a H R ↔ WP C 229 sZ ⟨initRegs a, 0, H⟩ (finQ C Tryz.f229 H R) := Ret_fn rfl (by kernel_rfl) Tryz.func229 rfl
@[simp] theorem NK : C.locs 229 = [1] := by kernel_rfl
noncomputable def gX := Tryz.f230.body.getD .skip
theorem Ju : Ret C 230 a H R ↔ WP C 230 gX ⟨initRegs a, 0, H⟩ (finQ C Tryz.f230 H R) := Ret_fn rfl (by kernel_rfl) Tryz.func230 rfl
@[simp] theorem KD : C.locs 230 = [1] := by kernel_rfl
noncomputable def uD := Tryz.f233.body.getD .skip
theorem GU : Ret C 233 a H R ↔ WP C 233 uD ⟨initRegs a, 0, H⟩ (finQ C Tryz.f233 H R) := Ret_fn rfl (by kernel_rfl) Tryz.func233 rfl
@[simp] theorem Ot : C.locs 233 = [] := by kernel_rfl
noncomputable def kK := Tryz.f234.body.getD .skip
theorem BQ : Ret C 234 a H R ↔ WP C 234 kK ⟨initRegs a, 0, H⟩ (finQ C Tryz.f234 H R) := Ret_fn rfl (by kernel_rfl) Tryz.func234 rfl
@[simp] theorem MK : C.locs 234 = [] := by kernel_rfl
noncomputable def iD := Tryz.f235.body.getD .skip
theorem Jq : Ret C 235 a H R ↔ WP C 235 iD ⟨initRegs a, 0, H⟩ (finQ C Tryz.f235 H R) := Ret_fn rfl (by kernel_rfl) Tryz.func235 rfl
@[simp] theorem KF : C.locs 235 = [] := by kernel_rfl
noncomputable def uQ := Tryz.f239.body.getD .skip
theorem ED : Ret C 239 a H R ↔ WP C 239 uQ ⟨initRegs a, 0, H⟩ (finQ C Tryz.f239 H R) := Ret_fn rfl (by kernel_rfl) Tryz.func239 rfl
@[simp] theorem LW : C.locs 239 = [5] := by kernel_rfl
noncomputable def rU := Tryz.f241.body.getD .skip
theorem Hg : Ret C 241 a H R ↔ WP C 241 rU ⟨initRegs a, 0, H⟩ (finQ C Tryz.f241 H R) := Ret_fn rfl (by kernel_rfl) Tryz.func241 rfl
@[simp] theorem LY : C.locs 241 = [] := by kernel_rfl
noncomputable def qJ := Tryz.f242.body.getD .skip
theorem I9 : Ret C 242 a H R ↔ WP C 242 qJ ⟨initRegs a, 0, H⟩ (finQ C Tryz.f242 H R) := Ret_fn rfl (by kernel_rfl) Tryz.func242 rfl
@[simp] theorem Kq : C.locs 242 = [] := by kernel_rfl
noncomputable def ui := Tryz.f243.body.getD .skip
theorem Jm : Ret C 243 a H R ↔ WP C 243 ui ⟨initRegs a, 0, H⟩ (finQ C Tryz.f243 H R) := Ret_fn rfl (by kernel_rfl) Tryz.func243 rfl
@[simp] theorem JX : C.locs 243 = [1, 2, 3] := by kernel_rfl
noncomputable def qI := Tryz.f244.body.getD .skip
theorem Iu : Ret C 244 a H R ↔ WP C 244 qI ⟨initRegs a, 0, H⟩ (finQ C Tryz.f244 H R) := Ret_fn rfl (by kernel_rfl) Tryz.func244 rfl
@[simp] theorem Ou : C.locs 244 = [] := by kernel_rfl
noncomputable def rO := Tryz.f245.body.getD .skip
theorem Jb : Ret C 245 a H R ↔ WP C 245 rO ⟨initRegs a, 0, H⟩ (finQ C Tryz.f245 H R) := Ret_fn rfl (by kernel_rfl) Tryz.func245 rfl
@[simp] theorem KI : C.locs 245 = [5, 6] := by kernel_rfl
noncomputable def qi := Tryz.f246.body.getD .skip
theorem FH : Ret C 246 a H R ↔ WP C 246 qi ⟨initRegs a, 0, H⟩ (finQ C Tryz.f246 H R) := Ret_fn rfl (by kernel_rfl) Tryz.func246 rfl
@[simp] theorem J6 : C.locs 246 = [5] := by kernel_rfl
noncomputable def lq := Tryz.f247.body.getD .skip
theorem FK : Ret C 247 a H R ↔ WP C 247 lq ⟨initRegs a, 0, H⟩ (finQ C Tryz.f247 H R) := Ret_fn rfl (by kernel_rfl) Tryz.func247 rfl
@[simp] theorem NL : C.locs 247 = [] := by kernel_rfl
noncomputable def dP := Tryz.f248.body.getD .skip
theorem BJ : Ret C 248 a H R ↔ WP C 248 dP ⟨initRegs a, 0, H⟩ (finQ C Tryz.f248 H R) := Ret_fn rfl (by kernel_rfl) Tryz.func248 rfl
@[simp] theorem Nz : C.locs 248 = [] := by kernel_rfl
noncomputable def qj := Tryz.f249.body.getD .skip
theorem Ey : Ret C 249 a H R ↔ WP C 249 qj ⟨initRegs a, 0, H⟩ (finQ C Tryz.f249 H R) := Ret_fn rfl (by kernel_rfl) Tryz.func249 rfl
@[simp] theorem Oa : C.locs 249 = [5] := by kernel_rfl
noncomputable def eP := Tryz.f250.body.getD .skip
theorem Iw : Ret C 250 a H R ↔ WP C 250 eP ⟨initRegs a, 0, H⟩ (finQ C Tryz.f250 H R) := Ret_fn rfl (by kernel_rfl) Tryz.func250 rfl
@[simp] theorem MS : C.locs 250 = [] := by kernel_rfl
noncomputable def qM := Tryz.f251.body.getD .skip
theorem Iy : Ret C 251 a H R ↔ WP C 251 qM ⟨initRegs a, 0, H⟩ (finQ C Tryz.f251 H R) := Ret_fn rfl (by kernel_rfl) Tryz.func251 rfl
@[simp] theorem KN : C.locs 251 = [] := by kernel_rfl
noncomputable def sW := Tryz.f252.body.getD .skip
theorem EU : Ret C 252 a H R ↔ WP C 252 sW ⟨initRegs a, 0, H⟩ (finQ C Tryz.f252 H R) := Ret_fn rfl (by kernel_rfl) Tryz.func252 rfl
@[simp] theorem NS : C.locs 252 = [] := by kernel_rfl
noncomputable def sU := Tryz.f253.body.getD .skip
theorem JD : Ret C 253 a H R ↔ WP C 253 sU ⟨initRegs a, 0, H⟩ (finQ C Tryz.f253 H R) := Ret_fn rfl (by kernel_rfl) Tryz.func253 rfl
@[simp] theorem JH : C.locs 253 = [] := by kernel_rfl
noncomputable def uB := Tryz.f254.body.getD .skip
theorem IR : Ret C 254 a H R ↔ WP C 254 uB ⟨initRegs a, 0, H⟩ (finQ C Tryz.f254 H R) := Ret_fn rfl (by kernel_rfl) Tryz.func254 rfl
@[simp] theorem Oj : C.locs 254 = [] := by kernel_rfl
noncomputable def qh := Tryz.f255.body.getD .skip
theorem EG : Ret C 255 a H R ↔ WP C 255 qh ⟨initRegs a, 0, H⟩ (finQ C Tryz.f255 H R) := Ret_fn rfl (by kernel_rfl) Tryz.func255 rfl
@[simp] theorem Ku : C.locs 255 = [] := by kernel_rfl
noncomputable def qg := Tryz.f259.body.getD .skip
theorem JB : Ret C 259 a H R ↔ WP C 259 qg ⟨initRegs a, 0, H⟩ (finQ C Tryz.f259 H R) := Ret_fn rfl (by kernel_rfl) Tryz.func259 rfl
@[simp] theorem MF : C.locs 259 = [] := by kernel_rfl
noncomputable def lI := Tryz.f260.body.getD .skip
theorem EN : Ret C 260 a H R ↔ WP C 260 lI ⟨initRegs a, 0, H⟩ (finQ C Tryz.f260 H R) := Ret_fn rfl (by kernel_rfl) Tryz.func260 rfl
@[simp] theorem JJ : C.locs 260 = [2] := by kernel_rfl
noncomputable def tK := Tryz.f261.body.getD .skip
theorem Ff : Ret C 261 a H R ↔ WP C 261 tK ⟨initRegs a, 0, H⟩ (finQ C Tryz.f261 H R) := Ret_fn rfl (by kernel_rfl) Tryz.func261 rfl
@[simp] theorem N7 : C.locs 261 = [] := by kernel_rfl
noncomputable def pU := Tryz.f262.body.getD .skip
theorem F6 : Ret C 262 a H R ↔ WP C 262 pU ⟨initRegs a, 0, H⟩ (finQ C Tryz.f262 H R) := Ret_fn rfl (by kernel_rfl) Tryz.func262 rfl
@[simp] theorem Ov : C.locs 262 = [] := by kernel_rfl
noncomputable def bY := Tryz.f263.body.getD .skip
theorem Bv : C.fids 263 = true := by kernel_rfl
theorem BP : Tryz.f263.body = some bY := rfl
theorem BN : C.prim 263 = none := rfl
theorem CU : C.funcs 263 = some Tryz.f263 := Tryz.func263
theorem xq : Ret C 263 a H R ↔ WP C 263 bY ⟨initRegs a, 0, H⟩ (finQ C Tryz.f263 H R) := Ret_fn rfl (by kernel_rfl) Tryz.func263 rfl
@[simp] theorem Ak : C.locs 263 = [] := by kernel_rfl
noncomputable def lX := Tryz.f264.body.getD .skip
theorem Hz : Ret C 264 a H R ↔ WP C 264 lX ⟨initRegs a, 0, H⟩ (finQ C Tryz.f264 H R) := Ret_fn rfl (by kernel_rfl) Tryz.func264 rfl
@[simp] theorem KE : C.locs 264 = [] := by kernel_rfl
noncomputable def uK := Tryz.f265.body.getD .skip
theorem GV : Ret C 265 a H R ↔ WP C 265 uK ⟨initRegs a, 0, H⟩ (finQ C Tryz.f265 H R) := Ret_fn rfl (by kernel_rfl) Tryz.func265 rfl
@[simp] theorem LX : C.locs 265 = [] := by kernel_rfl
noncomputable def iE := Tryz.f266.body.getD .skip
theorem Gm : Ret C 266 a H R ↔ WP C 266 iE ⟨initRegs a, 0, H⟩ (finQ C Tryz.f266 H R) := Ret_fn rfl (by kernel_rfl) Tryz.func266 rfl
@[simp] theorem Oc : C.locs 266 = [1] := by kernel_rfl
noncomputable def lJ := Tryz.f267.body.getD .skip
theorem IX : Ret C 267 a H R ↔ WP C 267 lJ ⟨initRegs a, 0, H⟩ (finQ C Tryz.f267 H R) := Ret_fn rfl (by kernel_rfl) Tryz.func267 rfl
@[simp] theorem Lt : C.locs 267 = [4] := by kernel_rfl
noncomputable def kX := Tryz.f268.body.getD .skip
theorem Eg : Ret C 268 a H R ↔ WP C 268 kX ⟨initRegs a, 0, H⟩ (finQ C Tryz.f268 H R) := Ret_fn rfl (by kernel_rfl) Tryz.func268 rfl
@[simp] theorem MB : C.locs 268 = [2] := by kernel_rfl
noncomputable def kP := Tryz.f269.body.getD .skip
theorem EP : Ret C 269 a H R ↔ WP C 269 kP ⟨initRegs a, 0, H⟩ (finQ C Tryz.f269 H R) := Ret_fn rfl (by kernel_rfl) Tryz.func269 rfl
@[simp] theorem J9 : C.locs 269 = [] := by kernel_rfl
noncomputable def bZ := Tryz.f271.body.getD .skip
theorem Dc : C.fids 271 = true := by kernel_rfl
theorem CW : Tryz.f271.body = some bZ := rfl
theorem Bq : C.prim 271 = none := rfl
theorem BZ : C.funcs 271 = some Tryz.f271 := Tryz.func271
theorem yL : Ret C 271 a H R ↔ WP C 271 bZ ⟨initRegs a, 0, H⟩ (finQ C Tryz.f271 H R) := Ret_fn rfl (by kernel_rfl) Tryz.func271 rfl
@[simp] theorem Ba : C.locs 271 = [] := by kernel_rfl
noncomputable def dw := Tryz.f272.body.getD .skip
theorem Cc : C.fids 272 = true := by kernel_rfl
theorem Bf : Tryz.f272.body = some dw := rfl
theorem CQ : C.prim 272 = none := rfl
theorem BK : C.funcs 272 = some Tryz.f272 := Tryz.func272
theorem xC : Ret C 272 a H R ↔ WP C 272 dw ⟨initRegs a, 0, H⟩ (finQ C Tryz.f272 H R) := Ret_fn rfl (by kernel_rfl) Tryz.func272 rfl
@[simp] theorem Ac : C.locs 272 = [] := by kernel_rfl
noncomputable def uI := Tryz.f273.body.getD .skip
theorem He : Ret C 273 a H R ↔ WP C 273 uI ⟨initRegs a, 0, H⟩ (finQ C Tryz.f273 H R) := Ret_fn rfl (by kernel_rfl) Tryz.func273 rfl
@[simp] theorem JV : C.locs 273 = [] := by kernel_rfl
noncomputable def pX := Tryz.f274.body.getD .skip
theorem EX : Ret C 274 a H R ↔ WP C 274 pX ⟨initRegs a, 0, H⟩ (finQ C Tryz.f274 H R) := Ret_fn rfl (by kernel_rfl) Tryz.func274 rfl
@[simp] theorem Nc : C.locs 274 = [2] := by kernel_rfl
noncomputable def gU := Tryz.f275.body.getD .skip
theorem Gt : Ret C 275 a H R ↔ WP C 275 gU ⟨initRegs a, 0, H⟩ (finQ C Tryz.f275 H R) := Ret_fn rfl (by kernel_rfl) Tryz.func275 rfl
@[simp] theorem MV : C.locs 275 = [] := by kernel_rfl
noncomputable def lQ := Tryz.f276.body.getD .skip
theorem Ig : Ret C 276 a H R ↔ WP C 276 lQ ⟨initRegs a, 0, H⟩ (finQ C Tryz.f276 H R) := Ret_fn rfl (by kernel_rfl) Tryz.func276 rfl
@[simp] theorem LH : C.locs 276 = [5] := by kernel_rfl
noncomputable def sH := Tryz.f277.body.getD .skip
theorem FP : Ret C 277 a H R ↔ WP C 277 sH ⟨initRegs a, 0, H⟩ (finQ C Tryz.f277 H R) := Ret_fn rfl (by kernel_rfl) Tryz.func277 rfl
@[simp] theorem Np : C.locs 277 = [1] := by kernel_rfl
noncomputable def tX := Tryz.f278.body.getD .skip
theorem Ez : Ret C 278 a H R ↔ WP C 278 tX ⟨initRegs a, 0, H⟩ (finQ C Tryz.f278 H R) := Ret_fn rfl (by kernel_rfl) Tryz.func278 rfl
@[simp] theorem MI : C.locs 278 = [] := by kernel_rfl
@[simp] theorem Me : C.locs 279 = [] := by kernel_rfl
@[simp] theorem OC : C.locs 280 = [] := by kernel_rfl
@[simp] theorem ML : C.locs 281 = [] := by kernel_rfl
noncomputable def iL := Tryz.f282.body.getD .skip
theorem wM : Ret C 282 a H R ↔ WP C 282 iL ⟨initRegs a, 0, H⟩ (finQ C Tryz.f282 H R) := Ret_fn rfl (by kernel_rfl) Tryz.func282 rfl
@[simp] theorem Ol : C.locs 282 = [2] := by kernel_rfl
noncomputable def uw := Tryz.f289.body.getD .skip
theorem JC : Ret C 289 a H R ↔ WP C 289 uw ⟨initRegs a, 0, H⟩ (finQ C Tryz.f289 H R) := Ret_fn rfl (by kernel_rfl) Tryz.func289 rfl
@[simp] theorem LM : C.locs 289 = [] := by kernel_rfl
noncomputable def uJ := Tryz.f291.body.getD .skip
theorem Eo : Ret C 291 a H R ↔ WP C 291 uJ ⟨initRegs a, 0, H⟩ (finQ C Tryz.f291 H R) := Ret_fn rfl (by kernel_rfl) Tryz.func291 rfl
@[simp] theorem LC : C.locs 291 = [1, 2, 3] := by kernel_rfl
noncomputable def qB := Tryz.f292.body.getD .skip
theorem IM : Ret C 292 a H R ↔ WP C 292 qB ⟨initRegs a, 0, H⟩ (finQ C Tryz.f292 H R) := Ret_fn rfl (by kernel_rfl) Tryz.func292 rfl
@[simp] theorem JZ : C.locs 292 = [] := by kernel_rfl
noncomputable def aB := Tryz.f293.body.getD .skip
theorem BR : C.fids 293 = true := by kernel_rfl
theorem CV : Tryz.f293.body = some aB := rfl
theorem CZ : C.prim 293 = none := rfl
theorem BU : C.funcs 293 = some Tryz.f293 := Tryz.func293
theorem x9 : Ret C 293 a H R ↔ WP C 293 aB ⟨initRegs a, 0, H⟩ (finQ C Tryz.f293 H R) := Ret_fn rfl (by kernel_rfl) Tryz.func293 rfl
@[simp] theorem AC : C.locs 293 = [] := by kernel_rfl
noncomputable def fE := Tryz.f297.body.getD .skip
theorem zt : Ret C 297 a H R ↔ WP C 297 fE ⟨initRegs a, 0, H⟩ (finQ C Tryz.f297 H R) := Ret_fn rfl (by kernel_rfl) Tryz.func297 rfl
@[simp] theorem NI : C.locs 297 = [] := by kernel_rfl
noncomputable def bK := Tryz.f303.body.getD .skip
theorem Gf : Ret C 303 a H R ↔ WP C 303 bK ⟨initRegs a, 0, H⟩ (finQ C Tryz.f303 H R) := Ret_fn rfl (by kernel_rfl) Tryz.func303 rfl
@[simp] theorem KZ : C.locs 303 = [] := by kernel_rfl
noncomputable def iF := Tryz.f304.body.getD .skip
theorem zx : Ret C 304 a H R ↔ WP C 304 iF ⟨initRegs a, 0, H⟩ (finQ C Tryz.f304 H R) := Ret_fn rfl (by kernel_rfl) Tryz.func304 rfl
@[simp] theorem NG : C.locs 304 = [2, 3] := by kernel_rfl
noncomputable def qN := Tryz.f305.body.getD .skip
theorem FM : Ret C 305 a H R ↔ WP C 305 qN ⟨initRegs a, 0, H⟩ (finQ C Tryz.f305 H R) := Ret_fn rfl (by kernel_rfl) Tryz.func305 rfl
@[simp] theorem OD : C.locs 305 = [1, 2] := by kernel_rfl
noncomputable def ik := Tryz.f306.body.getD .skip
theorem Bl : Ret C 306 a H R ↔ WP C 306 ik ⟨initRegs a, 0, H⟩ (finQ C Tryz.f306 H R) := Ret_fn rfl (by kernel_rfl) Tryz.func306 rfl
@[simp] theorem KX : C.locs 306 = [4, 7] := by kernel_rfl
noncomputable def sG := Tryz.f307.body.getD .skip
theorem Jd : Ret C 307 a H R ↔ WP C 307 sG ⟨initRegs a, 0, H⟩ (finQ C Tryz.f307 H R) := Ret_fn rfl (by kernel_rfl) Tryz.func307 rfl
@[simp] theorem Oh : C.locs 307 = [1, 2, 3, 5] := by kernel_rfl
noncomputable def qc := Tryz.f308.body.getD .skip
theorem EJ : Ret C 308 a H R ↔ WP C 308 qc ⟨initRegs a, 0, H⟩ (finQ C Tryz.f308 H R) := Ret_fn rfl (by kernel_rfl) Tryz.func308 rfl
@[simp] theorem NY : C.locs 308 = [] := by kernel_rfl
noncomputable def qY := Tryz.f309.body.getD .skip
theorem Gq : Ret C 309 a H R ↔ WP C 309 qY ⟨initRegs a, 0, H⟩ (finQ C Tryz.f309 H R) := Ret_fn rfl (by kernel_rfl) Tryz.func309 rfl
@[simp] theorem Kr : C.locs 309 = [] := by kernel_rfl
noncomputable def cZ := Tryz.f310.body.getD .skip
theorem Bi : C.fids 310 = true := by kernel_rfl
theorem BG : Tryz.f310.body = some cZ := rfl
theorem Bo : C.prim 310 = none := rfl
theorem BC : C.funcs 310 = some Tryz.f310 := Tryz.func310
theorem wV : Ret C 310 a H R ↔ WP C 310 cZ ⟨initRegs a, 0, H⟩ (finQ C Tryz.f310 H R) := Ret_fn rfl (by kernel_rfl) Tryz.func310 rfl
@[simp] theorem zO : C.locs 310 = [] := by kernel_rfl
noncomputable def kR := Tryz.f311.body.getD .skip
theorem Hr : Ret C 311 a H R ↔ WP C 311 kR ⟨initRegs a, 0, H⟩ (finQ C Tryz.f311 H R) := Ret_fn rfl (by kernel_rfl) Tryz.func311 rfl
@[simp] theorem J5 : C.locs 311 = [] := by kernel_rfl
noncomputable def gV := Tryz.f312.body.getD .skip
theorem BA : Ret C 312 a H R ↔ WP C 312 gV ⟨initRegs a, 0, H⟩ (finQ C Tryz.f312 H R) := Ret_fn rfl (by kernel_rfl) Tryz.func312 rfl
@[simp] theorem Oe : C.locs 312 = [] := by kernel_rfl
noncomputable def rQ := Tryz.f313.body.getD .skip
theorem Ej : Ret C 313 a H R ↔ WP C 313 rQ ⟨initRegs a, 0, H⟩ (finQ C Tryz.f313 H R) := Ret_fn rfl (by kernel_rfl) Tryz.func313 rfl
@[simp] theorem KH : C.locs 313 = [] := by kernel_rfl
noncomputable def qW := Tryz.f314.body.getD .skip
theorem FY : Ret C 314 a H R ↔ WP C 314 qW ⟨initRegs a, 0, H⟩ (finQ C Tryz.f314 H R) := Ret_fn rfl (by kernel_rfl) Tryz.func314 rfl
@[simp] theorem Nw : C.locs 314 = [] := by kernel_rfl
noncomputable def bg := Tryz.f315.body.getD .skip
theorem CG : C.fids 315 = true := by kernel_rfl
theorem C9 : Tryz.f315.body = some bg := rfl
theorem BI : C.prim 315 = none := rfl
theorem CY : C.funcs 315 = some Tryz.f315 := Tryz.func315
theorem xU : Ret C 315 a H R ↔ WP C 315 bg ⟨initRegs a, 0, H⟩ (finQ C Tryz.f315 H R) := Ret_fn rfl (by kernel_rfl) Tryz.func315 rfl
@[simp] theorem Ad : C.locs 315 = [] := by kernel_rfl
noncomputable def ry := Tryz.f316.body.getD .skip
theorem FN : Ret C 316 a H R ↔ WP C 316 ry ⟨initRegs a, 0, H⟩ (finQ C Tryz.f316 H R) := Ret_fn rfl (by kernel_rfl) Tryz.func316 rfl
@[simp] theorem MP : C.locs 316 = [] := by kernel_rfl
@[simp] theorem Nl : C.locs 317 = [9] := by kernel_rfl
@[simp] theorem NR : C.locs 319 = [] := by kernel_rfl
noncomputable def ay := Tryz.f321.body.getD .skip
theorem Gg : Ret C 321 a H R ↔ WP C 321 ay ⟨initRegs a, 0, H⟩ (finQ C Tryz.f321 H R) := Ret_fn rfl (by kernel_rfl) Tryz.func321 rfl
@[simp] theorem Ls : C.locs 321 = [] := by kernel_rfl
noncomputable def sQ := Tryz.f331.body.getD .skip
theorem IP : Ret C 331 a H R ↔ WP C 331 sQ ⟨initRegs a, 0, H⟩ (finQ C Tryz.f331 H R) := Ret_fn rfl (by kernel_rfl) Tryz.func331 rfl
@[simp] theorem MJ : C.locs 331 = [] := by kernel_rfl
noncomputable def rF := Tryz.f332.body.getD .skip
theorem Fg : Ret C 332 a H R ↔ WP C 332 rF ⟨initRegs a, 0, H⟩ (finQ C Tryz.f332 H R) := Ret_fn rfl (by kernel_rfl) Tryz.func332 rfl
@[simp] theorem Lu : C.locs 332 = [] := by kernel_rfl
noncomputable def rW := Tryz.f333.body.getD .skip
theorem EH : Ret C 333 a H R ↔ WP C 333 rW ⟨initRegs a, 0, H⟩ (finQ C Tryz.f333 H R) := Ret_fn rfl (by kernel_rfl) Tryz.func333 rfl
@[simp] theorem KA : C.locs 333 = [2] := by kernel_rfl
noncomputable def cu := Tryz.f334.body.getD .skip
theorem Ci : C.fids 334 = true := by kernel_rfl
theorem Cb : Tryz.f334.body = some cu := rfl
theorem BL : C.prim 334 = none := rfl
theorem Cf : C.funcs 334 = some Tryz.f334 := Tryz.func334
theorem xM : Ret C 334 a H R ↔ WP C 334 cu ⟨initRegs a, 0, H⟩ (finQ C Tryz.f334 H R) := Ret_fn rfl (by kernel_rfl) Tryz.func334 rfl
@[simp] theorem Bd : C.locs 334 = [] := by kernel_rfl
noncomputable def qx := Tryz.f335.body.getD .skip
theorem En : Ret C 335 a H R ↔ WP C 335 qx ⟨initRegs a, 0, H⟩ (finQ C Tryz.f335 H R) := Ret_fn rfl (by kernel_rfl) Tryz.func335 rfl
@[simp] theorem JP : C.locs 335 = [] := by kernel_rfl
noncomputable def aN := Tryz.f336.body.getD .skip
theorem CX : C.fids 336 = true := by kernel_rfl
theorem BM : Tryz.f336.body = some aN := rfl
theorem Cj : C.prim 336 = none := rfl
theorem CJ : C.funcs 336 = some Tryz.f336 := Tryz.func336
theorem wK : Ret C 336 a H R ↔ WP C 336 aN ⟨initRegs a, 0, H⟩ (finQ C Tryz.f336 H R) := Ret_fn rfl (by kernel_rfl) Tryz.func336 rfl
@[simp] theorem zN : C.locs 336 = [] := by kernel_rfl
@[simp] theorem JS : C.locs 337 = [] := by kernel_rfl
@[simp] theorem LU : C.locs 338 = [] := by kernel_rfl
noncomputable def uG := Tryz.f352.body.getD .skip
theorem F7 : Ret C 352 a H R ↔ WP C 352 uG ⟨initRegs a, 0, H⟩ (finQ C Tryz.f352 H R) := Ret_fn rfl (by kernel_rfl) Tryz.func352 rfl
@[simp] theorem MZ : C.locs 352 = [] := by kernel_rfl
noncomputable def di := Tryz.f353.body.getD .skip
theorem Cm : C.fids 353 = true := by kernel_rfl
theorem BX : Tryz.f353.body = some di := rfl
theorem BF : C.prim 353 = none := rfl
theorem BD : C.funcs 353 = some Tryz.f353 := Tryz.func353
theorem wJ : Ret C 353 a H R ↔ WP C 353 di ⟨initRegs a, 0, H⟩ (finQ C Tryz.f353 H R) := Ret_fn rfl (by kernel_rfl) Tryz.func353 rfl
@[simp] theorem Be : C.locs 353 = [] := by kernel_rfl
noncomputable def qF := Tryz.f354.body.getD .skip
theorem IB : Ret C 354 a H R ↔ WP C 354 qF ⟨initRegs a, 0, H⟩ (finQ C Tryz.f354 H R) := Ret_fn rfl (by kernel_rfl) Tryz.func354 rfl
@[simp] theorem LJ : C.locs 354 = [] := by kernel_rfl
noncomputable def uu := Tryz.f355.body.getD .skip
theorem Jz : Ret C 355 a H R ↔ WP C 355 uu ⟨initRegs a, 0, H⟩ (finQ C Tryz.f355 H R) := Ret_fn rfl (by kernel_rfl) Tryz.func355 rfl
@[simp] theorem ND : C.locs 355 = [2] := by kernel_rfl
@[simp] theorem Nv : C.ord 5 10 = some ⟨[0, 1, 2, 3, 4], [], [], [(0, 7), (1, 2)], [], []⟩ := by kernel_rfl
@[simp] theorem JL : C.ord 41 7 = some ⟨[0, 1, 2, 3, 4, 5, 6, 7, 8, 9, 10, 11, 12, 13, 14, 15, 16, 17, 18, 19, 20, 22, 23, 21, 24, 25, 26, 27], [], [], [(0, 4), (5, 1), (6, 4), (15, 1), (23, 4)], [], []⟩ := by kernel_rfl
@[simp] theorem EI : C.ord 41 13 = some ⟨[0, 1, 2, 3, 4, 5, 6, 7, 8, 9, 10], [], [], [(4, 1)], [], []⟩ := by kernel_rfl
@[simp] theorem JK : C.ord 47 6 = some ⟨[0, 1, 2, 3, 4, 5, 6, 7, 8, 9, 10, 11, 12, 13, 14, 15, 17, 18, 16, 19, 20, 21, 22], [], [], [(2, 4), (18, 4)], [], []⟩ := by kernel_rfl
@[simp] theorem AZ : C.ord 51 6 = none := by kernel_rfl
@[simp] theorem Ah : C.ord 68 6 = none := by kernel_rfl
@[simp] theorem AL : C.ord 71 6 = none := by kernel_rfl
@[simp] theorem zH : C.ord 72 6 = none := by kernel_rfl
@[simp] theorem Kt : C.ord 79 1 = some ⟨[0, 1, 3, 4, 6, 7, 9, 10, 2, 5, 8, 11, 12], [], [], [(1, 1), (4, 1), (7, 1), (10, 1), (12, 2)], [], []⟩ := by kernel_rfl
@[simp] theorem KU : C.ord 81 1 = some ⟨[0, 1, 3, 4, 6, 7, 9, 10, 2, 5, 8, 11, 12], [], [], [(1, 1), (4, 1), (7, 1), (10, 1), (12, 2)], [], []⟩ := by kernel_rfl
@[simp] theorem Ie : C.ord 100 4 = none := by kernel_rfl
@[simp] theorem EC : C.ord 102 2 = none := by kernel_rfl
@[simp] theorem Jw : C.ord 102 7 = none := by kernel_rfl
@[simp] theorem I4 : C.ord 103 5 = some ⟨[0, 1, 2, 3, 4, 5, 6, 7, 8, 9, 10, 11, 12, 13, 14, 15, 16], [14], [6], [], [], []⟩ := by kernel_rfl
@[simp] theorem Eu : C.ord 110 6 = none := by kernel_rfl
@[simp] theorem Gp : C.ord 121 4 = none := by kernel_rfl
@[simp] theorem yw : C.ord 123 6 = none := by kernel_rfl
@[simp] theorem GX : C.ord 160 5 = some ⟨[0, 1, 2, 3, 4, 5, 6, 7, 8, 9, 10, 11], [], [], [(1, 3), (3, 1), (11, 3)], [], []⟩ := by kernel_rfl
@[simp] theorem FX : C.ord 162 1 = some ⟨[0, 1, 2, 3, 4, 5, 6], [], [], [(1, 1), (3, 1), (6, 2)], [], []⟩ := by kernel_rfl
@[simp] theorem IL : C.ord 164 1 = some ⟨[0, 1, 3, 4, 2, 5, 6, 7], [], [], [(1, 1), (4, 1), (7, 2)], [], []⟩ := by kernel_rfl
@[simp] theorem Fe : C.ord 165 5 = some ⟨[0, 1, 3, 4, 2, 6, 5, 7, 8, 9], [], [], [(1, 5), (4, 5), (7, 5), (9, 5)], [], []⟩ := by kernel_rfl
@[simp] theorem Ht : C.ord 166 1 = some ⟨[0, 1, 2, 3, 4, 5, 6], [], [], [(1, 1), (3, 1), (6, 2)], [], []⟩ := by kernel_rfl
@[simp] theorem GN : C.ord 171 4 = some ⟨[0, 1, 2, 3, 4, 5, 6, 7], [6], [4], [], [], []⟩ := by kernel_rfl
@[simp] theorem Jn : C.ord 181 6 = none := by kernel_rfl
@[simp] theorem D9 : C.ord 181 11 = none := by kernel_rfl
@[simp] theorem ER : C.ord 182 4 = none := by kernel_rfl
@[simp] theorem Gl : C.ord 187 4 = none := by kernel_rfl
@[simp] theorem IC : C.ord 188 8 = none := by kernel_rfl
@[simp] theorem Eb : C.ord 189 13 = none := by kernel_rfl
@[simp] theorem Io : C.ord 194 8 = some ⟨[0, 1, 2, 3, 4, 8, 9, 5, 6, 7, 10, 11, 12, 13, 14, 15, 16, 17, 18, 19, 20, 21, 22, 23, 24], [5, 6], [8], [(1, 1), (19, 1)], [], []⟩ := by kernel_rfl
@[simp] theorem Em : C.ord 196 6 = none := by kernel_rfl
@[simp] theorem Ed : C.ord 197 10 = some ⟨[0, 1, 2, 3, 4, 5, 6, 7, 8, 9, 10, 11, 12, 13, 14, 15, 16, 17], [15], [4, 7], [], [], []⟩ := by kernel_rfl
@[simp] theorem FC : C.ord 201 1 = some ⟨[0, 1, 2, 3, 4, 5, 6, 7, 8, 9, 10], [5], [3], [], [], []⟩ := by kernel_rfl
@[simp] theorem Hw : C.ord 214 6 = none := by kernel_rfl
@[simp] theorem GZ : C.ord 224 7 = some ⟨[0, 1, 2, 3, 4, 5, 6, 7, 8, 9, 10, 11, 12, 13, 14, 15], [13], [5], [], [], []⟩ := by kernel_rfl
@[simp] theorem yc : C.ord 241 6 = none := by kernel_rfl
@[simp] theorem Hq : C.ord 243 5 = some ⟨[0, 1, 2, 3, 4, 5, 6, 7, 9, 10, 11, 12, 13, 14, 8, 15, 16, 17, 18, 19, 20], [8, 15], [7, 14], [(1, 3), (3, 1), (10, 1), (20, 3)], [], []⟩ := by kernel_rfl
@[simp] theorem FI : C.ord 251 4 = some ⟨[0, 1, 2, 3, 4, 5, 6, 7], [6], [4], [], [], []⟩ := by kernel_rfl
@[simp] theorem GH : C.ord 252 4 = some ⟨[0, 1, 2, 3, 4, 5, 6, 7], [6], [4], [], [], []⟩ := by kernel_rfl
@[simp] theorem Fa : C.ord 252 7 = some ⟨[0, 1, 2, 3, 4, 5, 6, 7], [6], [4], [], [], []⟩ := by kernel_rfl
@[simp] theorem Ja : C.ord 253 4 = some ⟨[0, 1, 2, 3, 4, 5, 6], [5], [3], [], [], []⟩ := by kernel_rfl
@[simp] theorem Ea : C.ord 254 10 = some ⟨[0, 1, 2, 3, 4, 5, 6, 7], [6], [4], [], [], []⟩ := by kernel_rfl
@[simp] theorem I8 : C.ord 255 4 = some ⟨[0, 1, 2, 3, 4, 5, 6, 7], [6], [4], [], [], []⟩ := by kernel_rfl
@[simp] theorem IG : C.ord 259 4 = some ⟨[0, 1, 2, 3, 4, 5, 6, 7, 8, 9, 10, 11, 12, 13, 14, 16, 17, 18, 19, 15, 20, 21, 22, 23], [15], [19], [], [], []⟩ := by kernel_rfl
@[simp] theorem Ec : C.ord 276 18 = none := by kernel_rfl
@[simp] theorem F8 : C.ord 297 6 = none := by kernel_rfl
@[simp] theorem D8 : C.ord 297 11 = none := by kernel_rfl
@[simp] theorem Ef : C.ord 306 5 = some ⟨[0, 1, 2, 3, 5, 6, 8, 9, 4, 7, 10, 11, 12, 13], [], [], [(1, 7), (3, 7), (6, 7), (9, 7), (12, 4)], [], []⟩ := by kernel_rfl
@[simp] theorem FD : C.ord 307 5 = some ⟨[0, 1, 2, 3, 4, 5, 6, 7, 8, 9, 10, 11], [], [], [(1, 3), (3, 5), (5, 5), (11, 3)], [], []⟩ := by kernel_rfl
@[simp] theorem EK : C.ord 314 1 = some ⟨[0, 2, 1, 3, 4], [1], [2], [], [], []⟩ := by kernel_rfl
end Go.Proofs.Try1
end
section
namespace Go.Proofs.Try1
open Go Go.Lite
def dB (f : Nat) (sh : Sh) : Prop := ∀ (H : List Ob) (cs : List V) (u : U) (left : Nat), At H sh cs u → left ≤ 1048576 →
 callW C f [valC sh cs, .int .i64 left] H = some (.int .i64 (if wt u ≤ left then ((left - wt u : Nat) : Int) else -1), H)
theorem bF : dB 179 (.slice .str) := by
 intro H cs u left h hleft
 simp only [At] at h
 obtain ⟨v, l, rfl, rfl, hlen, hv⟩ := h
 apply Ret.eq
 rw [Jc]
 by_cases h0 : (l.length : Int) ≤ left
 ·have h0' : ¬ ((left : Int) - l.length < 0) := by omega
  have hw0 : IntKind.i64.wrap ((left : Int) - l.length) = (left : Int) - l.length := wrap_i64 (by omega) (by omega)
  simp [kL, Tryz.f179, valC, hv.len, hw0, h0']
  refine WP_loop (fun k σ => ∃ (i : Nat) (r : Nat → R), i + k = l.length ∧ σ = ⟨r, 0, H⟩ ∧ r 0 = .val v ∧ l.length + wts (l.take i) ≤ left ∧ r 1 = .val (.int .i64 ((left : Int) - l.length - wts (l.take i))) ∧ r 5 = .val (.int .i64 i)) ?_ l.length _ ⟨0, _, by simp, rfl, by simp, by simp [wts]; omega, by simp [wts], by simp⟩
  rintro k σ ⟨i, r, hik, rfl, r0, hle, r1, r5⟩
  cases k with
  | zero =>
   have hi : i = l.length := by omega
   subst hi
   rw [List.take_length] at hle r1
   simp [r0, r1, r5, hv.len, wt, hle]
   omega
  | succ k =>
   have hi : i < l.length := by omega
   obtain ⟨x, hx⟩ : ∃ x, l[i]? = some x := ⟨l[i], by simp [hi]⟩
   obtain ⟨eid, o, own, cells, e1, e2, e3, s, e4, rfl, e5⟩ := hv.idx hx (by decide)
   simp only [Sh.size_str] at e1
   have c0 : cells[o]? = some (.str s) := by simpa using cells_get e4 (j := 0) rfl
   have ld := load1 e2 c0
   have ht := wts_take hx
   simp only [wt] at ht
   have hg := wts_get hx
   simp only [wt] at hg
   have hw : IntKind.i64.wrap ((i : Int) + 1) = ((i + 1 : Nat) : Int) := by rw [wrap_i64 (by omega) (by omega)]; omega
   have hw2 : IntKind.i64.wrap ((left : Int) - l.length - wts (l.take i) - s.length) = (left : Int) - l.length - wts (l.take i) - s.length := wrap_i64 (by have : s.length ≤ maxLen := e5; unfold maxLen at this; omega) (by omega)
   by_cases hb : l.length + wts (l.take (i + 1)) ≤ left
   ·have hb' : ¬ ((left : Int) - l.length - wts (l.take i) - s.length < 0) := by omega
    simp [r0, r1, r5, hi, hv.len, e1, ld, hw, hw2, hb']
    exact ⟨k, by omega, i + 1, by omega, hb, by omega, by omega⟩
   ·have hb' : (left : Int) - l.length - wts (l.take i) - s.length < 0 := by omega
    have := wts_take_le (l := l) (i := i + 1)
    have hn : ¬ (l.length + wts l ≤ left) := by omega
    simp [r0, r1, r5, hi, hv.len, e1, ld, hw, hw2, hb', wt, hn]
 ·have h0' : (left : Int) - l.length < 0 := by omega
  have hw0 : IntKind.i64.wrap ((left : Int) - l.length) = (left : Int) - l.length := wrap_i64 (by have : l.length ≤ maxLen := hlen; unfold maxLen at this; omega) (by omega)
  have hn : ¬ (l.length + wts l ≤ left) := by omega
  simp [kL, Tryz.f179, valC, hv.len, hw0, h0', wt, hn]
theorem jU {f g tS tE : Nat} {zs : List V} {fs : List Sh} {F : Func} (hop : ∀ {a : List V} {H : List Ob} {R : V → List Ob → Prop}, Ret C f a H R ↔ WP C f (ren [(47, tS), (180, tE)] [(124, g)] je) ⟨initRegs a, 0, H⟩ (finQ C F H R))
  (hF : F.results = #[.tmp 4]) (hS : C.ty tS = ⟨.slice tE, 1, 24, zs⟩) (hE : (C.ty tE).size = (Sh.st fs).size) (hE2 : (C.ty tE).isAgg = true) (hE0 : (C.ty tE).size ≠ 0) (hg : dB g (.st fs)) : dB f (.slice (.st fs)) := by
 intro H cs u left h hleft
 simp only [At] at h
 obtain ⟨v, l, rfl, rfl, hlen, hv⟩ := h
 apply Ret.eq
 rw [hop]
 by_cases h0 : (l.length : Int) ≤ left
 ·have h0' : ¬ ((left : Int) - l.length < 0) := by omega
  have hw0 : IntKind.i64.wrap ((left : Int) - l.length) = (left : Int) - l.length := wrap_i64 (by omega) (by omega)
  simp [je, Tryz.f53, ren, renO, renP, renX, sub, valC, hS, hv.len, hw0, h0']
  refine WP_loop (fun k σ => ∃ (i : Nat) (r : Nat → R), i + k = l.length ∧ σ = ⟨r, 0, H⟩ ∧ r 0 = .val v ∧ l.length + wts (l.take i) ≤ left ∧ r 1 = .val (.int .i64 ((left : Int) - l.length - wts (l.take i))) ∧ r 5 = .val (.int .i64 i)) ?_ l.length _ ⟨0, _, by simp, rfl, by simp, by simp [wts]; omega, by simp [wts], by simp⟩
  rintro k σ ⟨i, r, hik, rfl, r0, hle, r1, r5⟩
  cases k with
  | zero =>
   have hi : i = l.length := by omega
   subst hi
   rw [List.take_length] at hle r1
   simp [r0, r1, r5, hS, hv.len, wt, hle, hF]
   omega
  | succ k =>
   have hi : i < l.length := by omega
   obtain ⟨x, hx⟩ : ∃ x, l[i]? = some x := ⟨l[i], by simp [hi]⟩
   obtain ⟨eid, o, own, cells, e1, e2, e3, e4⟩ := hv.idx hx (by rw [← hE]; exact hE0)
   have e1 := fun (k : IntKind) => e1 tE 1 24 zs C.ty k hE
   have ld := load_agg (T := C.ty tE) e2 (by rw [hE]; exact e3) rfl hE0 hE2
   rw [hE] at ld
   have ht := wts_take hx
   have hw : IntKind.i64.wrap ((i : Int) + 1) = ((i + 1 : Nat) : Int) := by rw [wrap_i64 (by omega) (by omega)]; omega
   have hc := hg H _ x (left - l.length - wts (l.take i)) e4 (by omega)
   rw [show ((left - l.length - wts (l.take i) : Nat) : Int) = (left : Int) - l.length - wts (l.take i) by omega] at hc
   simp only [valC, Sh.size_st] at hc
   by_cases hb : l.length + wts (l.take (i + 1)) ≤ left
   ·have hb2 : wt x ≤ left - l.length - wts (l.take i) := by omega
    have hb' : ¬ (((left - l.length - wts (l.take i) - wt x : Nat) : Int) < 0) := by omega
    rw [if_pos hb2] at hc
    simp [r0, r1, r5, hi, hS, hv.len, e1, ld, hw, hc, hb']
    exact ⟨k, by omega, i + 1, by omega, hb, by omega, by omega⟩
   ·have hb2 : ¬ (wt x ≤ left - l.length - wts (l.take i)) := by omega
    have := wts_take_le (l := l) (i := i + 1)
    have hn : ¬ (l.length + wts l ≤ left) := by omega
    rw [if_neg hb2] at hc
    simp [r0, r1, r5, hi, hS, hv.len, e1, ld, hw, hc, wt, hn, hF]
 ·have h0' : (left : Int) - l.length < 0 := by omega
  have hw0 : IntKind.i64.wrap ((left : Int) - l.length) = (left : Int) - l.length := wrap_i64 (by have : l.length ≤ maxLen := hlen; unfold maxLen at this; omega) (by omega)
  have hn : ¬ (l.length + wts l ≤ left) := by omega
  simp [je, Tryz.f53, ren, renO, renP, renX, sub, valC, hS, hv.len, hw0, h0', wt, hn, hF]
end Go.Proofs.Try1
end
section
namespace Go.Lite
open Go
def bys (b : Str) : List V := b.map fun c => .int .u8 c.toNat
theorem bys_len {b : Str} : (bys b).length = b.length := by simp [bys]
theorem bys_get {b : Str} {i : Nat} {c : UInt8} (h : b[i]? = some c) : (bys b)[i]? = some (.int .u8 c.toNat) := by simp [bys, h]
theorem byteOf_u8 {c : UInt8} : byteOfV (.int .u8 c.toNat) = some c := by
 simp [byteOfV]
theorem bys_mapM : ∀ {b : Str}, (bys b).mapM byteOfV = some b
 | [] => rfl
 | c :: b => by
  have := bys_mapM (b := b)
  simp only [bys, List.map_cons, List.mapM_cons, byteOf_u8] at this ⊢
  rw [this]
  rfl
theorem bys_append {a b : Str} : bys (a ++ b) = bys a ++ bys b := by simp [bys]
theorem bys_take {b : Str} {n : Nat} : (bys b).take n = bys (b.take n) := by simp [bys, List.map_take]
def Bs (H G : List Ob) (v : V) (b : Str) : Prop := ∃ T id, G = H ++ T ∧ H.length ≤ id ∧ G[id]? = some (.mk true 1 (bys b)) ∧ v = .slc (some (id, 0)) b.length
theorem Bs.init {H : List Ob} : Bs H (H ++ [.mk true 1 []]) (.slc (some (H.length, 0)) 0) [] := ⟨_, H.length, rfl, Nat.le_refl _, by simp [bys], rfl⟩
section
variable {H G : List Ob} {v : V} {b : Str}
theorem Bs.push (h : Bs H G v b) (hb : b.length ≤ 1000000000) {c : UInt8} {z : List V} {d : LD} (hz : z.length = 1) : ∃ v' G', appendV ⟨d, 1, 1, z⟩ (G ++ [.mk true 1 [.int .u8 c.toNat]]) v (.slc (some (G.length, 0)) 1) = some (v', G') ∧ Bs H G' v' (b ++ [c]) := by
 obtain ⟨T, id, rfl, h1, h2, rfl⟩ := h
 have hid : id < (H ++ T).length := (List.getElem?_eq_some_iff.1 h2).1
 have hid' : id < H.length + T.length := by simpa using hid
 have hg : (H ++ T ++ [Ob.mk true 1 [.int .u8 c.toNat]])[id]? = some (.mk true 1 (bys b)) := by rw [List.getElem?_append_left hid]; exact h2
 have hnew : newCells ⟨d, 1, 1, z⟩ (H ++ T ++ [Ob.mk true 1 [.int .u8 c.toNat]]) (.slc (some ((H ++ T).length, 0)) 1) = some ([.int .u8 c.toNat], 1) := by
  simp only [newCells, Nat.mul_one, slcCells, get_last]
  rfl
 refine ⟨.slc (some ((H ++ T ++ [Ob.mk true 1 [.int .u8 c.toNat]]).length, 0)) (b.length + 1), (H ++ T ++ [Ob.mk true 1 [.int .u8 c.toNat]]).set id .dead ++ [.mk true 1 (bys b ++ [.int .u8 c.toNat])], ?_, ?_⟩
 ·unfold appendV
  rw [if_pos (by simp [growOk, hz]), hnew]
  simp only [Nat.one_ne_zero, if_false, List.all_cons, List.all_nil, isOne_int, Bool.and_true, if_true, hg]
  have e1 : ¬ (0 + (b.length + 1) * 1 ≤ (bys b).length) := by rw [bys_len]; omega
  have e2 : (0 + b.length * 1 = (bys b).length ∨ b.length = 0 ∧ (bys b).length ≤ 0) ∧ (b.length + 1) * 1 ≤ maxMade := ⟨.inl (by rw [bys_len]; simp), by unfold maxMade; omega⟩
  rw [if_neg e1, if_pos e2, List.drop_zero]
 ·refine ⟨T.set (id - H.length) .dead ++ [.mk true 1 [.int .u8 c.toNat]] ++ [.mk true 1 (bys b ++ [.int .u8 c.toNat])], (H ++ T ++ [Ob.mk true 1 [.int .u8 c.toNat]]).length, ?_, by simp only [List.length_append]; omega, ?_, by simp⟩
  ·rw [List.append_assoc H T, List.set_append_right _ _ h1, List.set_append_left _ _ (by omega)]
   simp
  ·have hl : ((H ++ T ++ [Ob.mk true 1 [V.int .u8 c.toNat]]).set id .dead).length = (H ++ T ++ [Ob.mk true 1 [V.int .u8 c.toNat]]).length := List.length_set
   rw [← hl, get_last, bys_append]
   rfl
theorem Bs.last (h : Bs H G v b) {d : UInt8} (hd : b.getLast? = some d) : ∃ id, v = .slc (some (id, 0)) b.length ∧ ∀ T : LT, T.one → ∀ r c, loadAt T ⟨r, c, G⟩ (.hp id (b.length - 1)) = some (.int .u8 d.toNat) := by
 obtain ⟨T, id, rfl, h1, h2, rfl⟩ := h
 refine ⟨id, rfl, load1 h2 (bys_get ?_)⟩
 rw [List.getLast?_eq_getElem?] at hd
 exact hd
theorem Bs.cut (h : Bs H G v b) {n : Nat} (hn : n ≤ b.length) : ∃ id, v = .slc (some (id, 0)) b.length ∧ strideIs G id 1 = true ∧ slcCells G (some (id, 0)) n = some (bys (b.take n)) := by
 obtain ⟨T, id, rfl, h1, h2, rfl⟩ := h
 refine ⟨id, rfl, by simp [strideIs, h2], ?_⟩
 simp only [slcCells, h2]
 by_cases h0 : n = 0
 ·subst h0; rfl
 ·rw [if_neg h0]
  unfold rdCells
  rw [if_pos (by rw [bys_len]; omega), List.drop_zero, bys_take]
theorem Bs.ext (h : Bs H G v b) : ∃ T, G = H ++ T := by
 obtain ⟨T, id, h, _⟩ := h
 exact ⟨T, h⟩
theorem Bs.len (h : Bs H G v b) {e s n : Nat} {z : List V} : lenV ⟨.slice e, s, n, z⟩ v = some (.int .i64 b.length) := by
 obtain ⟨T, id, _, _, _, rfl⟩ := h
 rfl
end
abbrev shRdn : Sh := .st [.str, .str]
abbrev shAttr : Sh := .st [.str, .slice .str]
abbrev shEntry : Sh := .st [.slice shRdn, .slice shAttr]
abbrev shClass : Sh := .st [.str, .slice .str, .slice .str, .slice .str]
structure PRdn where
 attr : Str
 value : Str
structure PAttr where
 name : Str
 vals : List Str
structure PEntry where
 dn : List PRdn
 attrs : List PAttr
structure PClass where
 name : Str
 must : List Str
 may : List Str
 single : List Str
abbrev strU (s : Str) : U := .str s
def PRdn.u (r : PRdn) : U := .st [.str r.attr, .str r.value]
def PAttr.u (a : PAttr) : U := .st [.str a.name, .lst (a.vals.map strU)]
def PEntry.u (e : PEntry) : U := .st [.lst (e.dn.map PRdn.u), .lst (e.attrs.map PAttr.u)]
def PClass.u (c : PClass) : U := .st [.str c.name, .lst (c.must.map strU), .lst (c.may.map strU), .lst (c.single.map strU)]
section
variable (H : List Ob)
def ASl {α : Type} (sh : Sh) (f : α → U) (v : V) (l : List α) : Prop := At H (.slice sh) [v] (.lst (l.map f))
abbrev AStrs (v : V) (l : List Str) : Prop := ASl H .str strU v l
abbrev ARdns (v : V) (l : List PRdn) : Prop := ASl H shRdn PRdn.u v l
abbrev AAttrs (v : V) (l : List PAttr) : Prop := ASl H shAttr PAttr.u v l
abbrev AClasses (v : V) (l : List PClass) : Prop := ASl H shClass PClass.u v l
end
section
variable {H H' T : List Ob} {v : V} {α : Type} {sh : Sh} {f : α → U} {l : List α}
theorem ASl.at (h : ASl H sh f v l) : At H (.slice sh) [v] (.lst (l.map f)) := h
theorem ASl.sl (h : ASl H sh f v l) : Sl H sh.size (At H sh) v (l.map f) := by
 obtain ⟨w, m, hw, hm, _, h⟩ := At_slice.1 h.at
 cases hw
 cases hm
 exact h
theorem ASl.bound (h : ASl H sh f v l) : l.length ≤ maxLen := by
 obtain ⟨w, m, hw, hm, h, _⟩ := At_slice.1 h.at
 cases hm
 simpa using h
theorem ASl.len (h : ASl H sh f v l) {e s b : Nat} {z : List V} : lenV ⟨.slice e, s, b, z⟩ v = some (.int .i64 l.length) := by
 have := h.sl.len (e := e) (s := s) (b := b) (z := z)
 simpa using this
theorem ASl.one (h : ASl H sh f v l) : isOne v = true ∧ cellsOf v = some [v] := h.sl.one
theorem ASl.ext (h : ASl H sh f v l) : ASl (H ++ T) sh f v l := At.ext h
theorem ASl.up (h : ASl H sh f v l) (hH : ∀ (id : Nat) o, H[id]? = some o → H'[id]? = some o) : ASl H' sh f v l := At.up hH _ h
theorem ASl.idx (h : ASl H sh f v l) {i : Nat} {x : α} (hx : l[i]? = some x) (hs : sh.size ≠ 0) : ∃ id o own cells,
  (∀ (e s b : Nat) (z : List V) (ty : Nat → LT) (k : IntKind), (ty e).size = sh.size → indexR ⟨.slice e, s, b, z⟩ ty (.val v) (.int k i) = some (.val (.ptr (some (id, o))))) ∧
  H[id]? = some (.mk own sh.size cells) ∧ o + sh.size ≤ cells.length ∧ At H sh ((cells.drop o).take sh.size) (f x) :=
 h.sl.idx (by rw [List.getElem?_map, hx]; rfl) hs
theorem Sl.typed (hf : ∀ cs u, At H sh cs u → ∃ x : α, u = f x) {us : List U} {n : Nat} (h : Sl H n (At H sh) v us) : ∃ l : List α, us = l.map f := by
 have h2 : ∀ u ∈ us, ∃ x : α, u = f x := by
  intro u hu
  rcases h with ⟨_, rfl⟩ | ⟨id, off, own, cells, _, _, _, h4⟩
  ·cases hu
  ·obtain ⟨i, hi, rfl⟩ := List.getElem_of_mem hu
   exact hf _ _ (h4 i _ (List.getElem?_eq_getElem hi))
 clear h
 induction us with
 | nil => exact ⟨[], rfl⟩
 | cons u us ih =>
  obtain ⟨x, rfl⟩ := h2 u List.mem_cons_self
  obtain ⟨l, rfl⟩ := ih fun w hw => h2 w (List.mem_cons_of_mem _ hw)
  exact ⟨x :: l, rfl⟩
theorem ASl.typed (hf : ∀ cs u, At H sh cs u → ∃ x : α, u = f x) {cs : List V} {u : U} (h : At H (.slice sh) cs u) : ∃ v l, cs = [v] ∧ u = .lst (l.map f) ∧ ASl H sh f v l := by
 have h0 := h
 obtain ⟨v, us, rfl, rfl, _, hs⟩ := At_slice.1 h
 obtain ⟨l, rfl⟩ := Sl.typed hf hs
 exact ⟨v, l, rfl, rfl, h0⟩
theorem strs_typed {cs : List V} {u : U} (h : At H (.slice .str) cs u) : ∃ v l, cs = [v] ∧ u = .lst (l.map strU) ∧ AStrs H v l :=
 ASl.typed (fun cs u h => by obtain ⟨s, _, rfl, _⟩ := At_str.1 h; exact ⟨s, rfl⟩) h
theorem rdn_at {cs : List V} {r : PRdn} : At H shRdn cs r.u ↔ cs = [.str r.attr, .str r.value] ∧ r.attr.length ≤ maxLen ∧ r.value.length ≤ maxLen := by
 constructor
 ·intro h
  obtain ⟨us, hu, h⟩ := At_st.1 h
  cases hu
  obtain ⟨c1, c2, u1, us1, rfl, hu, h1, h⟩ := Ats_cons.1 h
  cases hu
  obtain ⟨c3, c4, u2, us2, rfl, hu, h2, h⟩ := Ats_cons.1 h
  cases hu
  obtain ⟨rfl, _⟩ := Ats_nil.1 h
  obtain ⟨s, rfl, hs, w1⟩ := At_str.1 h1
  cases hs
  obtain ⟨s, rfl, hs, w2⟩ := At_str.1 h2
  cases hs
  exact ⟨rfl, w1, w2⟩
 ·rintro ⟨rfl, h1, h2⟩
  exact At_st.2 ⟨_, rfl, Ats_cons.2 ⟨[_], _, _, _, rfl, rfl, At_str.2 ⟨_, rfl, rfl, h1⟩, Ats_cons.2 ⟨[_], _, _, _, rfl, rfl, At_str.2 ⟨_, rfl, rfl, h2⟩, Ats_nil.2 ⟨rfl, rfl⟩⟩⟩⟩
theorem rdn_typed {cs : List V} {u : U} (h : At H shRdn cs u) : ∃ r : PRdn, u = r.u := by
 replace h := At_st.1 h
 obtain ⟨us, rfl, h⟩ := h
 obtain ⟨c1, c2, u1, us1, rfl, rfl, h1, h⟩ := Ats_cons.1 h
 obtain ⟨c3, c4, u2, us2, rfl, rfl, h2, h⟩ := Ats_cons.1 h
 obtain ⟨rfl, rfl⟩ := Ats_nil.1 h
 obtain ⟨s, rfl, rfl, w1⟩ := At_str.1 h1
 obtain ⟨t, rfl, rfl, w2⟩ := At_str.1 h2
 exact ⟨⟨s, t⟩, rfl⟩
theorem attr_at {cs : List V} {a : PAttr} : At H shAttr cs a.u ↔ ∃ v, cs = [.str a.name, v] ∧ a.name.length ≤ maxLen ∧ AStrs H v a.vals := by
 constructor
 ·intro h
  obtain ⟨us, hu, h⟩ := At_st.1 h
  cases hu
  obtain ⟨c1, c2, u1, us1, rfl, hu, h1, h⟩ := Ats_cons.1 h
  cases hu
  obtain ⟨c3, c4, u2, us2, rfl, hu, h2, h⟩ := Ats_cons.1 h
  cases hu
  obtain ⟨rfl, _⟩ := Ats_nil.1 h
  obtain ⟨s, rfl, hs, w1⟩ := At_str.1 h1
  cases hs
  obtain ⟨v, _, rfl, _⟩ := At_slice.1 h2
  exact ⟨v, rfl, w1, h2⟩
 ·rintro ⟨v, rfl, h1, h2⟩
  exact At_st.2 ⟨_, rfl, Ats_cons.2 ⟨[_], _, _, _, rfl, rfl, At_str.2 ⟨_, rfl, rfl, h1⟩, Ats_cons.2 ⟨[_], _, _, _, rfl, rfl, h2, Ats_nil.2 ⟨rfl, rfl⟩⟩⟩⟩
theorem attr_typed {cs : List V} {u : U} (h : At H shAttr cs u) : ∃ r : PAttr, u = r.u := by
 replace h := At_st.1 h
 obtain ⟨us, rfl, h⟩ := h
 obtain ⟨c1, c2, u1, us1, rfl, rfl, h1, h⟩ := Ats_cons.1 h
 obtain ⟨c3, c4, u2, us2, rfl, rfl, h2, h⟩ := Ats_cons.1 h
 obtain ⟨rfl, rfl⟩ := Ats_nil.1 h
 obtain ⟨s, rfl, rfl, w1⟩ := At_str.1 h1
 obtain ⟨v, l, rfl, rfl, _⟩ := strs_typed h2
 exact ⟨⟨s, l⟩, rfl⟩
theorem class_at {cs : List V} {c : PClass} : At H shClass cs c.u ↔ ∃ v1 v2 v3, cs = [.str c.name, v1, v2, v3] ∧ c.name.length ≤ maxLen ∧ AStrs H v1 c.must ∧ AStrs H v2 c.may ∧ AStrs H v3 c.single := by
 constructor
 ·intro h
  obtain ⟨us, hu, h⟩ := At_st.1 h
  cases hu
  obtain ⟨c1, c2, u1, us1, rfl, hu, h1, h⟩ := Ats_cons.1 h
  cases hu
  obtain ⟨c3, c4, u2, us2, rfl, hu, h2, h⟩ := Ats_cons.1 h
  cases hu
  obtain ⟨c5, c6, u3, us3, rfl, hu, h3, h⟩ := Ats_cons.1 h
  cases hu
  obtain ⟨c7, c8, u4, us4, rfl, hu, h4, h⟩ := Ats_cons.1 h
  cases hu
  obtain ⟨rfl, _⟩ := Ats_nil.1 h
  obtain ⟨s, rfl, hs, w1⟩ := At_str.1 h1
  cases hs
  obtain ⟨v1, _, rfl, _⟩ := At_slice.1 h2
  obtain ⟨v2, _, rfl, _⟩ := At_slice.1 h3
  obtain ⟨v3, _, rfl, _⟩ := At_slice.1 h4
  exact ⟨v1, v2, v3, rfl, w1, h2, h3, h4⟩
 ·rintro ⟨v1, v2, v3, rfl, h1, h2, h3, h4⟩
  exact At_st.2 ⟨_, rfl, Ats_cons.2 ⟨[_], _, _, _, rfl, rfl, At_str.2 ⟨_, rfl, rfl, h1⟩, Ats_cons.2 ⟨[_], _, _, _, rfl, rfl, h2, Ats_cons.2 ⟨[_], _, _, _, rfl, rfl, h3, Ats_cons.2 ⟨[_], _, _, _, rfl, rfl, h4, Ats_nil.2 ⟨rfl, rfl⟩⟩⟩⟩⟩⟩
theorem class_typed {cs : List V} {u : U} (h : At H shClass cs u) : ∃ r : PClass, u = r.u := by
 replace h := At_st.1 h
 obtain ⟨us, rfl, h⟩ := h
 obtain ⟨c1, c2, u1, us1, rfl, rfl, h1, h⟩ := Ats_cons.1 h
 obtain ⟨c3, c4, u2, us2, rfl, rfl, h2, h⟩ := Ats_cons.1 h
 obtain ⟨c5, c6, u3, us3, rfl, rfl, h3, h⟩ := Ats_cons.1 h
 obtain ⟨c7, c8, u4, us4, rfl, rfl, h4, h⟩ := Ats_cons.1 h
 obtain ⟨rfl, rfl⟩ := Ats_nil.1 h
 obtain ⟨s, rfl, rfl, w1⟩ := At_str.1 h1
 obtain ⟨v, l, rfl, rfl, _⟩ := strs_typed h2
 obtain ⟨v', l', rfl, rfl, _⟩ := strs_typed h3
 obtain ⟨v'', l'', rfl, rfl, _⟩ := strs_typed h4
 exact ⟨⟨s, l, l', l''⟩, rfl⟩
theorem entry_at {cs : List V} {e : PEntry} : At H shEntry cs e.u ↔ ∃ v1 v2, cs = [v1, v2] ∧ ARdns H v1 e.dn ∧ AAttrs H v2 e.attrs := by
 constructor
 ·intro h
  obtain ⟨us, hu, h⟩ := At_st.1 h
  cases hu
  obtain ⟨c1, c2, u1, us1, rfl, hu, h1, h⟩ := Ats_cons.1 h
  cases hu
  obtain ⟨c3, c4, u2, us2, rfl, hu, h2, h⟩ := Ats_cons.1 h
  cases hu
  obtain ⟨rfl, _⟩ := Ats_nil.1 h
  obtain ⟨v1, _, rfl, _⟩ := At_slice.1 h1
  obtain ⟨v2, _, rfl, _⟩ := At_slice.1 h2
  exact ⟨v1, v2, rfl, h1, h2⟩
 ·rintro ⟨v1, v2, rfl, h1, h2⟩
  exact At_st.2 ⟨_, rfl, Ats_cons.2 ⟨[_], _, _, _, rfl, rfl, h1, Ats_cons.2 ⟨[_], _, _, _, rfl, rfl, h2, Ats_nil.2 ⟨rfl, rfl⟩⟩⟩⟩
theorem entry_typed {cs : List V} {u : U} (h : At H shEntry cs u) : ∃ r : PEntry, u = r.u := by
 replace h := At_st.1 h
 obtain ⟨us, rfl, h⟩ := h
 obtain ⟨c1, c2, u1, us1, rfl, rfl, h1, h⟩ := Ats_cons.1 h
 obtain ⟨c3, c4, u2, us2, rfl, rfl, h2, h⟩ := Ats_cons.1 h
 obtain ⟨rfl, rfl⟩ := Ats_nil.1 h
 obtain ⟨v, l, rfl, rfl, _⟩ := ASl.typed (fun _ _ => rdn_typed) h1
 obtain ⟨v', l', rfl, rfl, _⟩ := ASl.typed (fun _ _ => attr_typed) h2
 exact ⟨⟨l, l'⟩, rfl⟩
theorem strs_idx {xs : List Str} (h : AStrs H v xs) {i : Nat} {s : Str} (hx : xs[i]? = some s) : ∃ id o,
  (∀ (e s b : Nat) (z : List V) (ty : Nat → LT) (k : IntKind), (ty e).size = 1 → indexR ⟨.slice e, s, b, z⟩ ty (.val v) (.int k i) = some (.val (.ptr (some (id, o))))) ∧
  (∀ T : LT, T.one → ∀ r c, loadAt T ⟨r, c, H⟩ (.hp id o) = some (.str s)) ∧ s.length ≤ maxLen := by
 obtain ⟨id, o, own, cells, e1, e2, e3, e4⟩ := ASl.idx h hx (by decide)
 obtain ⟨t, e4, ht, e5⟩ := At_str.1 e4
 cases ht
 exact ⟨id, o, e1, load1 e2 (by simpa using cells_get e4 (j := 0) rfl), e5⟩
theorem rdns_idx {xs : List PRdn} (h : ARdns H v xs) {i : Nat} {x : PRdn} (hx : xs[i]? = some x) : ∃ id o,
  (∀ (e s b : Nat) (z : List V) (ty : Nat → LT) (k : IntKind), (ty e).size = 2 → indexR ⟨.slice e, s, b, z⟩ ty (.val v) (.int k i) = some (.val (.ptr (some (id, o))))) ∧
  (∀ T : LT, T.one → ∀ r c, loadAt T ⟨r, c, H⟩ (.hp id o) = some (.str x.attr)) ∧ (∀ T : LT, T.one → ∀ r c, loadAt T ⟨r, c, H⟩ (.hp id (o + 1)) = some (.str x.value)) ∧
  (∀ T : LT, T.many 2 → ∀ r c, loadAt T ⟨r, c, H⟩ (.hp id o) = some (.agg [.str x.attr, .str x.value])) ∧ At H shRdn [.str x.attr, .str x.value] x.u := by
 obtain ⟨id, o, own, cells, e1, e2, e3, e4⟩ := ASl.idx h hx (by decide)
 have e6 := e4
 obtain ⟨e4, e5⟩ := rdn_at.1 e4
 rw [e4] at e6
 exact ⟨id, o, e1, load1 e2 (by simpa using cells_get e4 (j := 0) rfl), load1 e2 (by simpa using cells_get e4 (j := 1) rfl), loadN e2 e3 (by decide) e4, e6⟩
theorem attrs_idx {xs : List PAttr} (h : AAttrs H v xs) {i : Nat} {x : PAttr} (hx : xs[i]? = some x) : ∃ id o w,
  (∀ (e s b : Nat) (z : List V) (ty : Nat → LT) (k : IntKind), (ty e).size = 2 → indexR ⟨.slice e, s, b, z⟩ ty (.val v) (.int k i) = some (.val (.ptr (some (id, o))))) ∧
  (∀ T : LT, T.one → ∀ r c, loadAt T ⟨r, c, H⟩ (.hp id o) = some (.str x.name)) ∧ (∀ T : LT, T.one → ∀ r c, loadAt T ⟨r, c, H⟩ (.hp id (o + 1)) = some w) ∧
  (∀ T : LT, T.many 2 → ∀ r c, loadAt T ⟨r, c, H⟩ (.hp id o) = some (.agg [.str x.name, w])) ∧ AStrs H w x.vals ∧ At H shAttr [.str x.name, w] x.u ∧ x.name.length ≤ maxLen := by
 obtain ⟨id, o, own, cells, e1, e2, e3, e4⟩ := ASl.idx h hx (by decide)
 have e6 := e4
 obtain ⟨w, e4, e7, e5⟩ := attr_at.1 e4
 rw [e4] at e6
 exact ⟨id, o, w, e1, load1 e2 (by simpa using cells_get e4 (j := 0) rfl), load1 e2 (by simpa using cells_get e4 (j := 1) rfl), loadN e2 e3 (by decide) e4, e5, e6, e7⟩
theorem classes_idx {xs : List PClass} (h : AClasses H v xs) {i : Nat} {x : PClass} (hx : xs[i]? = some x) : ∃ id o w1 w2 w3,
  (∀ (e s b : Nat) (z : List V) (ty : Nat → LT) (k : IntKind), (ty e).size = 4 → indexR ⟨.slice e, s, b, z⟩ ty (.val v) (.int k i) = some (.val (.ptr (some (id, o))))) ∧
  (∀ T : LT, T.one → ∀ r c, loadAt T ⟨r, c, H⟩ (.hp id o) = some (.str x.name)) ∧
  (∀ T : LT, T.many 4 → ∀ r c, loadAt T ⟨r, c, H⟩ (.hp id o) = some (.agg [.str x.name, w1, w2, w3])) ∧ AStrs H w1 x.must ∧ AStrs H w2 x.may ∧ AStrs H w3 x.single ∧ At H shClass [.str x.name, w1, w2, w3] x.u ∧ x.name.length ≤ maxLen := by
 obtain ⟨id, o, own, cells, e1, e2, e3, e4⟩ := ASl.idx h hx (by decide)
 have e6 := e4
 obtain ⟨w1, w2, w3, e4, e7, e8, e9, e5⟩ := class_at.1 e4
 rw [e4] at e6
 exact ⟨id, o, w1, w2, w3, e1, load1 e2 (by simpa using cells_get e4 (j := 0) rfl), loadN e2 e3 (by decide) e4, e8, e9, e5, e6, e7⟩
theorem classes_idxT {xs : List PClass} (h : AClasses H v xs) {i : Nat} {x : PClass} (hx : xs[i]? = some x) : ∃ id o w1 w2 w3,
  (∀ (e s b : Nat) (z : List V) (ty : Nat → LT) (k : IntKind), (ty e).size = 4 → indexR ⟨.slice e, s, b, z⟩ ty (.val v) (.int k i) = some (.val (.ptr (some (id, o))))) ∧
  (∀ T' : List Ob, ∀ T : LT, T.many 4 → ∀ r c, loadAt T ⟨r, c, H ++ T'⟩ (.hp id o) = some (.agg [.str x.name, w1, w2, w3])) ∧ AStrs H w1 x.must ∧ AStrs H w2 x.may ∧ AStrs H w3 x.single := by
 obtain ⟨id, o, own, cells, e1, e2, e3, e4⟩ := ASl.idx h hx (by decide)
 obtain ⟨w1, w2, w3, e4, e7, e8, e9, e5⟩ := class_at.1 e4
 exact ⟨id, o, w1, w2, w3, e1, fun T' => loadN (up_append _ _ e2) e3 (by decide) e4, e8, e9, e5⟩
end
end Go.Lite
end
