/- The given functions of the library are those of the program. Conditions: none but those that each theorem names. -/
import Derived.Test.YtecdehhdbbckoaaGreatDoorNum
import Derived.Test.YtecdehhdbbckoaaGreatDoorLiteE
import Derived.WalkKit
import Derived.Ground.NamesProg
import Derived.Shelf.Slices.In.SortNone
import Derived.Shelf.Slices.In.SortAlone

namespace Go.Proofs
open Go.Shelf
def Tryz.laysSort_ren : Go.Shelf.Ren := ⟨fun | 190 => 173 | 125 => 154 | 258 => 197 | 128 => 185 | 129 => 186 | 302 => 209 | 303 => 210 | 304 => 211 | 305 => 212 | 306 => 213 | 307 => 214 | 308 => 215 | 309 => 216 | 310 => 217 | 333 => 224 | 329 => 199 | 330 => 200 | 334 => 225 | 335 => 226 | 336 => 192 | 344 => 228 | n => n, fun | 31 => 29 | 9 => 9 | 3 => 3 | 46 => 141 | 0 => 0 | 51 => 181 | 53 => 136 | 4 => 4 | 183 => 175 | 182 => 174 | 131 => 133 | 5 => 5 | 218 => 192 | 222 => 196 | 228 => 205 | 229 => 206 | n => n, fun | n => n⟩
theorem Tryz.laysSort : Go.Proofs.Lays.n190 Tryz.prog Tryz.laysSort_ren where
  mixed := by kernel_rfl
  f125 := Tryz.func154.trans (congrArg some (by kernel_rfl))
  f128 := Tryz.func185.trans (congrArg some (by kernel_rfl))
  f129 := Tryz.func186.trans (congrArg some (by kernel_rfl))
  f190 := Tryz.func173.trans (congrArg some (by kernel_rfl))
  f258 := Tryz.func197.trans (congrArg some (by kernel_rfl))
  f302 := Tryz.func209.trans (congrArg some (by kernel_rfl))
  f303 := Tryz.func210.trans (congrArg some (by kernel_rfl))
  f304 := Tryz.func211.trans (congrArg some (by kernel_rfl))
  f305 := Tryz.func212.trans (congrArg some (by kernel_rfl))
  f306 := Tryz.func213.trans (congrArg some (by kernel_rfl))
  f307 := Tryz.func214.trans (congrArg some (by kernel_rfl))
  f308 := Tryz.func215.trans (congrArg some (by kernel_rfl))
  f309 := Tryz.func216.trans (congrArg some (by kernel_rfl))
  f310 := Tryz.func217.trans (congrArg some (by kernel_rfl))
  f329 := Tryz.func199.trans (congrArg some (by kernel_rfl))
  f330 := Tryz.func200.trans (congrArg some (by kernel_rfl))
  f333 := Tryz.func224.trans (congrArg some (by kernel_rfl))
  f334 := Tryz.func225.trans (congrArg some (by kernel_rfl))
  f335 := Tryz.func226.trans (congrArg some (by kernel_rfl))
  f336 := Tryz.func192.trans (congrArg some (by kernel_rfl))
  f344 := Tryz.func228.trans (congrArg some (by kernel_rfl))
  t0 := Tryz.underlying0
  a0 := Tryz.isAgg0
  z0 := Tryz.sizeOf0
  v0 := Tryz.zeroValue0
  t3 := Tryz.underlying3
  a3 := Tryz.isAgg3
  z3 := Tryz.sizeOf3
  v3 := Tryz.zeroValue3
  t4 := Tryz.underlying4
  a4 := Tryz.isAgg4
  z4 := Tryz.sizeOf4
  v4 := Tryz.zeroValue4
  t5 := Tryz.underlying5
  a5 := Tryz.isAgg5
  z5 := Tryz.sizeOf5
  v5 := Tryz.zeroValue5
  t9 := Tryz.underlying9
  a9 := Tryz.isAgg9
  z9 := Tryz.sizeOf9
  v9 := Tryz.zeroValue9
  t31 := Tryz.underlying29
  a31 := Tryz.isAgg29
  z31 := Tryz.sizeOf29
  v31 := Tryz.zeroValue29
  t46 := Tryz.underlying141
  a46 := Tryz.isAgg141
  z46 := Tryz.sizeOf141
  v46 := Tryz.zeroValue141
  t51 := Tryz.underlying181
  a51 := Tryz.isAgg181
  z51 := Tryz.sizeOf181
  v51 := Tryz.zeroValue181
  t53 := Tryz.underlying136
  a53 := Tryz.isAgg136
  z53 := Tryz.sizeOf136
  v53 := Tryz.zeroValue136
  t131 := Tryz.underlying133
  a131 := Tryz.isAgg133
  z131 := Tryz.sizeOf133
  v131 := Tryz.zeroValue133
  t182 := Tryz.underlying174
  a182 := Tryz.isAgg174
  z182 := Tryz.sizeOf174
  v182 := Tryz.zeroValue174
  t183 := Tryz.underlying175
  a183 := Tryz.isAgg175
  z183 := Tryz.sizeOf175
  v183 := Tryz.zeroValue175
  t218 := Tryz.underlying192
  a218 := Tryz.isAgg192
  z218 := Tryz.sizeOf192
  v218 := Tryz.zeroValue192
  t222 := Tryz.underlying196
  a222 := Tryz.isAgg196
  z222 := Tryz.sizeOf196
  v222 := Tryz.zeroValue196
  t228 := Tryz.underlying205
  a228 := Tryz.isAgg205
  z228 := Tryz.sizeOf205
  v228 := Tryz.zeroValue205
  t229 := Tryz.underlying206
  a229 := Tryz.isAgg206
  z229 := Tryz.sizeOf206
  v229 := Tryz.zeroValue206
end Go.Proofs
namespace Go.Proofs.Try1
open Go Go.Lite

theorem calls_of_in {L : List Nat} {n : Nat} {P : Program} {f : FuncId} {args : Array Value} {w : World} {R : Ending → World → Prop} (h : ∀ D, CallsIn (Fence.list L (some D)) n P f args w R) : Calls P f args w R := fun cs =>
  let ⟨e, w', fr, r, s, x⟩ := (h (cs.length + 1 + n)).2 cs (fun d hd => by cases hd; omega)
  ⟨e, w', fr, r, s.comes, x⟩

theorem sort_call (us : Array Value) (w : World) : (callFunc 173 us).run Tryz.prog w = .ok (.enter 173 us) w := by
  have h1 : Tryz.prog.funcs[173]? = some Tryz.f173 := Tryz.func173
  have h2 : (Tryz.f173.name == "runtime.NumGoroutine") = false := by kernel_rfl
  have h3 : Tryz.f173.body.isNone = false := by kernel_rfl
  simp [callFunc, h1, (by simpa using h2 : ¬ Tryz.f173.name = "runtime.NumGoroutine")]
  intro hb
  rw [hb] at h3
  cases h3

theorem sort_ok : PrimOk Tryz.prog 173 sortPrim :=
  sortPrim_ok sort_call
    (fun blk off cap zs w hH hb hl => calls_of_in fun D => AnyS.slices_Sort_string_alone Tryz.laysSort D blk off cap zs w hH hb hl)
    (fun p cap w => calls_of_in fun D => AnyS.slices_Sort_string_none_alone Tryz.laysSort D p cap w)

theorem cmp_ok : PrimOk Tryz.prog 203 cmpPrim :=
  cmpPrim_ok Tryz.func203 (by kernel_rfl) (by kernel_rfl) rfl rfl

theorem progOk : ProgOk Tryz.prog C := progB_sound mixed ok fun g pr h => by
  change primTab g = some pr at h
  unfold primTab at h
  split at h
  · rename_i hg; subst hg; cases h; exact sort_ok
  · split at h
    · rename_i hg; subst hg; cases h; exact cmp_ok
    · cases h
end Go.Proofs.Try1
