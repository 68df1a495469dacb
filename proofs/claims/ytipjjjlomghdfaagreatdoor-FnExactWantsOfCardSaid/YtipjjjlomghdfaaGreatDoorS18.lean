/- Part 18 of the proof of a law: the interpreter, its soundness, and what functions of the program compute over it. Conditions: none but those that each theorem names. -/
import Derived.Shelf.SlGeneric
import Derived.Shelf.SlLaysF
import Derived.Shelf.Slices.In.SortAlone
import Derived.Ground.SlsfProg
import Derived.Ground.NamesProg
import Derived.Test.YtipjjjlomghdfaaGreatDoorProg
import Derived.Test.YtipjjjlomghdfaaGreatDoorS17
import Derived.Shelf.Slices.In.SortNone
import Derived.Test.YtipjjjlomghdfaaGreatDoorS06
import Derived.Test.YtipjjjlomghdfaaGreatDoorS07
import Derived.WalkKit

set_option linter.all false
set_option maxRecDepth 20000
set_option maxHeartbeats 40000000
section
namespace Go.Proofs
open Go.Shelf
def Tryz.laysSort_ren : Go.Shelf.Ren := ⟨fun | 190 => 296 | 125 => 325 | 258 => 324 | 128 => 349 | 129 => 350 | 302 => 340 | 303 => 341 | 304 => 342 | 305 => 343 | 306 => 344 | 307 => 345 | 308 => 346 | 309 => 347 | 310 => 348 | 333 => 356 | 329 => 357 | 330 => 358 | 334 => 359 | 335 => 360 | 336 => 316 | 344 => 363 | n => n, fun | 31 => 148 | 9 => 9 | 3 => 3 | 46 => 349 | 0 => 0 | 51 => 374 | 53 => 376 | 4 => 4 | 183 => 368 | 182 => 367 | 131 => 261 | 5 => 5 | 218 => 379 | 222 => 383 | 228 => 385 | 229 => 287 | n => n, fun | n => n⟩
theorem Tryz.laysSort : Go.Proofs.Lays.n190 Tryz.prog Tryz.laysSort_ren := {
 mixed := by kernel_rfl
 f125 := Tryz.func325.trans (congrArg some (by kernel_rfl))
 f128 := Tryz.func349.trans (congrArg some (by kernel_rfl))
 f129 := Tryz.func350.trans (congrArg some (by kernel_rfl))
 f190 := Tryz.func296.trans (congrArg some (by kernel_rfl))
 f258 := Tryz.func324.trans (congrArg some (by kernel_rfl))
 f302 := Tryz.func340.trans (congrArg some (by kernel_rfl))
 f303 := Tryz.func341.trans (congrArg some (by kernel_rfl))
 f304 := Tryz.func342.trans (congrArg some (by kernel_rfl))
 f305 := Tryz.func343.trans (congrArg some (by kernel_rfl))
 f306 := Tryz.func344.trans (congrArg some (by kernel_rfl))
 f307 := Tryz.func345.trans (congrArg some (by kernel_rfl))
 f308 := Tryz.func346.trans (congrArg some (by kernel_rfl))
 f309 := Tryz.func347.trans (congrArg some (by kernel_rfl))
 f310 := Tryz.func348.trans (congrArg some (by kernel_rfl))
 f329 := Tryz.func357.trans (congrArg some (by kernel_rfl))
 f330 := Tryz.func358.trans (congrArg some (by kernel_rfl))
 f333 := Tryz.func356.trans (congrArg some (by kernel_rfl))
 f334 := Tryz.func359.trans (congrArg some (by kernel_rfl))
 f335 := Tryz.func360.trans (congrArg some (by kernel_rfl))
 f336 := Tryz.func316.trans (congrArg some (by kernel_rfl))
 f344 := Tryz.func363.trans (congrArg some (by kernel_rfl))
 t0 := Tryz.underlying0
 a0 := Tryz.isAgg0
 z0 := Tryz.sizeOf0
 v0 := Tryz.zeroValue0
 t3 := Tryz.underlying3
 a3 := Tryz.isAgg3
 z3 := Tryz.sizeOf3
 v3 := Tryz.zeroValue3
 t4 := Tryz.underlying4
 a4 := Tryz.isAgg4
 z4 := Tryz.sizeOf4
 v4 := Tryz.zeroValue4
 t5 := Tryz.underlying5
 a5 := Tryz.isAgg5
 z5 := Tryz.sizeOf5
 v5 := Tryz.zeroValue5
 t9 := Tryz.underlying9
 a9 := Tryz.isAgg9
 z9 := Tryz.sizeOf9
 v9 := Tryz.zeroValue9
 t31 := Tryz.underlying148
 a31 := Tryz.isAgg148
 z31 := Tryz.sizeOf148
 v31 := Tryz.zeroValue148
 t46 := Tryz.underlying349
 a46 := Tryz.isAgg349
 z46 := Tryz.sizeOf349
 v46 := Tryz.zeroValue349
 t51 := Tryz.underlying374
 a51 := Tryz.isAgg374
 z51 := Tryz.sizeOf374
 v51 := Tryz.zeroValue374
 t53 := Tryz.underlying376
 a53 := Tryz.isAgg376
 z53 := Tryz.sizeOf376
 v53 := Tryz.zeroValue376
 t131 := Tryz.underlying261
 a131 := Tryz.isAgg261
 z131 := Tryz.sizeOf261
 v131 := Tryz.zeroValue261
 t182 := Tryz.underlying367
 a182 := Tryz.isAgg367
 z182 := Tryz.sizeOf367
 v182 := Tryz.zeroValue367
 t183 := Tryz.underlying368
 a183 := Tryz.isAgg368
 z183 := Tryz.sizeOf368
 v183 := Tryz.zeroValue368
 t218 := Tryz.underlying379
 a218 := Tryz.isAgg379
 z218 := Tryz.sizeOf379
 v218 := Tryz.zeroValue379
 t222 := Tryz.underlying383
 a222 := Tryz.isAgg383
 z222 := Tryz.sizeOf383
 v222 := Tryz.zeroValue383
 t228 := Tryz.underlying385
 a228 := Tryz.isAgg385
 z228 := Tryz.sizeOf385
 v228 := Tryz.zeroValue385
 t229 := Tryz.underlying287
 a229 := Tryz.isAgg287
 z229 := Tryz.sizeOf287
 v229 := Tryz.zeroValue287 }
end Go.Proofs
end
section
namespace Go.Proofs.Try1
open Go Go.Lite
theorem AQ : PrimOk Tryz.prog 296 sortPrim :=
 sortPrim_ok (enters Tryz.func296 (by kernel_rfl) (by kernel_rfl))
  (fun blk off cap zs w hH hb hl => jq fun D => AnyS.slices_Sort_string_alone Tryz.laysSort D blk off cap zs w hH hb hl)
  (fun p cap w => jq fun D => AnyS.slices_Sort_string_none_alone Tryz.laysSort D p cap w)
end Go.Proofs.Try1
end
section
namespace Go.Lite
open Go
variable [Draws]
theorem idxPrim_ok {P : Program} {g : FuncId} {fn : Func} (hf : P.funcs[g]? = some fn) (hname : (fn.name == "runtime.NumGoroutine") = false) (hb : fn.body.isNone = true) (hn : Extern.findNext fn = none) (he : Extern.find fn = some Extern.BytealgIndexByte.indexByte) : PrimOk P g idxPrim := by
 intro args H r H' h μ w us hs hv
 unfold idxPrim at h
 split at h
 ·rename_i s c
  cases h
  obtain ⟨u, u', rfl, h1, h2⟩ := hv.two
  obtain ⟨x, rfl, rfl⟩ := h1.str_inv
  have h3 := h2.int_inv
  subst h3
  refine .inl ⟨.int .i64 (Lib.indexByte x.data.toList c.toNat.toUInt8), w, ?_, μ, .refl hs, .int _ _⟩
  rw [run_callFunc_extern hf hname hb hn he, Lib.run_indexByteString]
  rfl
 ·cases h
end Go.Lite
end
section
namespace Go.Proofs.Try1
open Go Go.Lite
theorem EG : PrimOk Tryz.prog 361 idxPrim :=
 idxPrim_ok Tryz.func361 (by kernel_rfl) (by kernel_rfl) rfl rfl
theorem progOk : ProgOk Tryz.prog C := progB_sound mixed ok fun g pr h => by
 change primTab g = some pr at h
 unfold primTab at h
 split at h
 ·rename_i hg; subst hg; cases h; exact Gi
 split at h
 ·rename_i hg; subst hg; cases h; exact AQ
 split at h
 ·rename_i hg; subst hg; cases h; exact EG
 split at h
 ·rename_i hg; subst hg; cases h; exact zU
 cases h
end Go.Proofs.Try1
end
