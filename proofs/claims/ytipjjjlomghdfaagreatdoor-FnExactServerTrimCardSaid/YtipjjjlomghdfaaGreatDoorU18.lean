/- Part 18 of the proof of a law: the interpreter, its soundness, and what functions of the program compute over it. Conditions: none but those that each theorem names. -/
import Derived.Test.YtipjjjlomghdfaaGreatDoorU17
import Derived.Test.YtipjjjlomghdfaaGreatDoorU07
import Derived.WalkKit

set_option linter.all false
set_option maxRecDepth 20000
set_option maxHeartbeats 40000000
section
namespace Go.Proofs.Try1
open Go Go.Lite
theorem DK : PrimOk Tryz.prog 361 idxPrim :=
 idxPrim_ok Tryz.func361 (by kernel_rfl) (by kernel_rfl) rfl rfl
theorem progOk : ProgOk Tryz.prog C := progB_sound mixed ok fun g pr h => by
 change primTab g = some pr at h
 unfold primTab at h
 split at h
 ·rename_i hg; subst hg; cases h; exact H5
 split at h
 ·rename_i hg; subst hg; cases h; exact A8
 split at h
 ·rename_i hg; subst hg; cases h; exact DK
 split at h
 ·rename_i hg; subst hg; cases h; exact yU
 cases h
end Go.Proofs.Try1
end
