/- FnSchema: for all arguments the call returns true and leaves its arguments as they were. Conditions: the row's own (the listed variables hold what the program's text lays). -/
import Derived.Test.YtdkbgdjfmbppfaaGreatDoorCards
import Derived.Test.YtdkbgdjfmbppfaaGreatDoorTie
import Derived.Test.YtdkbgdjfmbppfaaGreatDoorE13
import Derived.Test.YtdkbgdjfmbppfaaGreatDoorFnSchemaCloseF
import Derived.Test.YtdkbgdjfmbppfaaGreatDoorFnSchemaCloseG
import Derived.Test.YtdkbgdjfmbppfaaGreatDoorE05
import Derived.WalkKit
import Derived.ProofKit
import Derived.OpenShut
import Derived.Deep.DeepHandedRow
import Derived.Lib.LaidTab

namespace Go.Proofs.YtdkbgdjfmbppfaaGreatDoor.fnSchema
open Go Go.Lite Go.ChangeShapes Go.WideShapes Go.ChangeAt Go.RowKit

theorem own : ownKnob Tryz.prog.godebug = none := by kernel_rfl
theorem laidOut : laidOutB Tryz.prog = true := by kernel_rfl
theorem mapsOk : mapsRowed Tryz.prog = true := by kernel_rfl
theorem full : ((List.range Tryz.prog.types.size).all fun t => match Tryz.prog.underlying t with | some (.slice e) => decide (0 < Tryz.prog.cellsOf e) | _ => true) = true := by kernel_rfl
theorem pars : Tryz.f4.params.toList.all (fun t => decide (t < Tryz.prog.types.size)) = true := by kernel_rfl
theorem results : Tryz.f4.resultTypes = #[4] := by kernel_rfl
theorem bodied : Tryz.f4.body.isSome = true := by kernel_rfl
theorem named : (Tryz.f4.name == "runtime.NumGoroutine") = false := by kernel_rfl

/-- The heap holds the listed variables. -/
theorem heap_pos {W : World} (h : laidMetH Tryz.prog Rows.fnSchemaRow.laid W) : 0 < W.heap.size := by
  obtain ⟨ps, ⟨g, t, cs, fuel, p, q, _, _, hvar, _⟩, _⟩ := (show laidMet Tryz.prog Rows.fnSchemaRow.laid W from h)
  unfold World.var? at hvar
  simp only [Option.bind_eq_some_iff] at hvar
  obtain ⟨g', _, h2⟩ := hvar
  split at h2
  · rename_i hb
    have := (Array.getElem?_eq_some_iff.1 hb).1
    omega
  · cases h2

/-- What the law's arguments are. -/
def shs : List Sh := [.slice (.int .u8), .slice (.int .u8)]
theorem shapesOk : shapes Tryz.prog Tryz.f4.params.toList = some shs := by kernel_rfl

theorem progOk : ProgOk Tryz.prog (ctxOf Tryz.prog Try1.tabs) := Try1.progOk
theorem law (H : List Ob) (vs : List V) (xs : List D) (h : IsArgs H shs vs xs) : ∃ H', callW (ctxOf Tryz.prog Try1.tabs) 4 vs H = some (.bool true, H') := Try1.lawFnSchema h

set_option maxRecDepth 100000 in
theorem contract (H : Type) (enc : TypeId × Value → H) (W : World) (base : Nat) (args : Array Value) (ds gs : List (DataW H)) (before : List MemPlace)
    (hval : ∀ (j : Nat) t v, Tryz.f4.params[j]? = some t → args[j]? = some v → Value.okWide Tryz.prog W .any base t v)
    (hW : DataW.Whole enc Tryz.prog Tryz.f4.params.toList Rows.fnSchemaSpec.vars false W args.toList ds gs before) (hL : laidMetH Tryz.prog Rows.fnSchemaRow.laid W) :
    Calls Tryz.prog 4 args W fun e W' => ∃ v, e = .returned v ∧ Rows.fnSchemaSpec.post enc Tryz.prog Tryz.f4 false true false false W args v W' := by
  have hW' := hW
  obtain ⟨p, q, hA, hV, _⟩ := hW
  obtain ⟨rfl, rfl⟩ := trodVars_none hV
  have hd : ds.length = 2 := by
    have := trodAll_len hA
    rwa [Tryz.params4] at this
  have hfn : Rows.fnSchemaSpec.fn H (ds ++ []) = { results := [.lit (.bool true)], args := ds } := by
    match ds, hd with
    | [_, _], _ => rfl
  refine (calls_law progOk Tryz.func4 bodied named (heap_pos hL) shapesOk hA (fun j t v h1 h2 => ⟨_, _, hval j t v h1 h2⟩) (b := true) (fun T vs hvs => law T vs (ds.map toD) hvs)).mono fun e W' ⟨he, hb⟩ => ?_
  exact ⟨_, he, law_post laidOut mapsOk full pars results Tryz.underlying4 hW' rfl hfn hb⟩

/-- A cell block's contents. -/
def holdIn (cs : Array Value) : Obj → Obj
  | .cells _ t frozen => .cells cs t frozen
  | o => o
def firstCells : Array Value := (Pinned.utf8FirstZ.map fun (n : Nat) => Value.int .u8 (Int.ofNat n)).toArray
def rangeCells : Array Value := #[.int .u8 128, .int .u8 191, .int .u8 160, .int .u8 191, .int .u8 128, .int .u8 159, .int .u8 144, .int .u8 191, .int .u8 128, .int .u8 143] ++ Array.replicate 22 (.int .u8 0)
/-- A world for the witness: the settled one, the listed variables holding what they hold. -/
noncomputable def laidWorld (os : Os) : World :=
  { World.holding Tryz.prog os ⟨#[], #[], []⟩ with heap := ((World.holding Tryz.prog os ⟨#[], #[], []⟩).heap.modify 1 (holdIn firstCells)).modify 2 (holdIn rangeCells) }
theorem laid_met (os : Os) : laidMet Tryz.prog Rows.fnSchemaRow.laid ((laidWorld os).forCall (fun _ _ => 0) ⟨#[], #[.slice none 0 0, .slice none 0 0], []⟩).memory :=
  laidMet_of_run' 8 (by kernel_rfl) (by kernel_rfl)
theorem reads (os : Os) {H : Type} (enc : TypeId × Value → H) : ∃ places, DataW.whole enc Tryz.prog ((laidWorld os).forCall (fun _ _ => 0) ⟨#[], #[.slice none 0 0, .slice none 0 0], []⟩).memory Tryz.f4.params.toList Rows.fnSchemaSpec.vars false #[.slice none 0 0, .slice none 0 0].toList 8 = some ([.nil, .nil], [], places) :=
  ⟨[], by kernel_rfl⟩

set_option maxRecDepth 100000 in
theorem lifted (os : Os) (started : os.Started) (H : Type) (enc : TypeId × Value → H) (F : Stop.Interp) :
    ReturnsInHanded {} Tryz.checked os 4 .any ((OpenSpec.ofChange Rows.fnSchemaSpec).preRow enc Tryz.prog Tryz.f4 Rows.fnSchemaRow.domain false Rows.fnSchemaRow.laid) (((OpenSpec.ofChange Rows.fnSchemaSpec).at F).post enc Tryz.prog Tryz.f4 false true false false) := by
  obtain ⟨places, hx⟩ := reads os enc
  refine returnsInHanded_of_row (C := Tryz.checked) (s := OpenSpec.ofChange Rows.fnSchemaSpec) own started (by kernel_rfl) Tryz.func4
    (witness_row_at (enc := enc) (C := Tryz.checked) false (laidWorld os) #[.slice none 0 0, .slice none 0 0] rfl (by kernel_rfl) (by kernel_rfl) (by kernel_rfl)
      (OpenSpec.preRow_of_cond 8 hx (by kernel_rfl) (fun k hk => by cases hk) (by kernel_rfl) (laid_met os))) ?_
  intro W base args ds gs before hval hW _ _ _ hL _ _
  exact contract H enc W base args ds gs before hval hW hL

theorem andT {a b : Bool} (h : a = true) (k : b = true) : (a && b) = true := by rw [h, k]; rfl
set_option maxRecDepth 100000 in
theorem closed : joinedFacts Tryz.prog 4 Tryz.f4 (OpenSpec.ofChange Rows.fnSchemaSpec).bare Rows.fnSchemaRow = true := (andT (andT (andT (andT (andT (andT (andT (andT (andT (andT (andT (andT (andT (andT (andT (andT (andT (andT (andT (andT (andT (andT (andT (andT (andT (andT (andT (andT (andT (andT (andT fact0 fact1) fact2) fact3) fact4) fact5) fact6) fact7) fact8) fact9) fact10) fact11) fact12) fact13) fact14) fact15) fact16) fact17) fact18) fact19) fact20) fact21) fact22) fact23) fact24) fact25) fact26) fact27) fact28) fact29) fact30) fact31)
theorem said : Rows.FnSchemaSaid :=
  OpenClaim.holds_of_cond 4 Tryz.f4 rfl rfl rfl rfl rfl rfl rfl ⟨rfl, rfl, rfl, rfl, rfl⟩ rfl rfl rfl rfl rfl found Tryz.func4 closed
    instanceT (by unfold Func.isWrapper; first | (rw [if_pos (by decide +kernel)]; kernel_rfl) | (rw [if_neg (by decide +kernel)]; exact ⟨rfl, rfl⟩))
    (fun os started H enc _ F => by rw [OpenClaim.pre_eq_preRow]; exact lifted os started H enc F)

theorem wants : Tryz.f4.params.toList.all (fun t => !Tryz.prog.wantsStandIn t) = true := by kernel_rfl
theorem plain (f : FuncId) (fn : Func) (hf : Tryz.pinned.checked.prog.funcNamed "loop.example/g00402/laws.FnSchema" = some f) (hfn : Tryz.pinned.checked.prog.funcs[f]? = some fn) :
    false = Tryz.pinned.checked.prog.looks [] ∧ ∀ (j : Nat) t, fn.params[j]? = some t → Tryz.pinned.checked.prog.wantsStandIn t = false := by
  obtain rfl : f = 4 := Option.some.inj (found.symm.trans hf) |>.symm
  obtain rfl : fn = Tryz.f4 := (Option.some.inj (Tryz.func4.symm.trans hfn)).symm
  refine ⟨looksT, fun j t ht => ?_⟩
  have := List.all_eq_true.1 wants t (by simpa using Array.mem_of_getElem? ht)
  have h2 : Tryz.prog.wantsStandIn t = false := by simpa using this
  exact h2

/-- The card. -/
theorem card : Rows.FnSchemaCardSaid :=
  Claim7.holds_tied_plain_at .later [] _ _ _ _ said (fun _ h => by cases h) textT (fun _ h => by cases h) fnSchema_row_tie rfl ⟨rfl, rfl⟩ mainT rfl plain goesT
end Go.Proofs.YtdkbgdjfmbppfaaGreatDoor.fnSchema
