/-
  NARROWER THAN 'FOR EVERY INPUT', by the rows' own cells (each row's printed sentence says how): FnExactAttrSet: laid · FnExactValueAdd: laid · FnExactTreeRight: laid · FnSchema: laid · FnExactTreeGet: laid · FnExactInFlow: laid · FnExactWantOf: laid · FnExactTreeDelete: laid · FnExactTreeAdd: laid · FnExactServerRight: laid · FnTree: laid · FnExactTreeSearch: laid.
  DERIVED. THE GIVEN ROWS OF THIS SEAT. 12 by the template 'for every input the law returns true; each argument reads behind the call as it read before'; 0 by the template 'total and deterministic' (their statements: YtglbhjmpemiijaaGreatDoorTotals.lean).
  GIVEN WITH THE SEED: the statements are not yours to turn. If you find one false, say at which input.
  Laid BY PROGRAM, IN A SANDBOX (cutbox-rows.mjs): the forced cells as the released guide's own fill.sh prints them over the translation bb0f6b7319728c95… (all of the seat's roots in one cut). By AI agents, Wed Nov 11 2026. No macro, syntax, notation, axiom, sorry.
-/
import Derived.Test.YtglbhjmpemiijaaGreatDoorChecked
import GoSem.PinnedTables
import GoSem.Claim
import GoSem.ClaimJoined
import GoSem.ClaimMapViews
import Derived.JoinedTies
import Derived.KernelRfl
namespace Go.Proofs.YtglbhjmpemiijaaGreatDoor
/- THE CELL 'sum', in the pinned program and in every row, IS THE sha256 OF THE DUMP (.gsa) THAT YtglbhjmpemiijaaGreatDoorProg.lean LOADS. Nothing in Lean hashes anything: it is a label: what it is worth is what the hold of that sum in a sandbox is worth. -/
noncomputable def Tryz.pinned : Pinned := { name := "ytglbhjmpemiijaagreatdoor", sum := "bb0f6b7319728c9575f5ec55cf74775d309374bd3217ff639ccfa4260b6d46c0", checked := Tryz.checked }
namespace Rows
def none {H : Type} : Left H := { results := [], args := [] }

/- WHAT THE LISTED PACKAGE-LEVEL VARIABLES READ AS WHEN THE CALL BEGINS. Each datum BY PROGRAM (the guide's laid-datum.mjs) off the statement by which the dump's own 'gosem.cut.vars' lays the variable. In a bare row this is a premise. The card (YtglbhjmpemiijaaGreatDoorCards.lean) ties it to the program's text. -/
def laid_unicode_utf8_acceptRanges {H : Type} : DataW H := .agg [.agg [.lit (.int .u8 128), .lit (.int .u8 191)], .agg [.lit (.int .u8 160), .lit (.int .u8 191)], .agg [.lit (.int .u8 128), .lit (.int .u8 159)], .agg [.lit (.int .u8 144), .lit (.int .u8 191)], .agg [.lit (.int .u8 128), .lit (.int .u8 143)], .agg [.lit (.int .u8 0), .lit (.int .u8 0)], .agg [.lit (.int .u8 0), .lit (.int .u8 0)], .agg [.lit (.int .u8 0), .lit (.int .u8 0)], .agg [.lit (.int .u8 0), .lit (.int .u8 0)], .agg [.lit (.int .u8 0), .lit (.int .u8 0)], .agg [.lit (.int .u8 0), .lit (.int .u8 0)], .agg [.lit (.int .u8 0), .lit (.int .u8 0)], .agg [.lit (.int .u8 0), .lit (.int .u8 0)], .agg [.lit (.int .u8 0), .lit (.int .u8 0)], .agg [.lit (.int .u8 0), .lit (.int .u8 0)], .agg [.lit (.int .u8 0), .lit (.int .u8 0)]]
/-- One of Go's own tables, pinned by name: the form's constant. -/
def laid_unicode_utf8_first : DataW Unit := Go.Pinned.utf8First

/-- 'laws.FnExactAttrSet': WHATEVER THE INPUT: true; the input reads as it did. -/
def fnExactAttrSetSpec : ChangeSpec := { name := "fnExactAttrSet", fn := fun _ => fun
  | [d1, d2, d3] => { results := [.lit (.bool true)], args := [d1, d2, d3] }
  | _ => none }
def fnExactAttrSetRow : OpenClaim := { program := "ytglbhjmpemiijaagreatdoor", sum := "bb0f6b7319728c9575f5ec55cf74775d309374bd3217ff639ccfa4260b6d46c0", func := "loop.example/g00402/laws.FnExactAttrSet", spec := "fnExactAttrSet", inPlace := ["internal/bytealg.abigen_runtime_cmpstring", "internal/bytealg.IndexByteString", "internal/bytealg.IndexString", "slices.overlaps[loop.example/g00402/impl.Attr]"], unfollowed := true, recurses := true, named := ["unicode/utf8.first", "unicode/utf8.acceptRanges", "internal/bytealg.MaxLen"], apart := false, laid := [("unicode/utf8.acceptRanges", laid_unicode_utf8_acceptRanges), ("unicode/utf8.first", laid_unicode_utf8_first)] }
def FnExactAttrSetSaid : Prop := fnExactAttrSetRow.holds Tryz.pinned (OpenSpec.ofChange fnExactAttrSetSpec)

/-- ITS FALSE NEIGHBOUR: 'it returns false'. Refute it at one input. -/
def fnExactAttrSetWrong : ChangeSpec := { name := "fnExactAttrSet", fn := fun _ => fun
  | [d1, d2, d3] => { results := [.lit (.bool false)], args := [d1, d2, d3] }
  | _ => none }
def FnExactAttrSetWrongFalsely : Prop := fnExactAttrSetRow.holds Tryz.pinned (OpenSpec.ofChange fnExactAttrSetWrong)

/-- 'laws.FnExactValueAdd': WHATEVER THE INPUT: true; the input reads as it did. -/
def fnExactValueAddSpec : ChangeSpec := { name := "fnExactValueAdd", fn := fun _ => fun
  | [d1, d2, d3] => { results := [.lit (.bool true)], args := [d1, d2, d3] }
  | _ => none }
def fnExactValueAddRow : OpenClaim := { program := "ytglbhjmpemiijaagreatdoor", sum := "bb0f6b7319728c9575f5ec55cf74775d309374bd3217ff639ccfa4260b6d46c0", func := "loop.example/g00402/laws.FnExactValueAdd", spec := "fnExactValueAdd", inPlace := ["internal/bytealg.IndexByteString", "internal/bytealg.IndexString", "internal/bytealg.abigen_runtime_cmpstring", "slices.overlaps[loop.example/g00402/impl.Attr]"], unfollowed := true, recurses := true, named := ["unicode/utf8.first", "unicode/utf8.acceptRanges", "internal/bytealg.MaxLen"], apart := false, laid := [("unicode/utf8.acceptRanges", laid_unicode_utf8_acceptRanges), ("unicode/utf8.first", laid_unicode_utf8_first)] }
def FnExactValueAddSaid : Prop := fnExactValueAddRow.holds Tryz.pinned (OpenSpec.ofChange fnExactValueAddSpec)

/-- ITS FALSE NEIGHBOUR: 'it returns false'. Refute it at one input. -/
def fnExactValueAddWrong : ChangeSpec := { name := "fnExactValueAdd", fn := fun _ => fun
  | [d1, d2, d3] => { results := [.lit (.bool false)], args := [d1, d2, d3] }
  | _ => none }
def FnExactValueAddWrongFalsely : Prop := fnExactValueAddRow.holds Tryz.pinned (OpenSpec.ofChange fnExactValueAddWrong)

/-- 'laws.FnExactTreeRight': WHATEVER THE INPUT: true; the input reads as it did. -/
def fnExactTreeRightSpec : ChangeSpec := { name := "fnExactTreeRight", fn := fun _ => fun
  | [d] => { results := [.lit (.bool true)], args := [d] }
  | _ => none }
def fnExactTreeRightRow : OpenClaim := { program := "ytglbhjmpemiijaagreatdoor", sum := "bb0f6b7319728c9575f5ec55cf74775d309374bd3217ff639ccfa4260b6d46c0", func := "loop.example/g00402/laws.FnExactTreeRight", spec := "fnExactTreeRight", inPlace := ["internal/bytealg.IndexByteString", "internal/bytealg.IndexString", "internal/bytealg.abigen_runtime_cmpstring"], unfollowed := true, recurses := true, named := ["unicode/utf8.first", "unicode/utf8.acceptRanges", "internal/bytealg.MaxLen"], apart := false, laid := [("unicode/utf8.acceptRanges", laid_unicode_utf8_acceptRanges), ("unicode/utf8.first", laid_unicode_utf8_first)] }
def FnExactTreeRightSaid : Prop := fnExactTreeRightRow.holds Tryz.pinned (OpenSpec.ofChange fnExactTreeRightSpec)

/-- ITS FALSE NEIGHBOUR: 'it returns false'. Refute it at one input. -/
def fnExactTreeRightWrong : ChangeSpec := { name := "fnExactTreeRight", fn := fun _ => fun
  | [d] => { results := [.lit (.bool false)], args := [d] }
  | _ => none }
def FnExactTreeRightWrongFalsely : Prop := fnExactTreeRightRow.holds Tryz.pinned (OpenSpec.ofChange fnExactTreeRightWrong)

/-- 'laws.FnSchema': WHATEVER THE INPUT: true; the input reads as it did. -/
def fnSchemaSpec : ChangeSpec := { name := "fnSchema", fn := fun _ => fun
  | [d1, d2] => { results := [.lit (.bool true)], args := [d1, d2] }
  | _ => none }
def fnSchemaRow : OpenClaim := { program := "ytglbhjmpemiijaagreatdoor", sum := "bb0f6b7319728c9575f5ec55cf74775d309374bd3217ff639ccfa4260b6d46c0", func := "loop.example/g00402/laws.FnSchema", spec := "fnSchema", inPlace := ["internal/bytealg.IndexByteString", "internal/bytealg.IndexString", "internal/bytealg.abigen_runtime_cmpstring"], unfollowed := true, recurses := true, named := ["unicode/utf8.first", "unicode/utf8.acceptRanges", "internal/bytealg.MaxLen"], apart := false, laid := [("unicode/utf8.acceptRanges", laid_unicode_utf8_acceptRanges), ("unicode/utf8.first", laid_unicode_utf8_first)] }
def FnSchemaSaid : Prop := fnSchemaRow.holds Tryz.pinned (OpenSpec.ofChange fnSchemaSpec)

/-- ITS FALSE NEIGHBOUR: 'it returns false'. Refute it at one input. -/
def fnSchemaWrong : ChangeSpec := { name := "fnSchema", fn := fun _ => fun
  | [d1, d2] => { results := [.lit (.bool false)], args := [d1, d2] }
  | _ => none }
def FnSchemaWrongFalsely : Prop := fnSchemaRow.holds Tryz.pinned (OpenSpec.ofChange fnSchemaWrong)

/-- 'laws.FnExactTreeGet': WHATEVER THE INPUT: true; the input reads as it did. -/
def fnExactTreeGetSpec : ChangeSpec := { name := "fnExactTreeGet", fn := fun _ => fun
  | [d1, d2] => { results := [.lit (.bool true)], args := [d1, d2] }
  | _ => none }
def fnExactTreeGetRow : OpenClaim := { program := "ytglbhjmpemiijaagreatdoor", sum := "bb0f6b7319728c9575f5ec55cf74775d309374bd3217ff639ccfa4260b6d46c0", func := "loop.example/g00402/laws.FnExactTreeGet", spec := "fnExactTreeGet", inPlace := ["internal/bytealg.IndexByteString", "internal/bytealg.IndexString", "internal/bytealg.abigen_runtime_cmpstring"], unfollowed := true, recurses := true, named := ["unicode/utf8.first", "unicode/utf8.acceptRanges", "internal/bytealg.MaxLen"], apart := false, laid := [("unicode/utf8.acceptRanges", laid_unicode_utf8_acceptRanges), ("unicode/utf8.first", laid_unicode_utf8_first)] }
def FnExactTreeGetSaid : Prop := fnExactTreeGetRow.holds Tryz.pinned (OpenSpec.ofChange fnExactTreeGetSpec)

/-- ITS FALSE NEIGHBOUR: 'it returns false'. Refute it at one input. -/
def fnExactTreeGetWrong : ChangeSpec := { name := "fnExactTreeGet", fn := fun _ => fun
  | [d1, d2] => { results := [.lit (.bool false)], args := [d1, d2] }
  | _ => none }
def FnExactTreeGetWrongFalsely : Prop := fnExactTreeGetRow.holds Tryz.pinned (OpenSpec.ofChange fnExactTreeGetWrong)

/-- 'laws.FnExactInFlow': WHATEVER THE INPUT: true; the input reads as it did. -/
def fnExactInFlowSpec : ChangeSpec := { name := "fnExactInFlow", fn := fun _ => fun
  | [d1, d2, d3] => { results := [.lit (.bool true)], args := [d1, d2, d3] }
  | _ => none }
def fnExactInFlowRow : OpenClaim := { program := "ytglbhjmpemiijaagreatdoor", sum := "bb0f6b7319728c9575f5ec55cf74775d309374bd3217ff639ccfa4260b6d46c0", func := "loop.example/g00402/laws.FnExactInFlow", spec := "fnExactInFlow", inPlace := ["internal/bytealg.IndexByteString", "internal/bytealg.IndexString", "internal/bytealg.abigen_runtime_cmpstring"], unfollowed := true, recurses := true, named := ["unicode/utf8.first", "unicode/utf8.acceptRanges", "internal/bytealg.MaxLen"], apart := false, laid := [("unicode/utf8.acceptRanges", laid_unicode_utf8_acceptRanges), ("unicode/utf8.first", laid_unicode_utf8_first)] }
def FnExactInFlowSaid : Prop := fnExactInFlowRow.holds Tryz.pinned (OpenSpec.ofChange fnExactInFlowSpec)

/-- ITS FALSE NEIGHBOUR: 'it returns false'. Refute it at one input. -/
def fnExactInFlowWrong : ChangeSpec := { name := "fnExactInFlow", fn := fun _ => fun
  | [d1, d2, d3] => { results := [.lit (.bool false)], args := [d1, d2, d3] }
  | _ => none }
def FnExactInFlowWrongFalsely : Prop := fnExactInFlowRow.holds Tryz.pinned (OpenSpec.ofChange fnExactInFlowWrong)

/-- 'laws.FnExactWantOf': WHATEVER THE INPUT: true; the input reads as it did. -/
def fnExactWantOfSpec : ChangeSpec := { name := "fnExactWantOf", fn := fun _ => fun
  | [d1, d2] => { results := [.lit (.bool true)], args := [d1, d2] }
  | _ => none }
def fnExactWantOfRow : OpenClaim := { program := "ytglbhjmpemiijaagreatdoor", sum := "bb0f6b7319728c9575f5ec55cf74775d309374bd3217ff639ccfa4260b6d46c0", func := "loop.example/g00402/laws.FnExactWantOf", spec := "fnExactWantOf", inPlace := ["internal/bytealg.IndexByteString", "internal/bytealg.IndexString", "internal/bytealg.abigen_runtime_cmpstring"], unfollowed := true, recurses := true, named := ["unicode/utf8.first", "unicode/utf8.acceptRanges", "internal/bytealg.MaxLen"], apart := false, laid := [("unicode/utf8.acceptRanges", laid_unicode_utf8_acceptRanges), ("unicode/utf8.first", laid_unicode_utf8_first)] }
def FnExactWantOfSaid : Prop := fnExactWantOfRow.holds Tryz.pinned (OpenSpec.ofChange fnExactWantOfSpec)

/-- ITS FALSE NEIGHBOUR: 'it returns false'. Refute it at one input. -/
def fnExactWantOfWrong : ChangeSpec := { name := "fnExactWantOf", fn := fun _ => fun
  | [d1, d2] => { results := [.lit (.bool false)], args := [d1, d2] }
  | _ => none }
def FnExactWantOfWrongFalsely : Prop := fnExactWantOfRow.holds Tryz.pinned (OpenSpec.ofChange fnExactWantOfWrong)

/-- 'laws.FnExactTreeDelete': WHATEVER THE INPUT: true; the input reads as it did. -/
def fnExactTreeDeleteSpec : ChangeSpec := { name := "fnExactTreeDelete", fn := fun _ => fun
  | [d1, d2] => { results := [.lit (.bool true)], args := [d1, d2] }
  | _ => none }
def fnExactTreeDeleteRow : OpenClaim := { program := "ytglbhjmpemiijaagreatdoor", sum := "bb0f6b7319728c9575f5ec55cf74775d309374bd3217ff639ccfa4260b6d46c0", func := "loop.example/g00402/laws.FnExactTreeDelete", spec := "fnExactTreeDelete", inPlace := ["internal/bytealg.IndexByteString", "internal/bytealg.IndexString", "internal/bytealg.abigen_runtime_cmpstring"], unfollowed := true, recurses := true, named := ["unicode/utf8.first", "unicode/utf8.acceptRanges", "internal/bytealg.MaxLen"], apart := false, laid := [("unicode/utf8.acceptRanges", laid_unicode_utf8_acceptRanges), ("unicode/utf8.first", laid_unicode_utf8_first)] }
def FnExactTreeDeleteSaid : Prop := fnExactTreeDeleteRow.holds Tryz.pinned (OpenSpec.ofChange fnExactTreeDeleteSpec)

/-- ITS FALSE NEIGHBOUR: 'it returns false'. Refute it at one input. -/
def fnExactTreeDeleteWrong : ChangeSpec := { name := "fnExactTreeDelete", fn := fun _ => fun
  | [d1, d2] => { results := [.lit (.bool false)], args := [d1, d2] }
  | _ => none }
def FnExactTreeDeleteWrongFalsely : Prop := fnExactTreeDeleteRow.holds Tryz.pinned (OpenSpec.ofChange fnExactTreeDeleteWrong)

/-- 'laws.FnExactTreeAdd': WHATEVER THE INPUT: true; the input reads as it did. -/
def fnExactTreeAddSpec : ChangeSpec := { name := "fnExactTreeAdd", fn := fun _ => fun
  | [d1, d2] => { results := [.lit (.bool true)], args := [d1, d2] }
  | _ => none }
def fnExactTreeAddRow : OpenClaim := { program := "ytglbhjmpemiijaagreatdoor", sum := "bb0f6b7319728c9575f5ec55cf74775d309374bd3217ff639ccfa4260b6d46c0", func := "loop.example/g00402/laws.FnExactTreeAdd", spec := "fnExactTreeAdd", inPlace := ["internal/bytealg.IndexByteString", "internal/bytealg.IndexString", "internal/bytealg.abigen_runtime_cmpstring", "slices.overlaps[loop.example/g00402/impl.Entry]"], unfollowed := true, recurses := true, named := ["unicode/utf8.first", "unicode/utf8.acceptRanges", "internal/bytealg.MaxLen"], apart := false, laid := [("unicode/utf8.acceptRanges", laid_unicode_utf8_acceptRanges), ("unicode/utf8.first", laid_unicode_utf8_first)] }
def FnExactTreeAddSaid : Prop := fnExactTreeAddRow.holds Tryz.pinned (OpenSpec.ofChange fnExactTreeAddSpec)

/-- ITS FALSE NEIGHBOUR: 'it returns false'. Refute it at one input. -/
def fnExactTreeAddWrong : ChangeSpec := { name := "fnExactTreeAdd", fn := fun _ => fun
  | [d1, d2] => { results := [.lit (.bool false)], args := [d1, d2] }
  | _ => none }
def FnExactTreeAddWrongFalsely : Prop := fnExactTreeAddRow.holds Tryz.pinned (OpenSpec.ofChange fnExactTreeAddWrong)

/-- 'laws.FnExactServerRight': WHATEVER THE INPUT: true; the input reads as it did. -/
def fnExactServerRightSpec : ChangeSpec := { name := "fnExactServerRight", fn := fun _ => fun
  | [d] => { results := [.lit (.bool true)], args := [d] }
  | _ => none }
def fnExactServerRightRow : OpenClaim := { program := "ytglbhjmpemiijaagreatdoor", sum := "bb0f6b7319728c9575f5ec55cf74775d309374bd3217ff639ccfa4260b6d46c0", func := "loop.example/g00402/laws.FnExactServerRight", spec := "fnExactServerRight", inPlace := ["internal/bytealg.IndexByteString", "internal/bytealg.IndexString", "internal/bytealg.abigen_runtime_cmpstring"], unfollowed := true, recurses := true, named := ["unicode/utf8.first", "unicode/utf8.acceptRanges", "internal/bytealg.MaxLen"], apart := false, laid := [("unicode/utf8.acceptRanges", laid_unicode_utf8_acceptRanges), ("unicode/utf8.first", laid_unicode_utf8_first)] }
def FnExactServerRightSaid : Prop := fnExactServerRightRow.holds Tryz.pinned (OpenSpec.ofChange fnExactServerRightSpec)

/-- ITS FALSE NEIGHBOUR: 'it returns false'. Refute it at one input. -/
def fnExactServerRightWrong : ChangeSpec := { name := "fnExactServerRight", fn := fun _ => fun
  | [d] => { results := [.lit (.bool false)], args := [d] }
  | _ => none }
def FnExactServerRightWrongFalsely : Prop := fnExactServerRightRow.holds Tryz.pinned (OpenSpec.ofChange fnExactServerRightWrong)

/-- 'laws.FnTree': WHATEVER THE INPUT: true; the input reads as it did. -/
def fnTreeSpec : ChangeSpec := { name := "fnTree", fn := fun _ => fun
  | [d1, d2] => { results := [.lit (.bool true)], args := [d1, d2] }
  | _ => none }
def fnTreeRow : OpenClaim := { program := "ytglbhjmpemiijaagreatdoor", sum := "bb0f6b7319728c9575f5ec55cf74775d309374bd3217ff639ccfa4260b6d46c0", func := "loop.example/g00402/laws.FnTree", spec := "fnTree", inPlace := ["internal/bytealg.IndexByteString", "internal/bytealg.IndexString", "internal/bytealg.abigen_runtime_cmpstring", "slices.overlaps[loop.example/g00402/impl.Entry]"], unfollowed := true, recurses := true, named := ["unicode/utf8.first", "unicode/utf8.acceptRanges", "internal/bytealg.MaxLen"], apart := false, laid := [("unicode/utf8.acceptRanges", laid_unicode_utf8_acceptRanges), ("unicode/utf8.first", laid_unicode_utf8_first)] }
def FnTreeSaid : Prop := fnTreeRow.holds Tryz.pinned (OpenSpec.ofChange fnTreeSpec)

/-- ITS FALSE NEIGHBOUR: 'it returns false'. Refute it at one input. -/
def fnTreeWrong : ChangeSpec := { name := "fnTree", fn := fun _ => fun
  | [d1, d2] => { results := [.lit (.bool false)], args := [d1, d2] }
  | _ => none }
def FnTreeWrongFalsely : Prop := fnTreeRow.holds Tryz.pinned (OpenSpec.ofChange fnTreeWrong)

/-- 'laws.FnExactTreeSearch': WHATEVER THE INPUT: true; the input reads as it did. -/
def fnExactTreeSearchSpec : ChangeSpec := { name := "fnExactTreeSearch", fn := fun _ => fun
  | [d1, d2, d3, d4] => { results := [.lit (.bool true)], args := [d1, d2, d3, d4] }
  | _ => none }
def fnExactTreeSearchRow : OpenClaim := { program := "ytglbhjmpemiijaagreatdoor", sum := "bb0f6b7319728c9575f5ec55cf74775d309374bd3217ff639ccfa4260b6d46c0", func := "loop.example/g00402/laws.FnExactTreeSearch", spec := "fnExactTreeSearch", inPlace := ["internal/bytealg.IndexByteString", "internal/bytealg.IndexString", "internal/bytealg.abigen_runtime_cmpstring"], unfollowed := true, recurses := true, named := ["unicode/utf8.first", "unicode/utf8.acceptRanges", "internal/bytealg.MaxLen"], apart := false, laid := [("unicode/utf8.acceptRanges", laid_unicode_utf8_acceptRanges), ("unicode/utf8.first", laid_unicode_utf8_first)] }
def FnExactTreeSearchSaid : Prop := fnExactTreeSearchRow.holds Tryz.pinned (OpenSpec.ofChange fnExactTreeSearchSpec)

/-- ITS FALSE NEIGHBOUR: 'it returns false'. Refute it at one input. -/
def fnExactTreeSearchWrong : ChangeSpec := { name := "fnExactTreeSearch", fn := fun _ => fun
  | [d1, d2, d3, d4] => { results := [.lit (.bool false)], args := [d1, d2, d3, d4] }
  | _ => none }
def FnExactTreeSearchWrongFalsely : Prop := fnExactTreeSearchRow.holds Tryz.pinned (OpenSpec.ofChange fnExactTreeSearchWrong)

/- THE SECOND FORM. 'bulk': how many values and letters a reading holds, each counted each time it is reached (what is shared counts as often as it is met; a slice's spare places count too). A statement '..UptoSaid' is the law's where the arguments, and the package variables that the reading takes, are together of bulk at most 1048576: NARROWER than '..Said'. Prove '..Said' where nothing that the law and all that it calls make is longer than what came in: it says more and counts as full. Else prove '..UptoSaid'. A law counts once. -/
mutual
def uptoBulk {H : Type} : DataW H → Nat
  | .lit (.string bytes) => bytes.length + 1
  | .lit _ => 1
  | .nil => 1
  | .ptr d => uptoBulk d + 1
  | .slice elems spare => uptoBulkAll elems + uptoBulkAll spare + 1
  | .agg parts => uptoBulkAll parts + 1
  | .iface _ d => uptoBulk d + 1
  | .map entries => uptoBulkEntries entries + 1
  | .held _ => 1
def uptoBulkAll {H : Type} : List (DataW H) → Nat
  | [] => 0
  | d :: r => uptoBulk d + uptoBulkAll r
def uptoBulkEntries {H : Type} : List (Lit × DataW H) → Nat
  | [] => 0
  | x :: r => uptoBulkEntry x + uptoBulkEntries r
def uptoBulkEntry {H : Type} : Lit × DataW H → Nat
  | (.string bytes, d) => bytes.length + uptoBulk d + 1
  | (_, d) => uptoBulk d + 1
 end
def uptoSmall : (H : Type) → List (DataW H) → Bool := fun _ ds => decide (uptoBulkAll ds ≤ 1048576)
def OpenSpec.upto (s : _root_.Go.ChangeSpec) : _root_.Go.OpenSpec := { _root_.Go.OpenSpec.ofChange s with cond := some uptoSmall }

/-- 'laws.FnExactAttrSet', WHERE WHAT IT READS IS OF BULK AT MOST 1048576: true; the input reads as it did. -/
def fnExactAttrSetUptoRow : OpenClaim := { program := "ytglbhjmpemiijaagreatdoor", sum := "bb0f6b7319728c9575f5ec55cf74775d309374bd3217ff639ccfa4260b6d46c0", func := "loop.example/g00402/laws.FnExactAttrSet", spec := "fnExactAttrSet", inPlace := ["internal/bytealg.abigen_runtime_cmpstring", "internal/bytealg.IndexByteString", "internal/bytealg.IndexString", "slices.overlaps[loop.example/g00402/impl.Attr]"], unfollowed := true, recurses := true, named := ["unicode/utf8.first", "unicode/utf8.acceptRanges", "internal/bytealg.MaxLen"], apart := false, laid := [("unicode/utf8.acceptRanges", laid_unicode_utf8_acceptRanges), ("unicode/utf8.first", laid_unicode_utf8_first)], narrowed := true }
def FnExactAttrSetUptoSaid : Prop := fnExactAttrSetUptoRow.holds Tryz.pinned (OpenSpec.upto fnExactAttrSetSpec)

/-- 'laws.FnExactValueAdd', WHERE WHAT IT READS IS OF BULK AT MOST 1048576: true; the input reads as it did. -/
def fnExactValueAddUptoRow : OpenClaim := { program := "ytglbhjmpemiijaagreatdoor", sum := "bb0f6b7319728c9575f5ec55cf74775d309374bd3217ff639ccfa4260b6d46c0", func := "loop.example/g00402/laws.FnExactValueAdd", spec := "fnExactValueAdd", inPlace := ["internal/bytealg.IndexByteString", "internal/bytealg.IndexString", "internal/bytealg.abigen_runtime_cmpstring", "slices.overlaps[loop.example/g00402/impl.Attr]"], unfollowed := true, recurses := true, named := ["unicode/utf8.first", "unicode/utf8.acceptRanges", "internal/bytealg.MaxLen"], apart := false, laid := [("unicode/utf8.acceptRanges", laid_unicode_utf8_acceptRanges), ("unicode/utf8.first", laid_unicode_utf8_first)], narrowed := true }
def FnExactValueAddUptoSaid : Prop := fnExactValueAddUptoRow.holds Tryz.pinned (OpenSpec.upto fnExactValueAddSpec)

/-- 'laws.FnExactTreeRight', WHERE WHAT IT READS IS OF BULK AT MOST 1048576: true; the input reads as it did. -/
def fnExactTreeRightUptoRow : OpenClaim := { program := "ytglbhjmpemiijaagreatdoor", sum := "bb0f6b7319728c9575f5ec55cf74775d309374bd3217ff639ccfa4260b6d46c0", func := "loop.example/g00402/laws.FnExactTreeRight", spec := "fnExactTreeRight", inPlace := ["internal/bytealg.IndexByteString", "internal/bytealg.IndexString", "internal/bytealg.abigen_runtime_cmpstring"], unfollowed := true, recurses := true, named := ["unicode/utf8.first", "unicode/utf8.acceptRanges", "internal/bytealg.MaxLen"], apart := false, laid := [("unicode/utf8.acceptRanges", laid_unicode_utf8_acceptRanges), ("unicode/utf8.first", laid_unicode_utf8_first)], narrowed := true }
def FnExactTreeRightUptoSaid : Prop := fnExactTreeRightUptoRow.holds Tryz.pinned (OpenSpec.upto fnExactTreeRightSpec)

/-- 'laws.FnSchema', WHERE WHAT IT READS IS OF BULK AT MOST 1048576: true; the input reads as it did. -/
def fnSchemaUptoRow : OpenClaim := { program := "ytglbhjmpemiijaagreatdoor", sum := "bb0f6b7319728c9575f5ec55cf74775d309374bd3217ff639ccfa4260b6d46c0", func := "loop.example/g00402/laws.FnSchema", spec := "fnSchema", inPlace := ["internal/bytealg.IndexByteString", "internal/bytealg.IndexString", "internal/bytealg.abigen_runtime_cmpstring"], unfollowed := true, recurses := true, named := ["unicode/utf8.first", "unicode/utf8.acceptRanges", "internal/bytealg.MaxLen"], apart := false, laid := [("unicode/utf8.acceptRanges", laid_unicode_utf8_acceptRanges), ("unicode/utf8.first", laid_unicode_utf8_first)], narrowed := true }
def FnSchemaUptoSaid : Prop := fnSchemaUptoRow.holds Tryz.pinned (OpenSpec.upto fnSchemaSpec)

/-- 'laws.FnExactTreeGet', WHERE WHAT IT READS IS OF BULK AT MOST 1048576: true; the input reads as it did. -/
def fnExactTreeGetUptoRow : OpenClaim := { program := "ytglbhjmpemiijaagreatdoor", sum := "bb0f6b7319728c9575f5ec55cf74775d309374bd3217ff639ccfa4260b6d46c0", func := "loop.example/g00402/laws.FnExactTreeGet", spec := "fnExactTreeGet", inPlace := ["internal/bytealg.IndexByteString", "internal/bytealg.IndexString", "internal/bytealg.abigen_runtime_cmpstring"], unfollowed := true, recurses := true, named := ["unicode/utf8.first", "unicode/utf8.acceptRanges", "internal/bytealg.MaxLen"], apart := false, laid := [("unicode/utf8.acceptRanges", laid_unicode_utf8_acceptRanges), ("unicode/utf8.first", laid_unicode_utf8_first)], narrowed := true }
def FnExactTreeGetUptoSaid : Prop := fnExactTreeGetUptoRow.holds Tryz.pinned (OpenSpec.upto fnExactTreeGetSpec)

/-- 'laws.FnExactInFlow', WHERE WHAT IT READS IS OF BULK AT MOST 1048576: true; the input reads as it did. -/
def fnExactInFlowUptoRow : OpenClaim := { program := "ytglbhjmpemiijaagreatdoor", sum := "bb0f6b7319728c9575f5ec55cf74775d309374bd3217ff639ccfa4260b6d46c0", func := "loop.example/g00402/laws.FnExactInFlow", spec := "fnExactInFlow", inPlace := ["internal/bytealg.IndexByteString", "internal/bytealg.IndexString", "internal/bytealg.abigen_runtime_cmpstring"], unfollowed := true, recurses := true, named := ["unicode/utf8.first", "unicode/utf8.acceptRanges", "internal/bytealg.MaxLen"], apart := false, laid := [("unicode/utf8.acceptRanges", laid_unicode_utf8_acceptRanges), ("unicode/utf8.first", laid_unicode_utf8_first)], narrowed := true }
def FnExactInFlowUptoSaid : Prop := fnExactInFlowUptoRow.holds Tryz.pinned (OpenSpec.upto fnExactInFlowSpec)

/-- 'laws.FnExactWantOf', WHERE WHAT IT READS IS OF BULK AT MOST 1048576: true; the input reads as it did. -/
def fnExactWantOfUptoRow : OpenClaim := { program := "ytglbhjmpemiijaagreatdoor", sum := "bb0f6b7319728c9575f5ec55cf74775d309374bd3217ff639ccfa4260b6d46c0", func := "loop.example/g00402/laws.FnExactWantOf", spec := "fnExactWantOf", inPlace := ["internal/bytealg.IndexByteString", "internal/bytealg.IndexString", "internal/bytealg.abigen_runtime_cmpstring"], unfollowed := true, recurses := true, named := ["unicode/utf8.first", "unicode/utf8.acceptRanges", "internal/bytealg.MaxLen"], apart := false, laid := [("unicode/utf8.acceptRanges", laid_unicode_utf8_acceptRanges), ("unicode/utf8.first", laid_unicode_utf8_first)], narrowed := true }
def FnExactWantOfUptoSaid : Prop := fnExactWantOfUptoRow.holds Tryz.pinned (OpenSpec.upto fnExactWantOfSpec)

/-- 'laws.FnExactTreeDelete', WHERE WHAT IT READS IS OF BULK AT MOST 1048576: true; the input reads as it did. -/
def fnExactTreeDeleteUptoRow : OpenClaim := { program := "ytglbhjmpemiijaagreatdoor", sum := "bb0f6b7319728c9575f5ec55cf74775d309374bd3217ff639ccfa4260b6d46c0", func := "loop.example/g00402/laws.FnExactTreeDelete", spec := "fnExactTreeDelete", inPlace := ["internal/bytealg.IndexByteString", "internal/bytealg.IndexString", "internal/bytealg.abigen_runtime_cmpstring"], unfollowed := true, recurses := true, named := ["unicode/utf8.first", "unicode/utf8.acceptRanges", "internal/bytealg.MaxLen"], apart := false, laid := [("unicode/utf8.acceptRanges", laid_unicode_utf8_acceptRanges), ("unicode/utf8.first", laid_unicode_utf8_first)], narrowed := true }
def FnExactTreeDeleteUptoSaid : Prop := fnExactTreeDeleteUptoRow.holds Tryz.pinned (OpenSpec.upto fnExactTreeDeleteSpec)

/-- 'laws.FnExactTreeAdd', WHERE WHAT IT READS IS OF BULK AT MOST 1048576: true; the input reads as it did. -/
def fnExactTreeAddUptoRow : OpenClaim := { program := "ytglbhjmpemiijaagreatdoor", sum := "bb0f6b7319728c9575f5ec55cf74775d309374bd3217ff639ccfa4260b6d46c0", func := "loop.example/g00402/laws.FnExactTreeAdd", spec := "fnExactTreeAdd", inPlace := ["internal/bytealg.IndexByteString", "internal/bytealg.IndexString", "internal/bytealg.abigen_runtime_cmpstring", "slices.overlaps[loop.example/g00402/impl.Entry]"], unfollowed := true, recurses := true, named := ["unicode/utf8.first", "unicode/utf8.acceptRanges", "internal/bytealg.MaxLen"], apart := false, laid := [("unicode/utf8.acceptRanges", laid_unicode_utf8_acceptRanges), ("unicode/utf8.first", laid_unicode_utf8_first)], narrowed := true }
def FnExactTreeAddUptoSaid : Prop := fnExactTreeAddUptoRow.holds Tryz.pinned (OpenSpec.upto fnExactTreeAddSpec)

/-- 'laws.FnExactServerRight', WHERE WHAT IT READS IS OF BULK AT MOST 1048576: true; the input reads as it did. -/
def fnExactServerRightUptoRow : OpenClaim := { program := "ytglbhjmpemiijaagreatdoor", sum := "bb0f6b7319728c9575f5ec55cf74775d309374bd3217ff639ccfa4260b6d46c0", func := "loop.example/g00402/laws.FnExactServerRight", spec := "fnExactServerRight", inPlace := ["internal/bytealg.IndexByteString", "internal/bytealg.IndexString", "internal/bytealg.abigen_runtime_cmpstring"], unfollowed := true, recurses := true, named := ["unicode/utf8.first", "unicode/utf8.acceptRanges", "internal/bytealg.MaxLen"], apart := false, laid := [("unicode/utf8.acceptRanges", laid_unicode_utf8_acceptRanges), ("unicode/utf8.first", laid_unicode_utf8_first)], narrowed := true }
def FnExactServerRightUptoSaid : Prop := fnExactServerRightUptoRow.holds Tryz.pinned (OpenSpec.upto fnExactServerRightSpec)

/-- 'laws.FnTree', WHERE WHAT IT READS IS OF BULK AT MOST 1048576: true; the input reads as it did. -/
def fnTreeUptoRow : OpenClaim := { program := "ytglbhjmpemiijaagreatdoor", sum := "bb0f6b7319728c9575f5ec55cf74775d309374bd3217ff639ccfa4260b6d46c0", func := "loop.example/g00402/laws.FnTree", spec := "fnTree", inPlace := ["internal/bytealg.IndexByteString", "internal/bytealg.IndexString", "internal/bytealg.abigen_runtime_cmpstring", "slices.overlaps[loop.example/g00402/impl.Entry]"], unfollowed := true, recurses := true, named := ["unicode/utf8.first", "unicode/utf8.acceptRanges", "internal/bytealg.MaxLen"], apart := false, laid := [("unicode/utf8.acceptRanges", laid_unicode_utf8_acceptRanges), ("unicode/utf8.first", laid_unicode_utf8_first)], narrowed := true }
def FnTreeUptoSaid : Prop := fnTreeUptoRow.holds Tryz.pinned (OpenSpec.upto fnTreeSpec)

/-- 'laws.FnExactTreeSearch', WHERE WHAT IT READS IS OF BULK AT MOST 1048576: true; the input reads as it did. -/
def fnExactTreeSearchUptoRow : OpenClaim := { program := "ytglbhjmpemiijaagreatdoor", sum := "bb0f6b7319728c9575f5ec55cf74775d309374bd3217ff639ccfa4260b6d46c0", func := "loop.example/g00402/laws.FnExactTreeSearch", spec := "fnExactTreeSearch", inPlace := ["internal/bytealg.IndexByteString", "internal/bytealg.IndexString", "internal/bytealg.abigen_runtime_cmpstring"], unfollowed := true, recurses := true, named := ["unicode/utf8.first", "unicode/utf8.acceptRanges", "internal/bytealg.MaxLen"], apart := false, laid := [("unicode/utf8.acceptRanges", laid_unicode_utf8_acceptRanges), ("unicode/utf8.first", laid_unicode_utf8_first)], narrowed := true }
def FnExactTreeSearchUptoSaid : Prop := fnExactTreeSearchUptoRow.holds Tryz.pinned (OpenSpec.upto fnExactTreeSearchSpec)

end Rows
end Go.Proofs.YtglbhjmpemiijaaGreatDoor
