/-
  NARROWER THAN 'FOR EVERY INPUT', by the rows' own cells (each row's printed sentence says how): FnExactInFlow: laid · FnExactWantOf: laid · FnExactServerRight: laid · FnExactTreeSearch: laid · FnExactTreeMove: laid · FnExactTreeModify: laid.
  DERIVED. THE GIVEN ROWS OF THIS SEAT. 6 by the template 'for every input the law returns true; each argument reads behind the call as it read before'; 0 by the template 'total and deterministic' (their statements: YtamgeahibepfnaaGreatDoorTotals.lean).
  GIVEN WITH THE SEED: the statements are not yours to turn. If you find one false, say at which input.
  Laid BY PROGRAM, IN A SANDBOX (cutbox-rows.mjs): the forced cells as the released guide's own fill.sh prints them over the translation 7fab5db17617425b… (all of the seat's roots in one cut). By AI agents, Wed Nov 11 2026. No macro, syntax, notation, axiom, sorry.
-/
import Derived.Test.YtamgeahibepfnaaGreatDoorChecked
import GoSem.PinnedTables
import GoSem.Claim
import GoSem.ClaimJoined
import GoSem.ClaimMapViews
import Derived.JoinedTies
import Derived.KernelRfl
namespace Go.Proofs.YtamgeahibepfnaaGreatDoor
/- THE CELL 'sum', in the pinned program and in every row, IS THE sha256 OF THE DUMP (.gsa) THAT YtamgeahibepfnaaGreatDoorProg.lean LOADS. Nothing in Lean hashes anything: it is a label: what it is worth is what the hold of that sum in a sandbox is worth. -/
noncomputable def Tryz.pinned : Pinned := { name := "ytamgeahibepfnaagreatdoor", sum := "7fab5db17617425bf29aec05a9a37af7c4bb3a89b490d0fcbfc5012ea0081c67", checked := Tryz.checked }
namespace Rows
def none {H : Type} : Left H := { results := [], args := [] }

/- WHAT THE LISTED PACKAGE-LEVEL VARIABLES READ AS WHEN THE CALL BEGINS. Each datum BY PROGRAM (the guide's laid-datum.mjs) off the statement by which the dump's own 'gosem.cut.vars' lays the variable. In a bare row this is a premise. The card (YtamgeahibepfnaaGreatDoorCards.lean) ties it to the program's text. -/
def laid_unicode_utf8_acceptRanges {H : Type} : DataW H := .agg [.agg [.lit (.int .u8 128), .lit (.int .u8 191)], .agg [.lit (.int .u8 160), .lit (.int .u8 191)], .agg [.lit (.int .u8 128), .lit (.int .u8 159)], .agg [.lit (.int .u8 144), .lit (.int .u8 191)], .agg [.lit (.int .u8 128), .lit (.int .u8 143)], .agg [.lit (.int .u8 0), .lit (.int .u8 0)], .agg [.lit (.int .u8 0), .lit (.int .u8 0)], .agg [.lit (.int .u8 0), .lit (.int .u8 0)], .agg [.lit (.int .u8 0), .lit (.int .u8 0)], .agg [.lit (.int .u8 0), .lit (.int .u8 0)], .agg [.lit (.int .u8 0), .lit (.int .u8 0)], .agg [.lit (.int .u8 0), .lit (.int .u8 0)], .agg [.lit (.int .u8 0), .lit (.int .u8 0)], .agg [.lit (.int .u8 0), .lit (.int .u8 0)], .agg [.lit (.int .u8 0), .lit (.int .u8 0)], .agg [.lit (.int .u8 0), .lit (.int .u8 0)]]
/-- One of Go's own tables, pinned by name: the form's constant. -/
def laid_unicode_utf8_first : DataW Unit := Go.Pinned.utf8First

/-- 'laws.FnExactInFlow': WHATEVER THE INPUT: true; the input reads as it did. -/
def fnExactInFlowSpec : ChangeSpec := { name := "fnExactInFlow", fn := fun _ => fun
  | [d1, d2, d3] => { results := [.lit (.bool true)], args := [d1, d2, d3] }
  | _ => none }
def fnExactInFlowRow : OpenClaim := { program := "ytamgeahibepfnaagreatdoor", sum := "7fab5db17617425bf29aec05a9a37af7c4bb3a89b490d0fcbfc5012ea0081c67", func := "loop.example/g00402/laws.FnExactInFlow", spec := "fnExactInFlow", inPlace := ["internal/bytealg.IndexByteString", "internal/bytealg.IndexString", "internal/bytealg.abigen_runtime_cmpstring"], unfollowed := true, recurses := true, named := ["unicode/utf8.first", "unicode/utf8.acceptRanges", "internal/bytealg.MaxLen"], apart := false, laid := [("unicode/utf8.acceptRanges", laid_unicode_utf8_acceptRanges), ("unicode/utf8.first", laid_unicode_utf8_first)] }
def FnExactInFlowSaid : Prop := fnExactInFlowRow.holds Tryz.pinned (OpenSpec.ofChange fnExactInFlowSpec)

/-- ITS FALSE NEIGHBOUR: 'it returns false'. Refute it at one input. -/
def fnExactInFlowWrong : ChangeSpec := { name := "fnExactInFlow", fn := fun _ => fun
  | [d1, d2, d3] => { results := [.lit (.bool false)], args := [d1, d2, d3] }
  | _ => none }
def FnExactInFlowWrongFalsely : Prop := fnExactInFlowRow.holds Tryz.pinned (OpenSpec.ofChange fnExactInFlowWrong)

/-- 'laws.FnExactWantOf': WHATEVER THE INPUT: true; the input reads as it did. -/
def fnExactWantOfSpec : ChangeSpec := { name := "fnExactWantOf", fn := fun _ => fun
  | [d1, d2] => { results := [.lit (.bool true)], args := [d1, d2] }
  | _ => none }
def fnExactWantOfRow : OpenClaim := { program := "ytamgeahibepfnaagreatdoor", sum := "7fab5db17617425bf29aec05a9a37af7c4bb3a89b490d0fcbfc5012ea0081c67", func := "loop.example/g00402/laws.FnExactWantOf", spec := "fnExactWantOf", inPlace := ["internal/bytealg.IndexByteString", "internal/bytealg.IndexString", "internal/bytealg.abigen_runtime_cmpstring"], unfollowed := true, recurses := true, named := ["unicode/utf8.first", "unicode/utf8.acceptRanges", "internal/bytealg.MaxLen"], apart := false, laid := [("unicode/utf8.acceptRanges", laid_unicode_utf8_acceptRanges), ("unicode/utf8.first", laid_unicode_utf8_first)] }
def FnExactWantOfSaid : Prop := fnExactWantOfRow.holds Tryz.pinned (OpenSpec.ofChange fnExactWantOfSpec)

/-- ITS FALSE NEIGHBOUR: 'it returns false'. Refute it at one input. -/
def fnExactWantOfWrong : ChangeSpec := { name := "fnExactWantOf", fn := fun _ => fun
  | [d1, d2] => { results := [.lit (.bool false)], args := [d1, d2] }
  | _ => none }
def FnExactWantOfWrongFalsely : Prop := fnExactWantOfRow.holds Tryz.pinned (OpenSpec.ofChange fnExactWantOfWrong)

/-- 'laws.FnExactServerRight': WHATEVER THE INPUT: true; the input reads as it did. -/
def fnExactServerRightSpec : ChangeSpec := { name := "fnExactServerRight", fn := fun _ => fun
  | [d] => { results := [.lit (.bool true)], args := [d] }
  | _ => none }
def fnExactServerRightRow : OpenClaim := { program := "ytamgeahibepfnaagreatdoor", sum := "7fab5db17617425bf29aec05a9a37af7c4bb3a89b490d0fcbfc5012ea0081c67", func := "loop.example/g00402/laws.FnExactServerRight", spec := "fnExactServerRight", inPlace := ["internal/bytealg.IndexByteString", "internal/bytealg.IndexString", "internal/bytealg.abigen_runtime_cmpstring"], unfollowed := true, recurses := true, named := ["unicode/utf8.first", "unicode/utf8.acceptRanges", "internal/bytealg.MaxLen"], apart := false, laid := [("unicode/utf8.acceptRanges", laid_unicode_utf8_acceptRanges), ("unicode/utf8.first", laid_unicode_utf8_first)] }
def FnExactServerRightSaid : Prop := fnExactServerRightRow.holds Tryz.pinned (OpenSpec.ofChange fnExactServerRightSpec)

/-- ITS FALSE NEIGHBOUR: 'it returns false'. Refute it at one input. -/
def fnExactServerRightWrong : ChangeSpec := { name := "fnExactServerRight", fn := fun _ => fun
  | [d] => { results := [.lit (.bool false)], args := [d] }
  | _ => none }
def FnExactServerRightWrongFalsely : Prop := fnExactServerRightRow.holds Tryz.pinned (OpenSpec.ofChange fnExactServerRightWrong)

/-- 'laws.FnExactTreeSearch': WHATEVER THE INPUT: true; the input reads as it did. -/
def fnExactTreeSearchSpec : ChangeSpec := { name := "fnExactTreeSearch", fn := fun _ => fun
  | [d1, d2, d3, d4] => { results := [.lit (.bool true)], args := [d1, d2, d3, d4] }
  | _ => none }
def fnExactTreeSearchRow : OpenClaim := { program := "ytamgeahibepfnaagreatdoor", sum := "7fab5db17617425bf29aec05a9a37af7c4bb3a89b490d0fcbfc5012ea0081c67", func := "loop.example/g00402/laws.FnExactTreeSearch", spec := "fnExactTreeSearch", inPlace := ["internal/bytealg.IndexByteString", "internal/bytealg.IndexString", "internal/bytealg.abigen_runtime_cmpstring"], unfollowed := true, recurses := true, named := ["unicode/utf8.first", "unicode/utf8.acceptRanges", "internal/bytealg.MaxLen"], apart := false, laid := [("unicode/utf8.acceptRanges", laid_unicode_utf8_acceptRanges), ("unicode/utf8.first", laid_unicode_utf8_first)] }
def FnExactTreeSearchSaid : Prop := fnExactTreeSearchRow.holds Tryz.pinned (OpenSpec.ofChange fnExactTreeSearchSpec)

/-- ITS FALSE NEIGHBOUR: 'it returns false'. Refute it at one input. -/
def fnExactTreeSearchWrong : ChangeSpec := { name := "fnExactTreeSearch", fn := fun _ => fun
  | [d1, d2, d3, d4] => { results := [.lit (.bool false)], args := [d1, d2, d3, d4] }
  | _ => none }
def FnExactTreeSearchWrongFalsely : Prop := fnExactTreeSearchRow.holds Tryz.pinned (OpenSpec.ofChange fnExactTreeSearchWrong)

/-- 'laws.FnExactTreeMove': WHATEVER THE INPUT: true; the input reads as it did. -/
def fnExactTreeMoveSpec : ChangeSpec := { name := "fnExactTreeMove", fn := fun _ => fun
  | [d1, d2, d3, d4] => { results := [.lit (.bool true)], args := [d1, d2, d3, d4] }
  | _ => none }
def fnExactTreeMoveRow : OpenClaim := { program := "ytamgeahibepfnaagreatdoor", sum := "7fab5db17617425bf29aec05a9a37af7c4bb3a89b490d0fcbfc5012ea0081c67", func := "loop.example/g00402/laws.FnExactTreeMove", spec := "fnExactTreeMove", inPlace := ["internal/bytealg.IndexByteString", "internal/bytealg.IndexString", "internal/bytealg.abigen_runtime_cmpstring", "slices.overlaps[loop.example/g00402/impl.Attr]", "slices.overlaps[loop.example/g00402/impl.Entry]"], unfollowed := true, recurses := true, named := ["unicode/utf8.first", "unicode/utf8.acceptRanges", "internal/bytealg.MaxLen"], apart := false, laid := [("unicode/utf8.acceptRanges", laid_unicode_utf8_acceptRanges), ("unicode/utf8.first", laid_unicode_utf8_first)] }
def FnExactTreeMoveSaid : Prop := fnExactTreeMoveRow.holds Tryz.pinned (OpenSpec.ofChange fnExactTreeMoveSpec)

/-- ITS FALSE NEIGHBOUR: 'it returns false'. Refute it at one input. -/
def fnExactTreeMoveWrong : ChangeSpec := { name := "fnExactTreeMove", fn := fun _ => fun
  | [d1, d2, d3, d4] => { results := [.lit (.bool false)], args := [d1, d2, d3, d4] }
  | _ => none }
def FnExactTreeMoveWrongFalsely : Prop := fnExactTreeMoveRow.holds Tryz.pinned (OpenSpec.ofChange fnExactTreeMoveWrong)

/-- 'laws.FnExactTreeModify': WHATEVER THE INPUT: true; the input reads as it did. -/
def fnExactTreeModifySpec : ChangeSpec := { name := "fnExactTreeModify", fn := fun _ => fun
  | [d1, d2, d3] => { results := [.lit (.bool true)], args := [d1, d2, d3] }
  | _ => none }
def fnExactTreeModifyRow : OpenClaim := { program := "ytamgeahibepfnaagreatdoor", sum := "7fab5db17617425bf29aec05a9a37af7c4bb3a89b490d0fcbfc5012ea0081c67", func := "loop.example/g00402/laws.FnExactTreeModify", spec := "fnExactTreeModify", inPlace := ["internal/bytealg.IndexByteString", "internal/bytealg.IndexString", "internal/bytealg.abigen_runtime_cmpstring", "slices.overlaps[loop.example/g00402/impl.Attr]"], unfollowed := true, recurses := true, named := ["unicode/utf8.first", "unicode/utf8.acceptRanges", "internal/bytealg.MaxLen"], apart := false, laid := [("unicode/utf8.acceptRanges", laid_unicode_utf8_acceptRanges), ("unicode/utf8.first", laid_unicode_utf8_first)] }
def FnExactTreeModifySaid : Prop := fnExactTreeModifyRow.holds Tryz.pinned (OpenSpec.ofChange fnExactTreeModifySpec)

/-- ITS FALSE NEIGHBOUR: 'it returns false'. Refute it at one input. -/
def fnExactTreeModifyWrong : ChangeSpec := { name := "fnExactTreeModify", fn := fun _ => fun
  | [d1, d2, d3] => { results := [.lit (.bool false)], args := [d1, d2, d3] }
  | _ => none }
def FnExactTreeModifyWrongFalsely : Prop := fnExactTreeModifyRow.holds Tryz.pinned (OpenSpec.ofChange fnExactTreeModifyWrong)

/- THE SECOND FORM. 'bulk': how many values and letters a reading holds, each counted each time it is reached (what is shared counts as often as it is met; a slice's spare places count too). A statement '..UptoSaid' is the law's where the arguments, and the package variables that the reading takes, are together of bulk at most 1048576: NARROWER than '..Said'. Prove '..Said' where nothing that the law and all that it calls make is longer than what came in: it says more and counts as full. Else prove '..UptoSaid'. A law counts once. -/
mutual
def uptoBulk {H : Type} : DataW H → Nat
  | .lit (.string bytes) => bytes.length + 1
  | .lit _ => 1
  | .nil => 1
  | .ptr d => uptoBulk d + 1
  | .slice elems spare => uptoBulkAll elems + uptoBulkAll spare + 1
  | .agg parts => uptoBulkAll parts + 1
  | .iface _ d => uptoBulk d + 1
  | .map entries => uptoBulkEntries entries + 1
  | .held _ => 1
def uptoBulkAll {H : Type} : List (DataW H) → Nat
  | [] => 0
  | d :: r => uptoBulk d + uptoBulkAll r
def uptoBulkEntries {H : Type} : List (Lit × DataW H) → Nat
  | [] => 0
  | x :: r => uptoBulkEntry x + uptoBulkEntries r
def uptoBulkEntry {H : Type} : Lit × DataW H → Nat
  | (.string bytes, d) => bytes.length + uptoBulk d + 1
  | (_, d) => uptoBulk d + 1
 end
def uptoSmall : (H : Type) → List (DataW H) → Bool := fun _ ds => decide (uptoBulkAll ds ≤ 1048576)
def OpenSpec.upto (s : _root_.Go.ChangeSpec) : _root_.Go.OpenSpec := { _root_.Go.OpenSpec.ofChange s with cond := some uptoSmall }

/-- 'laws.FnExactInFlow', WHERE WHAT IT READS IS OF BULK AT MOST 1048576: true; the input reads as it did. -/
def fnExactInFlowUptoRow : OpenClaim := { program := "ytamgeahibepfnaagreatdoor", sum := "7fab5db17617425bf29aec05a9a37af7c4bb3a89b490d0fcbfc5012ea0081c67", func := "loop.example/g00402/laws.FnExactInFlow", spec := "fnExactInFlow", inPlace := ["internal/bytealg.IndexByteString", "internal/bytealg.IndexString", "internal/bytealg.abigen_runtime_cmpstring"], unfollowed := true, recurses := true, named := ["unicode/utf8.first", "unicode/utf8.acceptRanges", "internal/bytealg.MaxLen"], apart := false, laid := [("unicode/utf8.acceptRanges", laid_unicode_utf8_acceptRanges), ("unicode/utf8.first", laid_unicode_utf8_first)], narrowed := true }
def FnExactInFlowUptoSaid : Prop := fnExactInFlowUptoRow.holds Tryz.pinned (OpenSpec.upto fnExactInFlowSpec)

/-- 'laws.FnExactWantOf', WHERE WHAT IT READS IS OF BULK AT MOST 1048576: true; the input reads as it did. -/
def fnExactWantOfUptoRow : OpenClaim := { program := "ytamgeahibepfnaagreatdoor", sum := "7fab5db17617425bf29aec05a9a37af7c4bb3a89b490d0fcbfc5012ea0081c67", func := "loop.example/g00402/laws.FnExactWantOf", spec := "fnExactWantOf", inPlace := ["internal/bytealg.IndexByteString", "internal/bytealg.IndexString", "internal/bytealg.abigen_runtime_cmpstring"], unfollowed := true, recurses := true, named := ["unicode/utf8.first", "unicode/utf8.acceptRanges", "internal/bytealg.MaxLen"], apart := false, laid := [("unicode/utf8.acceptRanges", laid_unicode_utf8_acceptRanges), ("unicode/utf8.first", laid_unicode_utf8_first)], narrowed := true }
def FnExactWantOfUptoSaid : Prop := fnExactWantOfUptoRow.holds Tryz.pinned (OpenSpec.upto fnExactWantOfSpec)

/-- 'laws.FnExactServerRight', WHERE WHAT IT READS IS OF BULK AT MOST 1048576: true; the input reads as it did. -/
def fnExactServerRightUptoRow : OpenClaim := { program := "ytamgeahibepfnaagreatdoor", sum := "7fab5db17617425bf29aec05a9a37af7c4bb3a89b490d0fcbfc5012ea0081c67", func := "loop.example/g00402/laws.FnExactServerRight", spec := "fnExactServerRight", inPlace := ["internal/bytealg.IndexByteString", "internal/bytealg.IndexString", "internal/bytealg.abigen_runtime_cmpstring"], unfollowed := true, recurses := true, named := ["unicode/utf8.first", "unicode/utf8.acceptRanges", "internal/bytealg.MaxLen"], apart := false, laid := [("unicode/utf8.acceptRanges", laid_unicode_utf8_acceptRanges), ("unicode/utf8.first", laid_unicode_utf8_first)], narrowed := true }
def FnExactServerRightUptoSaid : Prop := fnExactServerRightUptoRow.holds Tryz.pinned (OpenSpec.upto fnExactServerRightSpec)

/-- 'laws.FnExactTreeSearch', WHERE WHAT IT READS IS OF BULK AT MOST 1048576: true; the input reads as it did. -/
def fnExactTreeSearchUptoRow : OpenClaim := { program := "ytamgeahibepfnaagreatdoor", sum := "7fab5db17617425bf29aec05a9a37af7c4bb3a89b490d0fcbfc5012ea0081c67", func := "loop.example/g00402/laws.FnExactTreeSearch", spec := "fnExactTreeSearch", inPlace := ["internal/bytealg.IndexByteString", "internal/bytealg.IndexString", "internal/bytealg.abigen_runtime_cmpstring"], unfollowed := true, recurses := true, named := ["unicode/utf8.first", "unicode/utf8.acceptRanges", "internal/bytealg.MaxLen"], apart := false, laid := [("unicode/utf8.acceptRanges", laid_unicode_utf8_acceptRanges), ("unicode/utf8.first", laid_unicode_utf8_first)], narrowed := true }
def FnExactTreeSearchUptoSaid : Prop := fnExactTreeSearchUptoRow.holds Tryz.pinned (OpenSpec.upto fnExactTreeSearchSpec)

/-- 'laws.FnExactTreeMove', WHERE WHAT IT READS IS OF BULK AT MOST 1048576: true; the input reads as it did. -/
def fnExactTreeMoveUptoRow : OpenClaim := { program := "ytamgeahibepfnaagreatdoor", sum := "7fab5db17617425bf29aec05a9a37af7c4bb3a89b490d0fcbfc5012ea0081c67", func := "loop.example/g00402/laws.FnExactTreeMove", spec := "fnExactTreeMove", inPlace := ["internal/bytealg.IndexByteString", "internal/bytealg.IndexString", "internal/bytealg.abigen_runtime_cmpstring", "slices.overlaps[loop.example/g00402/impl.Attr]", "slices.overlaps[loop.example/g00402/impl.Entry]"], unfollowed := true, recurses := true, named := ["unicode/utf8.first", "unicode/utf8.acceptRanges", "internal/bytealg.MaxLen"], apart := false, laid := [("unicode/utf8.acceptRanges", laid_unicode_utf8_acceptRanges), ("unicode/utf8.first", laid_unicode_utf8_first)], narrowed := true }
def FnExactTreeMoveUptoSaid : Prop := fnExactTreeMoveUptoRow.holds Tryz.pinned (OpenSpec.upto fnExactTreeMoveSpec)

/-- 'laws.FnExactTreeModify', WHERE WHAT IT READS IS OF BULK AT MOST 1048576: true; the input reads as it did. -/
def fnExactTreeModifyUptoRow : OpenClaim := { program := "ytamgeahibepfnaagreatdoor", sum := "7fab5db17617425bf29aec05a9a37af7c4bb3a89b490d0fcbfc5012ea0081c67", func := "loop.example/g00402/laws.FnExactTreeModify", spec := "fnExactTreeModify", inPlace := ["internal/bytealg.IndexByteString", "internal/bytealg.IndexString", "internal/bytealg.abigen_runtime_cmpstring", "slices.overlaps[loop.example/g00402/impl.Attr]"], unfollowed := true, recurses := true, named := ["unicode/utf8.first", "unicode/utf8.acceptRanges", "internal/bytealg.MaxLen"], apart := false, laid := [("unicode/utf8.acceptRanges", laid_unicode_utf8_acceptRanges), ("unicode/utf8.first", laid_unicode_utf8_first)], narrowed := true }
def FnExactTreeModifyUptoSaid : Prop := fnExactTreeModifyUptoRow.holds Tryz.pinned (OpenSpec.upto fnExactTreeModifySpec)

end Rows
end Go.Proofs.YtamgeahibepfnaaGreatDoor
