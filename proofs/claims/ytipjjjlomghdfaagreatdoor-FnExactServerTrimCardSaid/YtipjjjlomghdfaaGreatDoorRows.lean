/-
  NARROWER THAN 'FOR EVERY INPUT', by the rows' own cells (each row's printed sentence says how): FnExactServerRight: laid · FnExactWantsOf: laid · FnExactServerTrim: laid · FnExactWorldRight: laid · FnExactIdle: laid.
  DERIVED. THE GIVEN ROWS OF THIS SEAT. 5 by the template 'for every input the law returns true; each argument reads behind the call as it read before'; 0 by the template 'total and deterministic' (their statements: YtipjjjlomghdfaaGreatDoorTotals.lean).
  GIVEN WITH THE SEED: the statements are not yours to turn. If you find one false, say at which input.
  Laid BY PROGRAM, IN A SANDBOX (cutbox-rows.mjs): the forced cells as the released guide's own fill.sh prints them over the translation 141a2e78b9c98e98… (all of the seat's roots in one cut). By AI agents, Wed Nov 11 2026. No macro, syntax, notation, axiom, sorry.
-/
import Derived.Test.YtipjjjlomghdfaaGreatDoorChecked
import GoSem.PinnedTables
import GoSem.Claim
import GoSem.ClaimJoined
import GoSem.ClaimMapViews
import Derived.JoinedTies
import Derived.KernelRfl
namespace Go.Proofs.YtipjjjlomghdfaaGreatDoor
/- THE CELL 'sum', in the pinned program and in every row, IS THE sha256 OF THE DUMP (.gsa) THAT YtipjjjlomghdfaaGreatDoorProg.lean LOADS. Nothing in Lean hashes anything: it is a label: what it is worth is what the hold of that sum in a sandbox is worth. -/
noncomputable def Tryz.pinned : Pinned := { name := "ytipjjjlomghdfaagreatdoor", sum := "141a2e78b9c98e98cdf59dc055e238bf3aed92a765b6037890754b42f312e050", checked := Tryz.checked }
namespace Rows
def none {H : Type} : Left H := { results := [], args := [] }

/- WHAT THE LISTED PACKAGE-LEVEL VARIABLES READ AS WHEN THE CALL BEGINS. Each datum BY PROGRAM (the guide's laid-datum.mjs) off the statement by which the dump's own 'gosem.cut.vars' lays the variable. In a bare row this is a premise. The card (YtipjjjlomghdfaaGreatDoorCards.lean) ties it to the program's text. -/
def laid_unicode_utf8_acceptRanges {H : Type} : DataW H := .agg [.agg [.lit (.int .u8 128), .lit (.int .u8 191)], .agg [.lit (.int .u8 160), .lit (.int .u8 191)], .agg [.lit (.int .u8 128), .lit (.int .u8 159)], .agg [.lit (.int .u8 144), .lit (.int .u8 191)], .agg [.lit (.int .u8 128), .lit (.int .u8 143)], .agg [.lit (.int .u8 0), .lit (.int .u8 0)], .agg [.lit (.int .u8 0), .lit (.int .u8 0)], .agg [.lit (.int .u8 0), .lit (.int .u8 0)], .agg [.lit (.int .u8 0), .lit (.int .u8 0)], .agg [.lit (.int .u8 0), .lit (.int .u8 0)], .agg [.lit (.int .u8 0), .lit (.int .u8 0)], .agg [.lit (.int .u8 0), .lit (.int .u8 0)], .agg [.lit (.int .u8 0), .lit (.int .u8 0)], .agg [.lit (.int .u8 0), .lit (.int .u8 0)], .agg [.lit (.int .u8 0), .lit (.int .u8 0)], .agg [.lit (.int .u8 0), .lit (.int .u8 0)]]
/-- One of Go's own tables, pinned by name: the form's constant. -/
def laid_unicode_utf8_first : DataW Unit := Go.Pinned.utf8First

/-- 'laws.FnExactServerRight': WHATEVER THE INPUT: true; the input reads as it did. -/
def fnExactServerRightSpec : ChangeSpec := { name := "fnExactServerRight", fn := fun _ => fun
  | [d] => { results := [.lit (.bool true)], args := [d] }
  | _ => none }
def fnExactServerRightRow : OpenClaim := { program := "ytipjjjlomghdfaagreatdoor", sum := "141a2e78b9c98e98cdf59dc055e238bf3aed92a765b6037890754b42f312e050", func := "loop.example/g00402/laws.FnExactServerRight", spec := "fnExactServerRight", inPlace := ["internal/bytealg.IndexByteString", "internal/bytealg.IndexString", "internal/bytealg.abigen_runtime_cmpstring"], unfollowed := true, recurses := true, named := ["unicode/utf8.first", "unicode/utf8.acceptRanges", "internal/bytealg.MaxLen"], apart := false, laid := [("unicode/utf8.acceptRanges", laid_unicode_utf8_acceptRanges), ("unicode/utf8.first", laid_unicode_utf8_first)] }
def FnExactServerRightSaid : Prop := fnExactServerRightRow.holds Tryz.pinned (OpenSpec.ofChange fnExactServerRightSpec)

/-- ITS FALSE NEIGHBOUR: 'it returns false'. Refute it at one input. -/
def fnExactServerRightWrong : ChangeSpec := { name := "fnExactServerRight", fn := fun _ => fun
  | [d] => { results := [.lit (.bool false)], args := [d] }
  | _ => none }
def FnExactServerRightWrongFalsely : Prop := fnExactServerRightRow.holds Tryz.pinned (OpenSpec.ofChange fnExactServerRightWrong)

/-- 'laws.FnExactWantsOf': WHATEVER THE INPUT: true; the input reads as it did. -/
def fnExactWantsOfSpec : ChangeSpec := { name := "fnExactWantsOf", fn := fun _ => fun
  | [d1, d2] => { results := [.lit (.bool true)], args := [d1, d2] }
  | _ => none }
def fnExactWantsOfRow : OpenClaim := { program := "ytipjjjlomghdfaagreatdoor", sum := "141a2e78b9c98e98cdf59dc055e238bf3aed92a765b6037890754b42f312e050", func := "loop.example/g00402/laws.FnExactWantsOf", spec := "fnExactWantsOf", inPlace := ["internal/bytealg.IndexByteString", "internal/bytealg.IndexString", "internal/bytealg.abigen_runtime_cmpstring"], unfollowed := true, recurses := true, named := ["unicode/utf8.first", "unicode/utf8.acceptRanges", "internal/bytealg.MaxLen"], apart := false, laid := [("unicode/utf8.acceptRanges", laid_unicode_utf8_acceptRanges), ("unicode/utf8.first", laid_unicode_utf8_first)] }
def FnExactWantsOfSaid : Prop := fnExactWantsOfRow.holds Tryz.pinned (OpenSpec.ofChange fnExactWantsOfSpec)

/-- ITS FALSE NEIGHBOUR: 'it returns false'. Refute it at one input. -/
def fnExactWantsOfWrong : ChangeSpec := { name := "fnExactWantsOf", fn := fun _ => fun
  | [d1, d2] => { results := [.lit (.bool false)], args := [d1, d2] }
  | _ => none }
def FnExactWantsOfWrongFalsely : Prop := fnExactWantsOfRow.holds Tryz.pinned (OpenSpec.ofChange fnExactWantsOfWrong)

/-- 'laws.FnExactServerTrim': WHATEVER THE INPUT: true; the input reads as it did. -/
def fnExactServerTrimSpec : ChangeSpec := { name := "fnExactServerTrim", fn := fun _ => fun
  | [d1, d2] => { results := [.lit (.bool true)], args := [d1, d2] }
  | _ => none }
def fnExactServerTrimRow : OpenClaim := { program := "ytipjjjlomghdfaagreatdoor", sum := "141a2e78b9c98e98cdf59dc055e238bf3aed92a765b6037890754b42f312e050", func := "loop.example/g00402/laws.FnExactServerTrim", spec := "fnExactServerTrim", inPlace := ["internal/bytealg.IndexByteString", "internal/bytealg.IndexString", "internal/bytealg.abigen_runtime_cmpstring"], unfollowed := true, recurses := true, named := ["unicode/utf8.first", "unicode/utf8.acceptRanges", "internal/bytealg.MaxLen"], apart := false, laid := [("unicode/utf8.acceptRanges", laid_unicode_utf8_acceptRanges), ("unicode/utf8.first", laid_unicode_utf8_first)] }
def FnExactServerTrimSaid : Prop := fnExactServerTrimRow.holds Tryz.pinned (OpenSpec.ofChange fnExactServerTrimSpec)

/-- ITS FALSE NEIGHBOUR: 'it returns false'. Refute it at one input. -/
def fnExactServerTrimWrong : ChangeSpec := { name := "fnExactServerTrim", fn := fun _ => fun
  | [d1, d2] => { results := [.lit (.bool false)], args := [d1, d2] }
  | _ => none }
def FnExactServerTrimWrongFalsely : Prop := fnExactServerTrimRow.holds Tryz.pinned (OpenSpec.ofChange fnExactServerTrimWrong)

/-- 'laws.FnExactWorldRight': WHATEVER THE INPUT: true; the input reads as it did. -/
def fnExactWorldRightSpec : ChangeSpec := { name := "fnExactWorldRight", fn := fun _ => fun
  | [d] => { results := [.lit (.bool true)], args := [d] }
  | _ => none }
def fnExactWorldRightRow : OpenClaim := { program := "ytipjjjlomghdfaagreatdoor", sum := "141a2e78b9c98e98cdf59dc055e238bf3aed92a765b6037890754b42f312e050", func := "loop.example/g00402/laws.FnExactWorldRight", spec := "fnExactWorldRight", inPlace := ["internal/bytealg.IndexByteString", "internal/bytealg.IndexString", "internal/bytealg.abigen_runtime_cmpstring"], unfollowed := true, recurses := true, named := ["unicode/utf8.first", "unicode/utf8.acceptRanges", "internal/bytealg.MaxLen"], apart := false, laid := [("unicode/utf8.acceptRanges", laid_unicode_utf8_acceptRanges), ("unicode/utf8.first", laid_unicode_utf8_first)] }
def FnExactWorldRightSaid : Prop := fnExactWorldRightRow.holds Tryz.pinned (OpenSpec.ofChange fnExactWorldRightSpec)

/-- ITS FALSE NEIGHBOUR: 'it returns false'. Refute it at one input. -/
def fnExactWorldRightWrong : ChangeSpec := { name := "fnExactWorldRight", fn := fun _ => fun
  | [d] => { results := [.lit (.bool false)], args := [d] }
  | _ => none }
def FnExactWorldRightWrongFalsely : Prop := fnExactWorldRightRow.holds Tryz.pinned (OpenSpec.ofChange fnExactWorldRightWrong)

/-- 'laws.FnExactIdle': WHATEVER THE INPUT: true; the input reads as it did. -/
def fnExactIdleSpec : ChangeSpec := { name := "fnExactIdle", fn := fun _ => fun
  | [d] => { results := [.lit (.bool true)], args := [d] }
  | _ => none }
def fnExactIdleRow : OpenClaim := { program := "ytipjjjlomghdfaagreatdoor", sum := "141a2e78b9c98e98cdf59dc055e238bf3aed92a765b6037890754b42f312e050", func := "loop.example/g00402/laws.FnExactIdle", spec := "fnExactIdle", inPlace := ["internal/bytealg.IndexByteString", "internal/bytealg.IndexString", "internal/bytealg.abigen_runtime_cmpstring"], unfollowed := true, recurses := true, named := ["unicode/utf8.first", "unicode/utf8.acceptRanges", "internal/bytealg.MaxLen"], apart := false, laid := [("unicode/utf8.acceptRanges", laid_unicode_utf8_acceptRanges), ("unicode/utf8.first", laid_unicode_utf8_first)] }
def FnExactIdleSaid : Prop := fnExactIdleRow.holds Tryz.pinned (OpenSpec.ofChange fnExactIdleSpec)

/-- ITS FALSE NEIGHBOUR: 'it returns false'. Refute it at one input. -/
def fnExactIdleWrong : ChangeSpec := { name := "fnExactIdle", fn := fun _ => fun
  | [d] => { results := [.lit (.bool false)], args := [d] }
  | _ => none }
def FnExactIdleWrongFalsely : Prop := fnExactIdleRow.holds Tryz.pinned (OpenSpec.ofChange fnExactIdleWrong)

/- THE SECOND FORM. 'bulk': how many values and letters a reading holds, each counted each time it is reached (what is shared counts as often as it is met; a slice's spare places count too). A statement '..UptoSaid' is the law's where the arguments, and the package variables that the reading takes, are together of bulk at most 1048576: NARROWER than '..Said'. Prove '..Said' where nothing that the law and all that it calls make is longer than what came in: it says more and counts as full. Else prove '..UptoSaid'. A law counts once. -/
mutual
def uptoBulk {H : Type} : DataW H → Nat
  | .lit (.string bytes) => bytes.length + 1
  | .lit _ => 1
  | .nil => 1
  | .ptr d => uptoBulk d + 1
  | .slice elems spare => uptoBulkAll elems + uptoBulkAll spare + 1
  | .agg parts => uptoBulkAll parts + 1
  | .iface _ d => uptoBulk d + 1
  | .map entries => uptoBulkEntries entries + 1
  | .held _ => 1
def uptoBulkAll {H : Type} : List (DataW H) → Nat
  | [] => 0
  | d :: r => uptoBulk d + uptoBulkAll r
def uptoBulkEntries {H : Type} : List (Lit × DataW H) → Nat
  | [] => 0
  | x :: r => uptoBulkEntry x + uptoBulkEntries r
def uptoBulkEntry {H : Type} : Lit × DataW H → Nat
  | (.string bytes, d) => bytes.length + uptoBulk d + 1
  | (_, d) => uptoBulk d + 1
 end
def uptoSmall : (H : Type) → List (DataW H) → Bool := fun _ ds => decide (uptoBulkAll ds ≤ 1048576)
def OpenSpec.upto (s : _root_.Go.ChangeSpec) : _root_.Go.OpenSpec := { _root_.Go.OpenSpec.ofChange s with cond := some uptoSmall }

/-- 'laws.FnExactServerRight', WHERE WHAT IT READS IS OF BULK AT MOST 1048576: true; the input reads as it did. -/
def fnExactServerRightUptoRow : OpenClaim := { program := "ytipjjjlomghdfaagreatdoor", sum := "141a2e78b9c98e98cdf59dc055e238bf3aed92a765b6037890754b42f312e050", func := "loop.example/g00402/laws.FnExactServerRight", spec := "fnExactServerRight", inPlace := ["internal/bytealg.IndexByteString", "internal/bytealg.IndexString", "internal/bytealg.abigen_runtime_cmpstring"], unfollowed := true, recurses := true, named := ["unicode/utf8.first", "unicode/utf8.acceptRanges", "internal/bytealg.MaxLen"], apart := false, laid := [("unicode/utf8.acceptRanges", laid_unicode_utf8_acceptRanges), ("unicode/utf8.first", laid_unicode_utf8_first)], narrowed := true }
def FnExactServerRightUptoSaid : Prop := fnExactServerRightUptoRow.holds Tryz.pinned (OpenSpec.upto fnExactServerRightSpec)

/-- 'laws.FnExactWantsOf', WHERE WHAT IT READS IS OF BULK AT MOST 1048576: true; the input reads as it did. -/
def fnExactWantsOfUptoRow : OpenClaim := { program := "ytipjjjlomghdfaagreatdoor", sum := "141a2e78b9c98e98cdf59dc055e238bf3aed92a765b6037890754b42f312e050", func := "loop.example/g00402/laws.FnExactWantsOf", spec := "fnExactWantsOf", inPlace := ["internal/bytealg.IndexByteString", "internal/bytealg.IndexString", "internal/bytealg.abigen_runtime_cmpstring"], unfollowed := true, recurses := true, named := ["unicode/utf8.first", "unicode/utf8.acceptRanges", "internal/bytealg.MaxLen"], apart := false, laid := [("unicode/utf8.acceptRanges", laid_unicode_utf8_acceptRanges), ("unicode/utf8.first", laid_unicode_utf8_first)], narrowed := true }
def FnExactWantsOfUptoSaid : Prop := fnExactWantsOfUptoRow.holds Tryz.pinned (OpenSpec.upto fnExactWantsOfSpec)

/-- 'laws.FnExactServerTrim', WHERE WHAT IT READS IS OF BULK AT MOST 1048576: true; the input reads as it did. -/
def fnExactServerTrimUptoRow : OpenClaim := { program := "ytipjjjlomghdfaagreatdoor", sum := "141a2e78b9c98e98cdf59dc055e238bf3aed92a765b6037890754b42f312e050", func := "loop.example/g00402/laws.FnExactServerTrim", spec := "fnExactServerTrim", inPlace := ["internal/bytealg.IndexByteString", "internal/bytealg.IndexString", "internal/bytealg.abigen_runtime_cmpstring"], unfollowed := true, recurses := true, named := ["unicode/utf8.first", "unicode/utf8.acceptRanges", "internal/bytealg.MaxLen"], apart := false, laid := [("unicode/utf8.acceptRanges", laid_unicode_utf8_acceptRanges), ("unicode/utf8.first", laid_unicode_utf8_first)], narrowed := true }
def FnExactServerTrimUptoSaid : Prop := fnExactServerTrimUptoRow.holds Tryz.pinned (OpenSpec.upto fnExactServerTrimSpec)

/-- 'laws.FnExactWorldRight', WHERE WHAT IT READS IS OF BULK AT MOST 1048576: true; the input reads as it did. -/
def fnExactWorldRightUptoRow : OpenClaim := { program := "ytipjjjlomghdfaagreatdoor", sum := "141a2e78b9c98e98cdf59dc055e238bf3aed92a765b6037890754b42f312e050", func := "loop.example/g00402/laws.FnExactWorldRight", spec := "fnExactWorldRight", inPlace := ["internal/bytealg.IndexByteString", "internal/bytealg.IndexString", "internal/bytealg.abigen_runtime_cmpstring"], unfollowed := true, recurses := true, named := ["unicode/utf8.first", "unicode/utf8.acceptRanges", "internal/bytealg.MaxLen"], apart := false, laid := [("unicode/utf8.acceptRanges", laid_unicode_utf8_acceptRanges), ("unicode/utf8.first", laid_unicode_utf8_first)], narrowed := true }
def FnExactWorldRightUptoSaid : Prop := fnExactWorldRightUptoRow.holds Tryz.pinned (OpenSpec.upto fnExactWorldRightSpec)

/-- 'laws.FnExactIdle', WHERE WHAT IT READS IS OF BULK AT MOST 1048576: true; the input reads as it did. -/
def fnExactIdleUptoRow : OpenClaim := { program := "ytipjjjlomghdfaagreatdoor", sum := "141a2e78b9c98e98cdf59dc055e238bf3aed92a765b6037890754b42f312e050", func := "loop.example/g00402/laws.FnExactIdle", spec := "fnExactIdle", inPlace := ["internal/bytealg.IndexByteString", "internal/bytealg.IndexString", "internal/bytealg.abigen_runtime_cmpstring"], unfollowed := true, recurses := true, named := ["unicode/utf8.first", "unicode/utf8.acceptRanges", "internal/bytealg.MaxLen"], apart := false, laid := [("unicode/utf8.acceptRanges", laid_unicode_utf8_acceptRanges), ("unicode/utf8.first", laid_unicode_utf8_first)], narrowed := true }
def FnExactIdleUptoSaid : Prop := fnExactIdleUptoRow.holds Tryz.pinned (OpenSpec.upto fnExactIdleSpec)

end Rows
end Go.Proofs.YtipjjjlomghdfaaGreatDoor
