/-
  No cell of these rows narrows 'for every input' (looked for: loops, veiled, ifaces, maps, wideKeys, modest, calm, conditions, laid).
  DERIVED. THE GIVEN ROWS OF THIS SEAT. 10 by the template 'for every input the law returns true; each argument reads behind the call as it read before'; 0 by the template 'total and deterministic' (their statements: YtgmdiiajmbdnfaaTotals.lean).
  GIVEN WITH THE SEED: the statements are not yours to turn. If you find one false, say at which input.
  Laid BY PROGRAM, IN A SANDBOX (cutbox-rows.mjs): the forced cells as the released guide's own fill.sh prints them over the translation b3e2500ac91ef0ae… (all of the seat's roots in one cut). By AI agents, Wed Nov 11 2026. No macro, syntax, notation, axiom, sorry.
-/
import Derived.Test.YtgmdiiajmbdnfaaChecked
import GoSem.Claim
import GoSem.ClaimJoined
import GoSem.ClaimMapViews
import Derived.JoinedTies
import Derived.KernelRfl
namespace Go.Proofs.Ytgmdiiajmbdnfaa
/- THE CELL 'sum', in the pinned program and in every row, IS THE sha256 OF THE DUMP (.gsa) THAT YtgmdiiajmbdnfaaProg.lean LOADS. Nothing in Lean hashes anything: it is a label: what it is worth is what the hold of that sum in a sandbox is worth. -/
noncomputable def Try.pinned : Pinned := { name := "ytgmdiiajmbdnfaa", sum := "b3e2500ac91ef0ae6d4e781c5eabcff370559a81f9c1bf9a63195f051e8b722d", checked := Try.checked }
namespace Rows
def none {H : Type} : Left H := { results := [], args := [] }

/-- 'laws.FnHandedShape': WHATEVER THE INPUT: true; the input reads as it did. -/
def fnHandedShapeSpec : ChangeSpec := { name := "fnHandedShape", fn := fun _ => fun
  | [d1, d2] => { results := [.lit (.bool true)], args := [d1, d2] }
  | _ => none }
def fnHandedShapeRow : OpenClaim := { program := "ytgmdiiajmbdnfaa", sum := "b3e2500ac91ef0ae6d4e781c5eabcff370559a81f9c1bf9a63195f051e8b722d", func := "loop.example/g00339/laws.FnHandedShape", spec := "fnHandedShape", unfollowed := true, recurses := true, apart := false }
def FnHandedShapeSaid : Prop := fnHandedShapeRow.holds Try.pinned (OpenSpec.ofChange fnHandedShapeSpec)

/-- ITS FALSE NEIGHBOUR: 'it returns false'. Refute it at one input. -/
def fnHandedShapeWrong : ChangeSpec := { name := "fnHandedShape", fn := fun _ => fun
  | [d1, d2] => { results := [.lit (.bool false)], args := [d1, d2] }
  | _ => none }
def FnHandedShapeWrongFalsely : Prop := fnHandedShapeRow.holds Try.pinned (OpenSpec.ofChange fnHandedShapeWrong)

/-- 'laws.FnExactIsValue': WHATEVER THE INPUT: true; the input reads as it did. -/
def fnExactIsValueSpec : ChangeSpec := { name := "fnExactIsValue", fn := fun _ => fun
  | [d] => { results := [.lit (.bool true)], args := [d] }
  | _ => none }
def fnExactIsValueRow : OpenClaim := { program := "ytgmdiiajmbdnfaa", sum := "b3e2500ac91ef0ae6d4e781c5eabcff370559a81f9c1bf9a63195f051e8b722d", func := "loop.example/g00339/laws.FnExactIsValue", spec := "fnExactIsValue", recurses := true, apart := false }
def FnExactIsValueSaid : Prop := fnExactIsValueRow.holds Try.pinned (OpenSpec.ofChange fnExactIsValueSpec)

/-- ITS FALSE NEIGHBOUR: 'it returns false'. Refute it at one input. -/
def fnExactIsValueWrong : ChangeSpec := { name := "fnExactIsValue", fn := fun _ => fun
  | [d] => { results := [.lit (.bool false)], args := [d] }
  | _ => none }
def FnExactIsValueWrongFalsely : Prop := fnExactIsValueRow.holds Try.pinned (OpenSpec.ofChange fnExactIsValueWrong)

/-- 'laws.FnExactCallStep': WHATEVER THE INPUT: true; the input reads as it did. -/
def fnExactCallStepSpec : ChangeSpec := { name := "fnExactCallStep", fn := fun _ => fun
  | [d] => { results := [.lit (.bool true)], args := [d] }
  | _ => none }
def fnExactCallStepRow : OpenClaim := { program := "ytgmdiiajmbdnfaa", sum := "b3e2500ac91ef0ae6d4e781c5eabcff370559a81f9c1bf9a63195f051e8b722d", func := "loop.example/g00339/laws.FnExactCallStep", spec := "fnExactCallStep", unfollowed := true, recurses := true, apart := false }
def FnExactCallStepSaid : Prop := fnExactCallStepRow.holds Try.pinned (OpenSpec.ofChange fnExactCallStepSpec)

/-- ITS FALSE NEIGHBOUR: 'it returns false'. Refute it at one input. -/
def fnExactCallStepWrong : ChangeSpec := { name := "fnExactCallStep", fn := fun _ => fun
  | [d] => { results := [.lit (.bool false)], args := [d] }
  | _ => none }
def FnExactCallStepWrongFalsely : Prop := fnExactCallStepRow.holds Try.pinned (OpenSpec.ofChange fnExactCallStepWrong)

/-- 'laws.FnMissed': WHATEVER THE INPUT: true; the input reads as it did. -/
def fnMissedSpec : ChangeSpec := { name := "fnMissed", fn := fun _ => fun
  | [d1, d2] => { results := [.lit (.bool true)], args := [d1, d2] }
  | _ => none }
def fnMissedRow : OpenClaim := { program := "ytgmdiiajmbdnfaa", sum := "b3e2500ac91ef0ae6d4e781c5eabcff370559a81f9c1bf9a63195f051e8b722d", func := "loop.example/g00339/laws.FnMissed", spec := "fnMissed", unfollowed := true, recurses := true, apart := false }
def FnMissedSaid : Prop := fnMissedRow.holds Try.pinned (OpenSpec.ofChange fnMissedSpec)

/-- ITS FALSE NEIGHBOUR: 'it returns false'. Refute it at one input. -/
def fnMissedWrong : ChangeSpec := { name := "fnMissed", fn := fun _ => fun
  | [d1, d2] => { results := [.lit (.bool false)], args := [d1, d2] }
  | _ => none }
def FnMissedWrongFalsely : Prop := fnMissedRow.holds Try.pinned (OpenSpec.ofChange fnMissedWrong)

/-- 'laws.FnExactShiftTerm': WHATEVER THE INPUT: true; the input reads as it did. -/
def fnExactShiftTermSpec : ChangeSpec := { name := "fnExactShiftTerm", fn := fun _ => fun
  | [d1, d2, d3] => { results := [.lit (.bool true)], args := [d1, d2, d3] }
  | _ => none }
def fnExactShiftTermRow : OpenClaim := { program := "ytgmdiiajmbdnfaa", sum := "b3e2500ac91ef0ae6d4e781c5eabcff370559a81f9c1bf9a63195f051e8b722d", func := "loop.example/g00339/laws.FnExactShiftTerm", spec := "fnExactShiftTerm", unfollowed := true, recurses := true, apart := false }
def FnExactShiftTermSaid : Prop := fnExactShiftTermRow.holds Try.pinned (OpenSpec.ofChange fnExactShiftTermSpec)

/-- ITS FALSE NEIGHBOUR: 'it returns false'. Refute it at one input. -/
def fnExactShiftTermWrong : ChangeSpec := { name := "fnExactShiftTerm", fn := fun _ => fun
  | [d1, d2, d3] => { results := [.lit (.bool false)], args := [d1, d2, d3] }
  | _ => none }
def FnExactShiftTermWrongFalsely : Prop := fnExactShiftTermRow.holds Try.pinned (OpenSpec.ofChange fnExactShiftTermWrong)

/-- 'laws.FnMeets': WHATEVER THE INPUT: true; the input reads as it did. -/
def fnMeetsSpec : ChangeSpec := { name := "fnMeets", fn := fun _ => fun
  | [d1, d2] => { results := [.lit (.bool true)], args := [d1, d2] }
  | _ => none }
def fnMeetsRow : OpenClaim := { program := "ytgmdiiajmbdnfaa", sum := "b3e2500ac91ef0ae6d4e781c5eabcff370559a81f9c1bf9a63195f051e8b722d", func := "loop.example/g00339/laws.FnMeets", spec := "fnMeets", unfollowed := true, recurses := true, apart := false }
def FnMeetsSaid : Prop := fnMeetsRow.holds Try.pinned (OpenSpec.ofChange fnMeetsSpec)

/-- ITS FALSE NEIGHBOUR: 'it returns false'. Refute it at one input. -/
def fnMeetsWrong : ChangeSpec := { name := "fnMeets", fn := fun _ => fun
  | [d1, d2] => { results := [.lit (.bool false)], args := [d1, d2] }
  | _ => none }
def FnMeetsWrongFalsely : Prop := fnMeetsRow.holds Try.pinned (OpenSpec.ofChange fnMeetsWrong)

/-- 'laws.FnExactHandedSize': WHATEVER THE INPUT: true; the input reads as it did. -/
def fnExactHandedSizeSpec : ChangeSpec := { name := "fnExactHandedSize", fn := fun _ => fun
  | [d] => { results := [.lit (.bool true)], args := [d] }
  | _ => none }
def fnExactHandedSizeRow : OpenClaim := { program := "ytgmdiiajmbdnfaa", sum := "b3e2500ac91ef0ae6d4e781c5eabcff370559a81f9c1bf9a63195f051e8b722d", func := "loop.example/g00339/laws.FnExactHandedSize", spec := "fnExactHandedSize", unfollowed := true, recurses := true, apart := false }
def FnExactHandedSizeSaid : Prop := fnExactHandedSizeRow.holds Try.pinned (OpenSpec.ofChange fnExactHandedSizeSpec)

/-- ITS FALSE NEIGHBOUR: 'it returns false'. Refute it at one input. -/
def fnExactHandedSizeWrong : ChangeSpec := { name := "fnExactHandedSize", fn := fun _ => fun
  | [d] => { results := [.lit (.bool false)], args := [d] }
  | _ => none }
def FnExactHandedSizeWrongFalsely : Prop := fnExactHandedSizeRow.holds Try.pinned (OpenSpec.ofChange fnExactHandedSizeWrong)

/-- 'laws.FnSubst': WHATEVER THE INPUT: true; the input reads as it did. -/
def fnSubstSpec : ChangeSpec := { name := "fnSubst", fn := fun _ => fun
  | [d1, d2] => { results := [.lit (.bool true)], args := [d1, d2] }
  | _ => none }
def fnSubstRow : OpenClaim := { program := "ytgmdiiajmbdnfaa", sum := "b3e2500ac91ef0ae6d4e781c5eabcff370559a81f9c1bf9a63195f051e8b722d", func := "loop.example/g00339/laws.FnSubst", spec := "fnSubst", unfollowed := true, recurses := true, apart := false }
def FnSubstSaid : Prop := fnSubstRow.holds Try.pinned (OpenSpec.ofChange fnSubstSpec)

/-- ITS FALSE NEIGHBOUR: 'it returns false'. Refute it at one input. -/
def fnSubstWrong : ChangeSpec := { name := "fnSubst", fn := fun _ => fun
  | [d1, d2] => { results := [.lit (.bool false)], args := [d1, d2] }
  | _ => none }
def FnSubstWrongFalsely : Prop := fnSubstRow.holds Try.pinned (OpenSpec.ofChange fnSubstWrong)

/-- 'laws.FnExactHandOn': WHATEVER THE INPUT: true; the input reads as it did. -/
def fnExactHandOnSpec : ChangeSpec := { name := "fnExactHandOn", fn := fun _ => fun
  | [d] => { results := [.lit (.bool true)], args := [d] }
  | _ => none }
def fnExactHandOnRow : OpenClaim := { program := "ytgmdiiajmbdnfaa", sum := "b3e2500ac91ef0ae6d4e781c5eabcff370559a81f9c1bf9a63195f051e8b722d", func := "loop.example/g00339/laws.FnExactHandOn", spec := "fnExactHandOn", unfollowed := true, recurses := true, apart := false }
def FnExactHandOnSaid : Prop := fnExactHandOnRow.holds Try.pinned (OpenSpec.ofChange fnExactHandOnSpec)

/-- ITS FALSE NEIGHBOUR: 'it returns false'. Refute it at one input. -/
def fnExactHandOnWrong : ChangeSpec := { name := "fnExactHandOn", fn := fun _ => fun
  | [d] => { results := [.lit (.bool false)], args := [d] }
  | _ => none }
def FnExactHandOnWrongFalsely : Prop := fnExactHandOnRow.holds Try.pinned (OpenSpec.ofChange fnExactHandOnWrong)

/-- 'laws.FnShift': WHATEVER THE INPUT: true; the input reads as it did. -/
def fnShiftSpec : ChangeSpec := { name := "fnShift", fn := fun _ => fun
  | [d1, d2] => { results := [.lit (.bool true)], args := [d1, d2] }
  | _ => none }
def fnShiftRow : OpenClaim := { program := "ytgmdiiajmbdnfaa", sum := "b3e2500ac91ef0ae6d4e781c5eabcff370559a81f9c1bf9a63195f051e8b722d", func := "loop.example/g00339/laws.FnShift", spec := "fnShift", unfollowed := true, recurses := true, apart := false }
def FnShiftSaid : Prop := fnShiftRow.holds Try.pinned (OpenSpec.ofChange fnShiftSpec)

/-- ITS FALSE NEIGHBOUR: 'it returns false'. Refute it at one input. -/
def fnShiftWrong : ChangeSpec := { name := "fnShift", fn := fun _ => fun
  | [d1, d2] => { results := [.lit (.bool false)], args := [d1, d2] }
  | _ => none }
def FnShiftWrongFalsely : Prop := fnShiftRow.holds Try.pinned (OpenSpec.ofChange fnShiftWrong)

/- THE SECOND FORM. 'bulk': how many values and letters a reading holds, each counted each time it is reached (what is shared counts as often as it is met; a slice's spare places count too). A statement '..UptoSaid' is the law's where the arguments, and the package variables that the reading takes, are together of bulk at most 1048576: NARROWER than '..Said'. Prove '..Said' where nothing that the law and all that it calls make is longer than what came in: it says more and counts as full. Else prove '..UptoSaid'. A law counts once. -/
mutual
def uptoBulk {H : Type} : DataW H → Nat
  | .lit (.string bytes) => bytes.length + 1
  | .lit _ => 1
  | .nil => 1
  | .ptr d => uptoBulk d + 1
  | .slice elems spare => uptoBulkAll elems + uptoBulkAll spare + 1
  | .agg parts => uptoBulkAll parts + 1
  | .iface _ d => uptoBulk d + 1
  | .map entries => uptoBulkEntries entries + 1
  | .held _ => 1
def uptoBulkAll {H : Type} : List (DataW H) → Nat
  | [] => 0
  | d :: r => uptoBulk d + uptoBulkAll r
def uptoBulkEntries {H : Type} : List (Lit × DataW H) → Nat
  | [] => 0
  | x :: r => uptoBulkEntry x + uptoBulkEntries r
def uptoBulkEntry {H : Type} : Lit × DataW H → Nat
  | (.string bytes, d) => bytes.length + uptoBulk d + 1
  | (_, d) => uptoBulk d + 1
 end
def uptoSmall : (H : Type) → List (DataW H) → Bool := fun _ ds => decide (uptoBulkAll ds ≤ 1048576)
def OpenSpec.upto (s : _root_.Go.ChangeSpec) : _root_.Go.OpenSpec := { _root_.Go.OpenSpec.ofChange s with cond := some uptoSmall }

/-- 'laws.FnHandedShape', WHERE WHAT IT READS IS OF BULK AT MOST 1048576: true; the input reads as it did. -/
def fnHandedShapeUptoRow : OpenClaim := { program := "ytgmdiiajmbdnfaa", sum := "b3e2500ac91ef0ae6d4e781c5eabcff370559a81f9c1bf9a63195f051e8b722d", func := "loop.example/g00339/laws.FnHandedShape", spec := "fnHandedShape", unfollowed := true, recurses := true, apart := false, narrowed := true }
def FnHandedShapeUptoSaid : Prop := fnHandedShapeUptoRow.holds Try.pinned (OpenSpec.upto fnHandedShapeSpec)

/-- 'laws.FnExactIsValue', WHERE WHAT IT READS IS OF BULK AT MOST 1048576: true; the input reads as it did. -/
def fnExactIsValueUptoRow : OpenClaim := { program := "ytgmdiiajmbdnfaa", sum := "b3e2500ac91ef0ae6d4e781c5eabcff370559a81f9c1bf9a63195f051e8b722d", func := "loop.example/g00339/laws.FnExactIsValue", spec := "fnExactIsValue", recurses := true, apart := false, narrowed := true }
def FnExactIsValueUptoSaid : Prop := fnExactIsValueUptoRow.holds Try.pinned (OpenSpec.upto fnExactIsValueSpec)

/-- 'laws.FnExactCallStep', WHERE WHAT IT READS IS OF BULK AT MOST 1048576: true; the input reads as it did. -/
def fnExactCallStepUptoRow : OpenClaim := { program := "ytgmdiiajmbdnfaa", sum := "b3e2500ac91ef0ae6d4e781c5eabcff370559a81f9c1bf9a63195f051e8b722d", func := "loop.example/g00339/laws.FnExactCallStep", spec := "fnExactCallStep", unfollowed := true, recurses := true, apart := false, narrowed := true }
def FnExactCallStepUptoSaid : Prop := fnExactCallStepUptoRow.holds Try.pinned (OpenSpec.upto fnExactCallStepSpec)

/-- 'laws.FnMissed', WHERE WHAT IT READS IS OF BULK AT MOST 1048576: true; the input reads as it did. -/
def fnMissedUptoRow : OpenClaim := { program := "ytgmdiiajmbdnfaa", sum := "b3e2500ac91ef0ae6d4e781c5eabcff370559a81f9c1bf9a63195f051e8b722d", func := "loop.example/g00339/laws.FnMissed", spec := "fnMissed", unfollowed := true, recurses := true, apart := false, narrowed := true }
def FnMissedUptoSaid : Prop := fnMissedUptoRow.holds Try.pinned (OpenSpec.upto fnMissedSpec)

/-- 'laws.FnExactShiftTerm', WHERE WHAT IT READS IS OF BULK AT MOST 1048576: true; the input reads as it did. -/
def fnExactShiftTermUptoRow : OpenClaim := { program := "ytgmdiiajmbdnfaa", sum := "b3e2500ac91ef0ae6d4e781c5eabcff370559a81f9c1bf9a63195f051e8b722d", func := "loop.example/g00339/laws.FnExactShiftTerm", spec := "fnExactShiftTerm", unfollowed := true, recurses := true, apart := false, narrowed := true }
def FnExactShiftTermUptoSaid : Prop := fnExactShiftTermUptoRow.holds Try.pinned (OpenSpec.upto fnExactShiftTermSpec)

/-- 'laws.FnMeets', WHERE WHAT IT READS IS OF BULK AT MOST 1048576: true; the input reads as it did. -/
def fnMeetsUptoRow : OpenClaim := { program := "ytgmdiiajmbdnfaa", sum := "b3e2500ac91ef0ae6d4e781c5eabcff370559a81f9c1bf9a63195f051e8b722d", func := "loop.example/g00339/laws.FnMeets", spec := "fnMeets", unfollowed := true, recurses := true, apart := false, narrowed := true }
def FnMeetsUptoSaid : Prop := fnMeetsUptoRow.holds Try.pinned (OpenSpec.upto fnMeetsSpec)

/-- 'laws.FnExactHandedSize', WHERE WHAT IT READS IS OF BULK AT MOST 1048576: true; the input reads as it did. -/
def fnExactHandedSizeUptoRow : OpenClaim := { program := "ytgmdiiajmbdnfaa", sum := "b3e2500ac91ef0ae6d4e781c5eabcff370559a81f9c1bf9a63195f051e8b722d", func := "loop.example/g00339/laws.FnExactHandedSize", spec := "fnExactHandedSize", unfollowed := true, recurses := true, apart := false, narrowed := true }
def FnExactHandedSizeUptoSaid : Prop := fnExactHandedSizeUptoRow.holds Try.pinned (OpenSpec.upto fnExactHandedSizeSpec)

/-- 'laws.FnSubst', WHERE WHAT IT READS IS OF BULK AT MOST 1048576: true; the input reads as it did. -/
def fnSubstUptoRow : OpenClaim := { program := "ytgmdiiajmbdnfaa", sum := "b3e2500ac91ef0ae6d4e781c5eabcff370559a81f9c1bf9a63195f051e8b722d", func := "loop.example/g00339/laws.FnSubst", spec := "fnSubst", unfollowed := true, recurses := true, apart := false, narrowed := true }
def FnSubstUptoSaid : Prop := fnSubstUptoRow.holds Try.pinned (OpenSpec.upto fnSubstSpec)

/-- 'laws.FnExactHandOn', WHERE WHAT IT READS IS OF BULK AT MOST 1048576: true; the input reads as it did. -/
def fnExactHandOnUptoRow : OpenClaim := { program := "ytgmdiiajmbdnfaa", sum := "b3e2500ac91ef0ae6d4e781c5eabcff370559a81f9c1bf9a63195f051e8b722d", func := "loop.example/g00339/laws.FnExactHandOn", spec := "fnExactHandOn", unfollowed := true, recurses := true, apart := false, narrowed := true }
def FnExactHandOnUptoSaid : Prop := fnExactHandOnUptoRow.holds Try.pinned (OpenSpec.upto fnExactHandOnSpec)

/-- 'laws.FnShift', WHERE WHAT IT READS IS OF BULK AT MOST 1048576: true; the input reads as it did. -/
def fnShiftUptoRow : OpenClaim := { program := "ytgmdiiajmbdnfaa", sum := "b3e2500ac91ef0ae6d4e781c5eabcff370559a81f9c1bf9a63195f051e8b722d", func := "loop.example/g00339/laws.FnShift", spec := "fnShift", unfollowed := true, recurses := true, apart := false, narrowed := true }
def FnShiftUptoSaid : Prop := fnShiftUptoRow.holds Try.pinned (OpenSpec.upto fnShiftSpec)

end Rows
end Go.Proofs.Ytgmdiiajmbdnfaa
