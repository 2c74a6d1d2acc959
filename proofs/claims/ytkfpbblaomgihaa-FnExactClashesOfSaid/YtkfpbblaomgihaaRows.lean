/-
  No cell of these rows narrows 'for every input' (looked for: loops, veiled, ifaces, maps, wideKeys, modest, calm, conditions, laid).
  DERIVED. THE GIVEN ROWS OF THIS SEAT. 9 by the template 'for every input the law returns true; each argument reads behind the call as it read before'; 0 by the template 'total and deterministic' (their statements: YtkfpbblaomgihaaTotals.lean).
  GIVEN WITH THE SEED: the statements are not yours to turn. If you find one false, say at which input.
  Laid BY PROGRAM, IN A SANDBOX (cutbox-rows.mjs): the forced cells as the released guide's own fill.sh prints them over the translation 2d9e86abbe909905… (all of the seat's roots in one cut). By AI agents, Wed Nov 11 2026. No macro, syntax, notation, axiom, sorry.
-/
import Derived.Test.YtkfpbblaomgihaaChecked
import GoSem.Claim
import GoSem.ClaimJoined
import GoSem.ClaimMapViews
import Derived.JoinedTies
import Derived.KernelRfl
namespace Go.Proofs.Ytkfpbblaomgihaa
/- THE CELL 'sum', in the pinned program and in every row, IS THE sha256 OF THE DUMP (.gsa) THAT YtkfpbblaomgihaaProg.lean LOADS. Nothing in Lean hashes anything: it is a label: what it is worth is what the hold of that sum in a sandbox is worth. -/
noncomputable def Try.pinned : Pinned := { name := "ytkfpbblaomgihaa", sum := "2d9e86abbe90990562c6478eafbc5c2889970dc742e29eea80acf57795b1687c", checked := Try.checked }
namespace Rows
def none {H : Type} : Left H := { results := [], args := [] }

/-- 'laws.FnExactGoodFlow': WHATEVER THE INPUT: true; the input reads as it did. -/
def fnExactGoodFlowSpec : ChangeSpec := { name := "fnExactGoodFlow", fn := fun _ => fun
  | [d] => { results := [.lit (.bool true)], args := [d] }
  | _ => none }
def fnExactGoodFlowRow : OpenClaim := { program := "ytkfpbblaomgihaa", sum := "2d9e86abbe90990562c6478eafbc5c2889970dc742e29eea80acf57795b1687c", func := "loop.example/g00339/laws.FnExactGoodFlow", spec := "fnExactGoodFlow", unfollowed := true, recurses := true, apart := false }
def FnExactGoodFlowSaid : Prop := fnExactGoodFlowRow.holds Try.pinned (OpenSpec.ofChange fnExactGoodFlowSpec)

/-- ITS FALSE NEIGHBOUR: 'it returns false'. Refute it at one input. -/
def fnExactGoodFlowWrong : ChangeSpec := { name := "fnExactGoodFlow", fn := fun _ => fun
  | [d] => { results := [.lit (.bool false)], args := [d] }
  | _ => none }
def FnExactGoodFlowWrongFalsely : Prop := fnExactGoodFlowRow.holds Try.pinned (OpenSpec.ofChange fnExactGoodFlowWrong)

/-- 'laws.FnExactNeededOn': WHATEVER THE INPUT: true; the input reads as it did. -/
def fnExactNeededOnSpec : ChangeSpec := { name := "fnExactNeededOn", fn := fun _ => fun
  | [d1, d2, d3] => { results := [.lit (.bool true)], args := [d1, d2, d3] }
  | _ => none }
def fnExactNeededOnRow : OpenClaim := { program := "ytkfpbblaomgihaa", sum := "2d9e86abbe90990562c6478eafbc5c2889970dc742e29eea80acf57795b1687c", func := "loop.example/g00339/laws.FnExactNeededOn", spec := "fnExactNeededOn", unfollowed := true, recurses := true, apart := false }
def FnExactNeededOnSaid : Prop := fnExactNeededOnRow.holds Try.pinned (OpenSpec.ofChange fnExactNeededOnSpec)

/-- ITS FALSE NEIGHBOUR: 'it returns false'. Refute it at one input. -/
def fnExactNeededOnWrong : ChangeSpec := { name := "fnExactNeededOn", fn := fun _ => fun
  | [d1, d2, d3] => { results := [.lit (.bool false)], args := [d1, d2, d3] }
  | _ => none }
def FnExactNeededOnWrongFalsely : Prop := fnExactNeededOnRow.holds Try.pinned (OpenSpec.ofChange fnExactNeededOnWrong)

/-- 'laws.FnExactIsFixed': WHATEVER THE INPUT: true; the input reads as it did. -/
def fnExactIsFixedSpec : ChangeSpec := { name := "fnExactIsFixed", fn := fun _ => fun
  | [d1, d2] => { results := [.lit (.bool true)], args := [d1, d2] }
  | _ => none }
def fnExactIsFixedRow : OpenClaim := { program := "ytkfpbblaomgihaa", sum := "2d9e86abbe90990562c6478eafbc5c2889970dc742e29eea80acf57795b1687c", func := "loop.example/g00339/laws.FnExactIsFixed", spec := "fnExactIsFixed", unfollowed := true, recurses := true, apart := false }
def FnExactIsFixedSaid : Prop := fnExactIsFixedRow.holds Try.pinned (OpenSpec.ofChange fnExactIsFixedSpec)

/-- ITS FALSE NEIGHBOUR: 'it returns false'. Refute it at one input. -/
def fnExactIsFixedWrong : ChangeSpec := { name := "fnExactIsFixed", fn := fun _ => fun
  | [d1, d2] => { results := [.lit (.bool false)], args := [d1, d2] }
  | _ => none }
def FnExactIsFixedWrongFalsely : Prop := fnExactIsFixedRow.holds Try.pinned (OpenSpec.ofChange fnExactIsFixedWrong)

/-- 'laws.FnExactLiveIn': WHATEVER THE INPUT: true; the input reads as it did. -/
def fnExactLiveInSpec : ChangeSpec := { name := "fnExactLiveIn", fn := fun _ => fun
  | [d] => { results := [.lit (.bool true)], args := [d] }
  | _ => none }
def fnExactLiveInRow : OpenClaim := { program := "ytkfpbblaomgihaa", sum := "2d9e86abbe90990562c6478eafbc5c2889970dc742e29eea80acf57795b1687c", func := "loop.example/g00339/laws.FnExactLiveIn", spec := "fnExactLiveIn", unfollowed := true, recurses := true, apart := false }
def FnExactLiveInSaid : Prop := fnExactLiveInRow.holds Try.pinned (OpenSpec.ofChange fnExactLiveInSpec)

/-- ITS FALSE NEIGHBOUR: 'it returns false'. Refute it at one input. -/
def fnExactLiveInWrong : ChangeSpec := { name := "fnExactLiveIn", fn := fun _ => fun
  | [d] => { results := [.lit (.bool false)], args := [d] }
  | _ => none }
def FnExactLiveInWrongFalsely : Prop := fnExactLiveInRow.holds Try.pinned (OpenSpec.ofChange fnExactLiveInWrong)

/-- 'laws.FnLive': WHATEVER THE INPUT: true; the input reads as it did. -/
def fnLiveSpec : ChangeSpec := { name := "fnLive", fn := fun _ => fun
  | [d1, d2] => { results := [.lit (.bool true)], args := [d1, d2] }
  | _ => none }
def fnLiveRow : OpenClaim := { program := "ytkfpbblaomgihaa", sum := "2d9e86abbe90990562c6478eafbc5c2889970dc742e29eea80acf57795b1687c", func := "loop.example/g00339/laws.FnLive", spec := "fnLive", unfollowed := true, recurses := true, apart := false }
def FnLiveSaid : Prop := fnLiveRow.holds Try.pinned (OpenSpec.ofChange fnLiveSpec)

/-- ITS FALSE NEIGHBOUR: 'it returns false'. Refute it at one input. -/
def fnLiveWrong : ChangeSpec := { name := "fnLive", fn := fun _ => fun
  | [d1, d2] => { results := [.lit (.bool false)], args := [d1, d2] }
  | _ => none }
def FnLiveWrongFalsely : Prop := fnLiveRow.holds Try.pinned (OpenSpec.ofChange fnLiveWrong)

/-- 'laws.FnExactDeadSets': WHATEVER THE INPUT: true; the input reads as it did. -/
def fnExactDeadSetsSpec : ChangeSpec := { name := "fnExactDeadSets", fn := fun _ => fun
  | [d] => { results := [.lit (.bool true)], args := [d] }
  | _ => none }
def fnExactDeadSetsRow : OpenClaim := { program := "ytkfpbblaomgihaa", sum := "2d9e86abbe90990562c6478eafbc5c2889970dc742e29eea80acf57795b1687c", func := "loop.example/g00339/laws.FnExactDeadSets", spec := "fnExactDeadSets", unfollowed := true, recurses := true, apart := false }
def FnExactDeadSetsSaid : Prop := fnExactDeadSetsRow.holds Try.pinned (OpenSpec.ofChange fnExactDeadSetsSpec)

/-- ITS FALSE NEIGHBOUR: 'it returns false'. Refute it at one input. -/
def fnExactDeadSetsWrong : ChangeSpec := { name := "fnExactDeadSets", fn := fun _ => fun
  | [d] => { results := [.lit (.bool false)], args := [d] }
  | _ => none }
def FnExactDeadSetsWrongFalsely : Prop := fnExactDeadSetsRow.holds Try.pinned (OpenSpec.ofChange fnExactDeadSetsWrong)

/-- 'laws.FnExactLiveOut': WHATEVER THE INPUT: true; the input reads as it did. -/
def fnExactLiveOutSpec : ChangeSpec := { name := "fnExactLiveOut", fn := fun _ => fun
  | [d] => { results := [.lit (.bool true)], args := [d] }
  | _ => none }
def fnExactLiveOutRow : OpenClaim := { program := "ytkfpbblaomgihaa", sum := "2d9e86abbe90990562c6478eafbc5c2889970dc742e29eea80acf57795b1687c", func := "loop.example/g00339/laws.FnExactLiveOut", spec := "fnExactLiveOut", unfollowed := true, recurses := true, apart := false }
def FnExactLiveOutSaid : Prop := fnExactLiveOutRow.holds Try.pinned (OpenSpec.ofChange fnExactLiveOutSpec)

/-- ITS FALSE NEIGHBOUR: 'it returns false'. Refute it at one input. -/
def fnExactLiveOutWrong : ChangeSpec := { name := "fnExactLiveOut", fn := fun _ => fun
  | [d] => { results := [.lit (.bool false)], args := [d] }
  | _ => none }
def FnExactLiveOutWrongFalsely : Prop := fnExactLiveOutRow.holds Try.pinned (OpenSpec.ofChange fnExactLiveOutWrong)

/-- 'laws.FnExactClashesOf': WHATEVER THE INPUT: true; the input reads as it did. -/
def fnExactClashesOfSpec : ChangeSpec := { name := "fnExactClashesOf", fn := fun _ => fun
  | [d] => { results := [.lit (.bool true)], args := [d] }
  | _ => none }
def fnExactClashesOfRow : OpenClaim := { program := "ytkfpbblaomgihaa", sum := "2d9e86abbe90990562c6478eafbc5c2889970dc742e29eea80acf57795b1687c", func := "loop.example/g00339/laws.FnExactClashesOf", spec := "fnExactClashesOf", unfollowed := true, recurses := true, apart := false }
def FnExactClashesOfSaid : Prop := fnExactClashesOfRow.holds Try.pinned (OpenSpec.ofChange fnExactClashesOfSpec)

/-- ITS FALSE NEIGHBOUR: 'it returns false'. Refute it at one input. -/
def fnExactClashesOfWrong : ChangeSpec := { name := "fnExactClashesOf", fn := fun _ => fun
  | [d] => { results := [.lit (.bool false)], args := [d] }
  | _ => none }
def FnExactClashesOfWrongFalsely : Prop := fnExactClashesOfRow.holds Try.pinned (OpenSpec.ofChange fnExactClashesOfWrong)

/-- 'laws.FnFixed': WHATEVER THE INPUT: true; the input reads as it did. -/
def fnFixedSpec : ChangeSpec := { name := "fnFixed", fn := fun _ => fun
  | [d1, d2] => { results := [.lit (.bool true)], args := [d1, d2] }
  | _ => none }
def fnFixedRow : OpenClaim := { program := "ytkfpbblaomgihaa", sum := "2d9e86abbe90990562c6478eafbc5c2889970dc742e29eea80acf57795b1687c", func := "loop.example/g00339/laws.FnFixed", spec := "fnFixed", unfollowed := true, recurses := true, apart := false }
def FnFixedSaid : Prop := fnFixedRow.holds Try.pinned (OpenSpec.ofChange fnFixedSpec)

/-- ITS FALSE NEIGHBOUR: 'it returns false'. Refute it at one input. -/
def fnFixedWrong : ChangeSpec := { name := "fnFixed", fn := fun _ => fun
  | [d1, d2] => { results := [.lit (.bool false)], args := [d1, d2] }
  | _ => none }
def FnFixedWrongFalsely : Prop := fnFixedRow.holds Try.pinned (OpenSpec.ofChange fnFixedWrong)

/- THE SECOND FORM. 'bulk': how many values and letters a reading holds, each counted each time it is reached (what is shared counts as often as it is met; a slice's spare places count too). A statement '..UptoSaid' is the law's where the arguments, and the package variables that the reading takes, are together of bulk at most 1048576: NARROWER than '..Said'. Prove '..Said' where nothing that the law and all that it calls make is longer than what came in: it says more and counts as full. Else prove '..UptoSaid'. A law counts once. -/
mutual
def uptoBulk {H : Type} : DataW H → Nat
  | .lit (.string bytes) => bytes.length + 1
  | .lit _ => 1
  | .nil => 1
  | .ptr d => uptoBulk d + 1
  | .slice elems spare => uptoBulkAll elems + uptoBulkAll spare + 1
  | .agg parts => uptoBulkAll parts + 1
  | .iface _ d => uptoBulk d + 1
  | .map entries => uptoBulkEntries entries + 1
  | .held _ => 1
def uptoBulkAll {H : Type} : List (DataW H) → Nat
  | [] => 0
  | d :: r => uptoBulk d + uptoBulkAll r
def uptoBulkEntries {H : Type} : List (Lit × DataW H) → Nat
  | [] => 0
  | x :: r => uptoBulkEntry x + uptoBulkEntries r
def uptoBulkEntry {H : Type} : Lit × DataW H → Nat
  | (.string bytes, d) => bytes.length + uptoBulk d + 1
  | (_, d) => uptoBulk d + 1
 end
def uptoSmall : (H : Type) → List (DataW H) → Bool := fun _ ds => decide (uptoBulkAll ds ≤ 1048576)
def OpenSpec.upto (s : _root_.Go.ChangeSpec) : _root_.Go.OpenSpec := { _root_.Go.OpenSpec.ofChange s with cond := some uptoSmall }

/-- 'laws.FnExactGoodFlow', WHERE WHAT IT READS IS OF BULK AT MOST 1048576: true; the input reads as it did. -/
def fnExactGoodFlowUptoRow : OpenClaim := { program := "ytkfpbblaomgihaa", sum := "2d9e86abbe90990562c6478eafbc5c2889970dc742e29eea80acf57795b1687c", func := "loop.example/g00339/laws.FnExactGoodFlow", spec := "fnExactGoodFlow", unfollowed := true, recurses := true, apart := false, narrowed := true }
def FnExactGoodFlowUptoSaid : Prop := fnExactGoodFlowUptoRow.holds Try.pinned (OpenSpec.upto fnExactGoodFlowSpec)

/-- 'laws.FnExactNeededOn', WHERE WHAT IT READS IS OF BULK AT MOST 1048576: true; the input reads as it did. -/
def fnExactNeededOnUptoRow : OpenClaim := { program := "ytkfpbblaomgihaa", sum := "2d9e86abbe90990562c6478eafbc5c2889970dc742e29eea80acf57795b1687c", func := "loop.example/g00339/laws.FnExactNeededOn", spec := "fnExactNeededOn", unfollowed := true, recurses := true, apart := false, narrowed := true }
def FnExactNeededOnUptoSaid : Prop := fnExactNeededOnUptoRow.holds Try.pinned (OpenSpec.upto fnExactNeededOnSpec)

/-- 'laws.FnExactIsFixed', WHERE WHAT IT READS IS OF BULK AT MOST 1048576: true; the input reads as it did. -/
def fnExactIsFixedUptoRow : OpenClaim := { program := "ytkfpbblaomgihaa", sum := "2d9e86abbe90990562c6478eafbc5c2889970dc742e29eea80acf57795b1687c", func := "loop.example/g00339/laws.FnExactIsFixed", spec := "fnExactIsFixed", unfollowed := true, recurses := true, apart := false, narrowed := true }
def FnExactIsFixedUptoSaid : Prop := fnExactIsFixedUptoRow.holds Try.pinned (OpenSpec.upto fnExactIsFixedSpec)

/-- 'laws.FnExactLiveIn', WHERE WHAT IT READS IS OF BULK AT MOST 1048576: true; the input reads as it did. -/
def fnExactLiveInUptoRow : OpenClaim := { program := "ytkfpbblaomgihaa", sum := "2d9e86abbe90990562c6478eafbc5c2889970dc742e29eea80acf57795b1687c", func := "loop.example/g00339/laws.FnExactLiveIn", spec := "fnExactLiveIn", unfollowed := true, recurses := true, apart := false, narrowed := true }
def FnExactLiveInUptoSaid : Prop := fnExactLiveInUptoRow.holds Try.pinned (OpenSpec.upto fnExactLiveInSpec)

/-- 'laws.FnLive', WHERE WHAT IT READS IS OF BULK AT MOST 1048576: true; the input reads as it did. -/
def fnLiveUptoRow : OpenClaim := { program := "ytkfpbblaomgihaa", sum := "2d9e86abbe90990562c6478eafbc5c2889970dc742e29eea80acf57795b1687c", func := "loop.example/g00339/laws.FnLive", spec := "fnLive", unfollowed := true, recurses := true, apart := false, narrowed := true }
def FnLiveUptoSaid : Prop := fnLiveUptoRow.holds Try.pinned (OpenSpec.upto fnLiveSpec)

/-- 'laws.FnExactDeadSets', WHERE WHAT IT READS IS OF BULK AT MOST 1048576: true; the input reads as it did. -/
def fnExactDeadSetsUptoRow : OpenClaim := { program := "ytkfpbblaomgihaa", sum := "2d9e86abbe90990562c6478eafbc5c2889970dc742e29eea80acf57795b1687c", func := "loop.example/g00339/laws.FnExactDeadSets", spec := "fnExactDeadSets", unfollowed := true, recurses := true, apart := false, narrowed := true }
def FnExactDeadSetsUptoSaid : Prop := fnExactDeadSetsUptoRow.holds Try.pinned (OpenSpec.upto fnExactDeadSetsSpec)

/-- 'laws.FnExactLiveOut', WHERE WHAT IT READS IS OF BULK AT MOST 1048576: true; the input reads as it did. -/
def fnExactLiveOutUptoRow : OpenClaim := { program := "ytkfpbblaomgihaa", sum := "2d9e86abbe90990562c6478eafbc5c2889970dc742e29eea80acf57795b1687c", func := "loop.example/g00339/laws.FnExactLiveOut", spec := "fnExactLiveOut", unfollowed := true, recurses := true, apart := false, narrowed := true }
def FnExactLiveOutUptoSaid : Prop := fnExactLiveOutUptoRow.holds Try.pinned (OpenSpec.upto fnExactLiveOutSpec)

/-- 'laws.FnExactClashesOf', WHERE WHAT IT READS IS OF BULK AT MOST 1048576: true; the input reads as it did. -/
def fnExactClashesOfUptoRow : OpenClaim := { program := "ytkfpbblaomgihaa", sum := "2d9e86abbe90990562c6478eafbc5c2889970dc742e29eea80acf57795b1687c", func := "loop.example/g00339/laws.FnExactClashesOf", spec := "fnExactClashesOf", unfollowed := true, recurses := true, apart := false, narrowed := true }
def FnExactClashesOfUptoSaid : Prop := fnExactClashesOfUptoRow.holds Try.pinned (OpenSpec.upto fnExactClashesOfSpec)

/-- 'laws.FnFixed', WHERE WHAT IT READS IS OF BULK AT MOST 1048576: true; the input reads as it did. -/
def fnFixedUptoRow : OpenClaim := { program := "ytkfpbblaomgihaa", sum := "2d9e86abbe90990562c6478eafbc5c2889970dc742e29eea80acf57795b1687c", func := "loop.example/g00339/laws.FnFixed", spec := "fnFixed", unfollowed := true, recurses := true, apart := false, narrowed := true }
def FnFixedUptoSaid : Prop := fnFixedUptoRow.holds Try.pinned (OpenSpec.upto fnFixedSpec)

end Rows
end Go.Proofs.Ytkfpbblaomgihaa
