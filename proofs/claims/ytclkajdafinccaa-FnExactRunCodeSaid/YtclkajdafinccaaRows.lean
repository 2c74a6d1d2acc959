/-
  No cell of these rows narrows 'for every input' (looked for: loops, veiled, ifaces, maps, wideKeys, modest, calm, conditions, laid).
  DERIVED. THE GIVEN ROWS OF THIS SEAT. 11 by the template 'for every input the law returns true; each argument reads behind the call as it read before'; 0 by the template 'total and deterministic' (their statements: YtclkajdafinccaaTotals.lean).
  GIVEN WITH THE SEED: the statements are not yours to turn. If you find one false, say at which input.
  Laid BY PROGRAM, IN A SANDBOX (cutbox-rows.mjs): the forced cells as the released guide's own fill.sh prints them over the translation 1eb8fa634bc0e4fd… (all of the seat's roots in one cut). By AI agents, Wed Nov 11 2026. No macro, syntax, notation, axiom, sorry.
-/
import Derived.Test.YtclkajdafinccaaChecked
import GoSem.Claim
import GoSem.ClaimJoined
import GoSem.ClaimMapViews
import Derived.JoinedTies
import Derived.KernelRfl
namespace Go.Proofs.Ytclkajdafinccaa
/- THE CELL 'sum', in the pinned program and in every row, IS THE sha256 OF THE DUMP (.gsa) THAT YtclkajdafinccaaProg.lean LOADS. Nothing in Lean hashes anything: it is a label: what it is worth is what the hold of that sum in a sandbox is worth. -/
noncomputable def Try.pinned : Pinned := { name := "ytclkajdafinccaa", sum := "1eb8fa634bc0e4fd5243caee8e3431b1ec7b8ee6e9490855dd74eefc8fcd85db", checked := Try.checked }
namespace Rows
def none {H : Type} : Left H := { results := [], args := [] }

/-- 'laws.FnExactGoodSpans': WHATEVER THE INPUT: true; the input reads as it did. -/
def fnExactGoodSpansSpec : ChangeSpec := { name := "fnExactGoodSpans", fn := fun _ => fun
  | [d] => { results := [.lit (.bool true)], args := [d] }
  | _ => none }
def fnExactGoodSpansRow : OpenClaim := { program := "ytclkajdafinccaa", sum := "1eb8fa634bc0e4fd5243caee8e3431b1ec7b8ee6e9490855dd74eefc8fcd85db", func := "loop.example/g00339/laws.FnExactGoodSpans", spec := "fnExactGoodSpans", unfollowed := true, recurses := true, apart := false }
def FnExactGoodSpansSaid : Prop := fnExactGoodSpansRow.holds Try.pinned (OpenSpec.ofChange fnExactGoodSpansSpec)

/-- ITS FALSE NEIGHBOUR: 'it returns false'. Refute it at one input. -/
def fnExactGoodSpansWrong : ChangeSpec := { name := "fnExactGoodSpans", fn := fun _ => fun
  | [d] => { results := [.lit (.bool false)], args := [d] }
  | _ => none }
def FnExactGoodSpansWrongFalsely : Prop := fnExactGoodSpansRow.holds Try.pinned (OpenSpec.ofChange fnExactGoodSpansWrong)

/-- 'laws.FnExactMostAt': WHATEVER THE INPUT: true; the input reads as it did. -/
def fnExactMostAtSpec : ChangeSpec := { name := "fnExactMostAt", fn := fun _ => fun
  | [d] => { results := [.lit (.bool true)], args := [d] }
  | _ => none }
def fnExactMostAtRow : OpenClaim := { program := "ytclkajdafinccaa", sum := "1eb8fa634bc0e4fd5243caee8e3431b1ec7b8ee6e9490855dd74eefc8fcd85db", func := "loop.example/g00339/laws.FnExactMostAt", spec := "fnExactMostAt", unfollowed := true, recurses := true, apart := false }
def FnExactMostAtSaid : Prop := fnExactMostAtRow.holds Try.pinned (OpenSpec.ofChange fnExactMostAtSpec)

/-- ITS FALSE NEIGHBOUR: 'it returns false'. Refute it at one input. -/
def fnExactMostAtWrong : ChangeSpec := { name := "fnExactMostAt", fn := fun _ => fun
  | [d] => { results := [.lit (.bool false)], args := [d] }
  | _ => none }
def FnExactMostAtWrongFalsely : Prop := fnExactMostAtRow.holds Try.pinned (OpenSpec.ofChange fnExactMostAtWrong)

/-- 'laws.FnExactGoodTree': WHATEVER THE INPUT: true; the input reads as it did. -/
def fnExactGoodTreeSpec : ChangeSpec := { name := "fnExactGoodTree", fn := fun _ => fun
  | [d] => { results := [.lit (.bool true)], args := [d] }
  | _ => none }
def fnExactGoodTreeRow : OpenClaim := { program := "ytclkajdafinccaa", sum := "1eb8fa634bc0e4fd5243caee8e3431b1ec7b8ee6e9490855dd74eefc8fcd85db", func := "loop.example/g00339/laws.FnExactGoodTree", spec := "fnExactGoodTree", recurses := true, apart := false }
def FnExactGoodTreeSaid : Prop := fnExactGoodTreeRow.holds Try.pinned (OpenSpec.ofChange fnExactGoodTreeSpec)

/-- ITS FALSE NEIGHBOUR: 'it returns false'. Refute it at one input. -/
def fnExactGoodTreeWrong : ChangeSpec := { name := "fnExactGoodTree", fn := fun _ => fun
  | [d] => { results := [.lit (.bool false)], args := [d] }
  | _ => none }
def FnExactGoodTreeWrongFalsely : Prop := fnExactGoodTreeRow.holds Try.pinned (OpenSpec.ofChange fnExactGoodTreeWrong)

/-- 'laws.FnExactPlacesFor': WHATEVER THE INPUT: true; the input reads as it did. -/
def fnExactPlacesForSpec : ChangeSpec := { name := "fnExactPlacesFor", fn := fun _ => fun
  | [d] => { results := [.lit (.bool true)], args := [d] }
  | _ => none }
def fnExactPlacesForRow : OpenClaim := { program := "ytclkajdafinccaa", sum := "1eb8fa634bc0e4fd5243caee8e3431b1ec7b8ee6e9490855dd74eefc8fcd85db", func := "loop.example/g00339/laws.FnExactPlacesFor", spec := "fnExactPlacesFor", recurses := true, apart := false }
def FnExactPlacesForSaid : Prop := fnExactPlacesForRow.holds Try.pinned (OpenSpec.ofChange fnExactPlacesForSpec)

/-- ITS FALSE NEIGHBOUR: 'it returns false'. Refute it at one input. -/
def fnExactPlacesForWrong : ChangeSpec := { name := "fnExactPlacesFor", fn := fun _ => fun
  | [d] => { results := [.lit (.bool false)], args := [d] }
  | _ => none }
def FnExactPlacesForWrongFalsely : Prop := fnExactPlacesForRow.holds Try.pinned (OpenSpec.ofChange fnExactPlacesForWrong)

/-- 'laws.FnExactRunCode': WHATEVER THE INPUT: true; the input reads as it did. -/
def fnExactRunCodeSpec : ChangeSpec := { name := "fnExactRunCode", fn := fun _ => fun
  | [d] => { results := [.lit (.bool true)], args := [d] }
  | _ => none }
def fnExactRunCodeRow : OpenClaim := { program := "ytclkajdafinccaa", sum := "1eb8fa634bc0e4fd5243caee8e3431b1ec7b8ee6e9490855dd74eefc8fcd85db", func := "loop.example/g00339/laws.FnExactRunCode", spec := "fnExactRunCode", apart := false }
def FnExactRunCodeSaid : Prop := fnExactRunCodeRow.holds Try.pinned (OpenSpec.ofChange fnExactRunCodeSpec)

/-- ITS FALSE NEIGHBOUR: 'it returns false'. Refute it at one input. -/
def fnExactRunCodeWrong : ChangeSpec := { name := "fnExactRunCode", fn := fun _ => fun
  | [d] => { results := [.lit (.bool false)], args := [d] }
  | _ => none }
def FnExactRunCodeWrongFalsely : Prop := fnExactRunCodeRow.holds Try.pinned (OpenSpec.ofChange fnExactRunCodeWrong)

/-- 'laws.FnExactValueOf': WHATEVER THE INPUT: true; the input reads as it did. -/
def fnExactValueOfSpec : ChangeSpec := { name := "fnExactValueOf", fn := fun _ => fun
  | [d] => { results := [.lit (.bool true)], args := [d] }
  | _ => none }
def fnExactValueOfRow : OpenClaim := { program := "ytclkajdafinccaa", sum := "1eb8fa634bc0e4fd5243caee8e3431b1ec7b8ee6e9490855dd74eefc8fcd85db", func := "loop.example/g00339/laws.FnExactValueOf", spec := "fnExactValueOf", recurses := true, apart := false }
def FnExactValueOfSaid : Prop := fnExactValueOfRow.holds Try.pinned (OpenSpec.ofChange fnExactValueOfSpec)

/-- ITS FALSE NEIGHBOUR: 'it returns false'. Refute it at one input. -/
def fnExactValueOfWrong : ChangeSpec := { name := "fnExactValueOf", fn := fun _ => fun
  | [d] => { results := [.lit (.bool false)], args := [d] }
  | _ => none }
def FnExactValueOfWrongFalsely : Prop := fnExactValueOfRow.holds Try.pinned (OpenSpec.ofChange fnExactValueOfWrong)

/-- 'laws.FnExactMostHeld': WHATEVER THE INPUT: true; the input reads as it did. -/
def fnExactMostHeldSpec : ChangeSpec := { name := "fnExactMostHeld", fn := fun _ => fun
  | [d] => { results := [.lit (.bool true)], args := [d] }
  | _ => none }
def fnExactMostHeldRow : OpenClaim := { program := "ytclkajdafinccaa", sum := "1eb8fa634bc0e4fd5243caee8e3431b1ec7b8ee6e9490855dd74eefc8fcd85db", func := "loop.example/g00339/laws.FnExactMostHeld", spec := "fnExactMostHeld", unfollowed := true, recurses := true, apart := false }
def FnExactMostHeldSaid : Prop := fnExactMostHeldRow.holds Try.pinned (OpenSpec.ofChange fnExactMostHeldSpec)

/-- ITS FALSE NEIGHBOUR: 'it returns false'. Refute it at one input. -/
def fnExactMostHeldWrong : ChangeSpec := { name := "fnExactMostHeld", fn := fun _ => fun
  | [d] => { results := [.lit (.bool false)], args := [d] }
  | _ => none }
def FnExactMostHeldWrongFalsely : Prop := fnExactMostHeldRow.holds Try.pinned (OpenSpec.ofChange fnExactMostHeldWrong)

/-- 'laws.FnExactCodeBy': WHATEVER THE INPUT: true; the input reads as it did. -/
def fnExactCodeBySpec : ChangeSpec := { name := "fnExactCodeBy", fn := fun _ => fun
  | [d1, d2] => { results := [.lit (.bool true)], args := [d1, d2] }
  | _ => none }
def fnExactCodeByRow : OpenClaim := { program := "ytclkajdafinccaa", sum := "1eb8fa634bc0e4fd5243caee8e3431b1ec7b8ee6e9490855dd74eefc8fcd85db", func := "loop.example/g00339/laws.FnExactCodeBy", spec := "fnExactCodeBy", unfollowed := true, recurses := true, apart := false }
def FnExactCodeBySaid : Prop := fnExactCodeByRow.holds Try.pinned (OpenSpec.ofChange fnExactCodeBySpec)

/-- ITS FALSE NEIGHBOUR: 'it returns false'. Refute it at one input. -/
def fnExactCodeByWrong : ChangeSpec := { name := "fnExactCodeBy", fn := fun _ => fun
  | [d1, d2] => { results := [.lit (.bool false)], args := [d1, d2] }
  | _ => none }
def FnExactCodeByWrongFalsely : Prop := fnExactCodeByRow.holds Try.pinned (OpenSpec.ofChange fnExactCodeByWrong)

/-- 'laws.FnExactCodeFor': WHATEVER THE INPUT: true; the input reads as it did. -/
def fnExactCodeForSpec : ChangeSpec := { name := "fnExactCodeFor", fn := fun _ => fun
  | [d] => { results := [.lit (.bool true)], args := [d] }
  | _ => none }
def fnExactCodeForRow : OpenClaim := { program := "ytclkajdafinccaa", sum := "1eb8fa634bc0e4fd5243caee8e3431b1ec7b8ee6e9490855dd74eefc8fcd85db", func := "loop.example/g00339/laws.FnExactCodeFor", spec := "fnExactCodeFor", unfollowed := true, recurses := true, apart := false }
def FnExactCodeForSaid : Prop := fnExactCodeForRow.holds Try.pinned (OpenSpec.ofChange fnExactCodeForSpec)

/-- ITS FALSE NEIGHBOUR: 'it returns false'. Refute it at one input. -/
def fnExactCodeForWrong : ChangeSpec := { name := "fnExactCodeFor", fn := fun _ => fun
  | [d] => { results := [.lit (.bool false)], args := [d] }
  | _ => none }
def FnExactCodeForWrongFalsely : Prop := fnExactCodeForRow.holds Try.pinned (OpenSpec.ofChange fnExactCodeForWrong)

/-- 'laws.FnPlaces': WHATEVER THE INPUT: true; the input reads as it did. -/
def fnPlacesSpec : ChangeSpec := { name := "fnPlaces", fn := fun _ => fun
  | [d1, d2] => { results := [.lit (.bool true)], args := [d1, d2] }
  | _ => none }
def fnPlacesRow : OpenClaim := { program := "ytclkajdafinccaa", sum := "1eb8fa634bc0e4fd5243caee8e3431b1ec7b8ee6e9490855dd74eefc8fcd85db", func := "loop.example/g00339/laws.FnPlaces", spec := "fnPlaces", unfollowed := true, recurses := true, apart := false }
def FnPlacesSaid : Prop := fnPlacesRow.holds Try.pinned (OpenSpec.ofChange fnPlacesSpec)

/-- ITS FALSE NEIGHBOUR: 'it returns false'. Refute it at one input. -/
def fnPlacesWrong : ChangeSpec := { name := "fnPlaces", fn := fun _ => fun
  | [d1, d2] => { results := [.lit (.bool false)], args := [d1, d2] }
  | _ => none }
def FnPlacesWrongFalsely : Prop := fnPlacesRow.holds Try.pinned (OpenSpec.ofChange fnPlacesWrong)

/-- 'laws.FnCodeRuns': WHATEVER THE INPUT: true; the input reads as it did. -/
def fnCodeRunsSpec : ChangeSpec := { name := "fnCodeRuns", fn := fun _ => fun
  | [d1, d2] => { results := [.lit (.bool true)], args := [d1, d2] }
  | _ => none }
def fnCodeRunsRow : OpenClaim := { program := "ytclkajdafinccaa", sum := "1eb8fa634bc0e4fd5243caee8e3431b1ec7b8ee6e9490855dd74eefc8fcd85db", func := "loop.example/g00339/laws.FnCodeRuns", spec := "fnCodeRuns", unfollowed := true, recurses := true, apart := false }
def FnCodeRunsSaid : Prop := fnCodeRunsRow.holds Try.pinned (OpenSpec.ofChange fnCodeRunsSpec)

/-- ITS FALSE NEIGHBOUR: 'it returns false'. Refute it at one input. -/
def fnCodeRunsWrong : ChangeSpec := { name := "fnCodeRuns", fn := fun _ => fun
  | [d1, d2] => { results := [.lit (.bool false)], args := [d1, d2] }
  | _ => none }
def FnCodeRunsWrongFalsely : Prop := fnCodeRunsRow.holds Try.pinned (OpenSpec.ofChange fnCodeRunsWrong)

/- THE SECOND FORM. 'bulk': how many values and letters a reading holds, each counted each time it is reached (what is shared counts as often as it is met; a slice's spare places count too). A statement '..UptoSaid' is the law's where the arguments, and the package variables that the reading takes, are together of bulk at most 1048576: NARROWER than '..Said'. Prove '..Said' where nothing that the law and all that it calls make is longer than what came in: it says more and counts as full. Else prove '..UptoSaid'. A law counts once. -/
mutual
def uptoBulk {H : Type} : DataW H → Nat
  | .lit (.string bytes) => bytes.length + 1
  | .lit _ => 1
  | .nil => 1
  | .ptr d => uptoBulk d + 1
  | .slice elems spare => uptoBulkAll elems + uptoBulkAll spare + 1
  | .agg parts => uptoBulkAll parts + 1
  | .iface _ d => uptoBulk d + 1
  | .map entries => uptoBulkEntries entries + 1
  | .held _ => 1
def uptoBulkAll {H : Type} : List (DataW H) → Nat
  | [] => 0
  | d :: r => uptoBulk d + uptoBulkAll r
def uptoBulkEntries {H : Type} : List (Lit × DataW H) → Nat
  | [] => 0
  | x :: r => uptoBulkEntry x + uptoBulkEntries r
def uptoBulkEntry {H : Type} : Lit × DataW H → Nat
  | (.string bytes, d) => bytes.length + uptoBulk d + 1
  | (_, d) => uptoBulk d + 1
 end
def uptoSmall : (H : Type) → List (DataW H) → Bool := fun _ ds => decide (uptoBulkAll ds ≤ 1048576)
def OpenSpec.upto (s : _root_.Go.ChangeSpec) : _root_.Go.OpenSpec := { _root_.Go.OpenSpec.ofChange s with cond := some uptoSmall }

/-- 'laws.FnExactGoodSpans', WHERE WHAT IT READS IS OF BULK AT MOST 1048576: true; the input reads as it did. -/
def fnExactGoodSpansUptoRow : OpenClaim := { program := "ytclkajdafinccaa", sum := "1eb8fa634bc0e4fd5243caee8e3431b1ec7b8ee6e9490855dd74eefc8fcd85db", func := "loop.example/g00339/laws.FnExactGoodSpans", spec := "fnExactGoodSpans", unfollowed := true, recurses := true, apart := false, narrowed := true }
def FnExactGoodSpansUptoSaid : Prop := fnExactGoodSpansUptoRow.holds Try.pinned (OpenSpec.upto fnExactGoodSpansSpec)

/-- 'laws.FnExactMostAt', WHERE WHAT IT READS IS OF BULK AT MOST 1048576: true; the input reads as it did. -/
def fnExactMostAtUptoRow : OpenClaim := { program := "ytclkajdafinccaa", sum := "1eb8fa634bc0e4fd5243caee8e3431b1ec7b8ee6e9490855dd74eefc8fcd85db", func := "loop.example/g00339/laws.FnExactMostAt", spec := "fnExactMostAt", unfollowed := true, recurses := true, apart := false, narrowed := true }
def FnExactMostAtUptoSaid : Prop := fnExactMostAtUptoRow.holds Try.pinned (OpenSpec.upto fnExactMostAtSpec)

/-- 'laws.FnExactGoodTree', WHERE WHAT IT READS IS OF BULK AT MOST 1048576: true; the input reads as it did. -/
def fnExactGoodTreeUptoRow : OpenClaim := { program := "ytclkajdafinccaa", sum := "1eb8fa634bc0e4fd5243caee8e3431b1ec7b8ee6e9490855dd74eefc8fcd85db", func := "loop.example/g00339/laws.FnExactGoodTree", spec := "fnExactGoodTree", recurses := true, apart := false, narrowed := true }
def FnExactGoodTreeUptoSaid : Prop := fnExactGoodTreeUptoRow.holds Try.pinned (OpenSpec.upto fnExactGoodTreeSpec)

/-- 'laws.FnExactPlacesFor', WHERE WHAT IT READS IS OF BULK AT MOST 1048576: true; the input reads as it did. -/
def fnExactPlacesForUptoRow : OpenClaim := { program := "ytclkajdafinccaa", sum := "1eb8fa634bc0e4fd5243caee8e3431b1ec7b8ee6e9490855dd74eefc8fcd85db", func := "loop.example/g00339/laws.FnExactPlacesFor", spec := "fnExactPlacesFor", recurses := true, apart := false, narrowed := true }
def FnExactPlacesForUptoSaid : Prop := fnExactPlacesForUptoRow.holds Try.pinned (OpenSpec.upto fnExactPlacesForSpec)

/-- 'laws.FnExactRunCode', WHERE WHAT IT READS IS OF BULK AT MOST 1048576: true; the input reads as it did. -/
def fnExactRunCodeUptoRow : OpenClaim := { program := "ytclkajdafinccaa", sum := "1eb8fa634bc0e4fd5243caee8e3431b1ec7b8ee6e9490855dd74eefc8fcd85db", func := "loop.example/g00339/laws.FnExactRunCode", spec := "fnExactRunCode", apart := false, narrowed := true }
def FnExactRunCodeUptoSaid : Prop := fnExactRunCodeUptoRow.holds Try.pinned (OpenSpec.upto fnExactRunCodeSpec)

/-- 'laws.FnExactValueOf', WHERE WHAT IT READS IS OF BULK AT MOST 1048576: true; the input reads as it did. -/
def fnExactValueOfUptoRow : OpenClaim := { program := "ytclkajdafinccaa", sum := "1eb8fa634bc0e4fd5243caee8e3431b1ec7b8ee6e9490855dd74eefc8fcd85db", func := "loop.example/g00339/laws.FnExactValueOf", spec := "fnExactValueOf", recurses := true, apart := false, narrowed := true }
def FnExactValueOfUptoSaid : Prop := fnExactValueOfUptoRow.holds Try.pinned (OpenSpec.upto fnExactValueOfSpec)

/-- 'laws.FnExactMostHeld', WHERE WHAT IT READS IS OF BULK AT MOST 1048576: true; the input reads as it did. -/
def fnExactMostHeldUptoRow : OpenClaim := { program := "ytclkajdafinccaa", sum := "1eb8fa634bc0e4fd5243caee8e3431b1ec7b8ee6e9490855dd74eefc8fcd85db", func := "loop.example/g00339/laws.FnExactMostHeld", spec := "fnExactMostHeld", unfollowed := true, recurses := true, apart := false, narrowed := true }
def FnExactMostHeldUptoSaid : Prop := fnExactMostHeldUptoRow.holds Try.pinned (OpenSpec.upto fnExactMostHeldSpec)

/-- 'laws.FnExactCodeBy', WHERE WHAT IT READS IS OF BULK AT MOST 1048576: true; the input reads as it did. -/
def fnExactCodeByUptoRow : OpenClaim := { program := "ytclkajdafinccaa", sum := "1eb8fa634bc0e4fd5243caee8e3431b1ec7b8ee6e9490855dd74eefc8fcd85db", func := "loop.example/g00339/laws.FnExactCodeBy", spec := "fnExactCodeBy", unfollowed := true, recurses := true, apart := false, narrowed := true }
def FnExactCodeByUptoSaid : Prop := fnExactCodeByUptoRow.holds Try.pinned (OpenSpec.upto fnExactCodeBySpec)

/-- 'laws.FnExactCodeFor', WHERE WHAT IT READS IS OF BULK AT MOST 1048576: true; the input reads as it did. -/
def fnExactCodeForUptoRow : OpenClaim := { program := "ytclkajdafinccaa", sum := "1eb8fa634bc0e4fd5243caee8e3431b1ec7b8ee6e9490855dd74eefc8fcd85db", func := "loop.example/g00339/laws.FnExactCodeFor", spec := "fnExactCodeFor", unfollowed := true, recurses := true, apart := false, narrowed := true }
def FnExactCodeForUptoSaid : Prop := fnExactCodeForUptoRow.holds Try.pinned (OpenSpec.upto fnExactCodeForSpec)

/-- 'laws.FnPlaces', WHERE WHAT IT READS IS OF BULK AT MOST 1048576: true; the input reads as it did. -/
def fnPlacesUptoRow : OpenClaim := { program := "ytclkajdafinccaa", sum := "1eb8fa634bc0e4fd5243caee8e3431b1ec7b8ee6e9490855dd74eefc8fcd85db", func := "loop.example/g00339/laws.FnPlaces", spec := "fnPlaces", unfollowed := true, recurses := true, apart := false, narrowed := true }
def FnPlacesUptoSaid : Prop := fnPlacesUptoRow.holds Try.pinned (OpenSpec.upto fnPlacesSpec)

/-- 'laws.FnCodeRuns', WHERE WHAT IT READS IS OF BULK AT MOST 1048576: true; the input reads as it did. -/
def fnCodeRunsUptoRow : OpenClaim := { program := "ytclkajdafinccaa", sum := "1eb8fa634bc0e4fd5243caee8e3431b1ec7b8ee6e9490855dd74eefc8fcd85db", func := "loop.example/g00339/laws.FnCodeRuns", spec := "fnCodeRuns", unfollowed := true, recurses := true, apart := false, narrowed := true }
def FnCodeRunsUptoSaid : Prop := fnCodeRunsUptoRow.holds Try.pinned (OpenSpec.upto fnCodeRunsSpec)

end Rows
end Go.Proofs.Ytclkajdafinccaa
