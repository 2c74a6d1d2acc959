/-
  No cell of these rows narrows 'for every input' (looked for: loops, veiled, ifaces, maps, wideKeys, modest, calm, conditions, laid).
  DERIVED. THE GIVEN ROWS OF THIS SEAT. 12 by the template 'for every input the law returns true; each argument reads behind the call as it read before'; 0 by the template 'total and deterministic' (their statements: YtplcipjlkogadaaTotals.lean).
  GIVEN WITH THE SEED: the statements are not yours to turn. If you find one false, say at which input.
  Laid BY PROGRAM, IN A SANDBOX (cutbox-rows.mjs): the forced cells as the released guide's own fill.sh prints them over the translation 13002b750562631e… (all of the seat's roots in one cut). By AI agents, Wed Nov 11 2026. No macro, syntax, notation, axiom, sorry.
-/
import Derived.Test.YtplcipjlkogadaaChecked
import GoSem.Claim
import GoSem.ClaimJoined
import GoSem.ClaimMapViews
import Derived.JoinedTies
import Derived.KernelRfl
namespace Go.Proofs.Ytplcipjlkogadaa
/- THE CELL 'sum', in the pinned program and in every row, IS THE sha256 OF THE DUMP (.gsa) THAT YtplcipjlkogadaaProg.lean LOADS. Nothing in Lean hashes anything: it is a label: what it is worth is what the hold of that sum in a sandbox is worth. -/
noncomputable def Try.pinned : Pinned := { name := "ytplcipjlkogadaa", sum := "13002b750562631e6be2e11d9e4758cab92a1842375d5d346ca829d50ec8ff2c", checked := Try.checked }
namespace Rows
def none {H : Type} : Left H := { results := [], args := [] }

/-- 'laws.FnExactGoodGraph': WHATEVER THE INPUT: true; the input reads as it did. -/
def fnExactGoodGraphSpec : ChangeSpec := { name := "fnExactGoodGraph", fn := fun _ => fun
  | [d] => { results := [.lit (.bool true)], args := [d] }
  | _ => none }
def fnExactGoodGraphRow : OpenClaim := { program := "ytplcipjlkogadaa", sum := "13002b750562631e6be2e11d9e4758cab92a1842375d5d346ca829d50ec8ff2c", func := "loop.example/g00339/laws.FnExactGoodGraph", spec := "fnExactGoodGraph", unfollowed := true, recurses := true, apart := false }
def FnExactGoodGraphSaid : Prop := fnExactGoodGraphRow.holds Try.pinned (OpenSpec.ofChange fnExactGoodGraphSpec)

/-- ITS FALSE NEIGHBOUR: 'it returns false'. Refute it at one input. -/
def fnExactGoodGraphWrong : ChangeSpec := { name := "fnExactGoodGraph", fn := fun _ => fun
  | [d] => { results := [.lit (.bool false)], args := [d] }
  | _ => none }
def FnExactGoodGraphWrongFalsely : Prop := fnExactGoodGraphRow.holds Try.pinned (OpenSpec.ofChange fnExactGoodGraphWrong)

/-- 'laws.FnExactReachedOf': WHATEVER THE INPUT: true; the input reads as it did. -/
def fnExactReachedOfSpec : ChangeSpec := { name := "fnExactReachedOf", fn := fun _ => fun
  | [d] => { results := [.lit (.bool true)], args := [d] }
  | _ => none }
def fnExactReachedOfRow : OpenClaim := { program := "ytplcipjlkogadaa", sum := "13002b750562631e6be2e11d9e4758cab92a1842375d5d346ca829d50ec8ff2c", func := "loop.example/g00339/laws.FnExactReachedOf", spec := "fnExactReachedOf", unfollowed := true, recurses := true, apart := false }
def FnExactReachedOfSaid : Prop := fnExactReachedOfRow.holds Try.pinned (OpenSpec.ofChange fnExactReachedOfSpec)

/-- ITS FALSE NEIGHBOUR: 'it returns false'. Refute it at one input. -/
def fnExactReachedOfWrong : ChangeSpec := { name := "fnExactReachedOf", fn := fun _ => fun
  | [d] => { results := [.lit (.bool false)], args := [d] }
  | _ => none }
def FnExactReachedOfWrongFalsely : Prop := fnExactReachedOfRow.holds Try.pinned (OpenSpec.ofChange fnExactReachedOfWrong)

/-- 'laws.FnExactWithout': WHATEVER THE INPUT: true; the input reads as it did. -/
def fnExactWithoutSpec : ChangeSpec := { name := "fnExactWithout", fn := fun _ => fun
  | [d1, d2] => { results := [.lit (.bool true)], args := [d1, d2] }
  | _ => none }
def fnExactWithoutRow : OpenClaim := { program := "ytplcipjlkogadaa", sum := "13002b750562631e6be2e11d9e4758cab92a1842375d5d346ca829d50ec8ff2c", func := "loop.example/g00339/laws.FnExactWithout", spec := "fnExactWithout", unfollowed := true, recurses := true, apart := false }
def FnExactWithoutSaid : Prop := fnExactWithoutRow.holds Try.pinned (OpenSpec.ofChange fnExactWithoutSpec)

/-- ITS FALSE NEIGHBOUR: 'it returns false'. Refute it at one input. -/
def fnExactWithoutWrong : ChangeSpec := { name := "fnExactWithout", fn := fun _ => fun
  | [d1, d2] => { results := [.lit (.bool false)], args := [d1, d2] }
  | _ => none }
def FnExactWithoutWrongFalsely : Prop := fnExactWithoutRow.holds Try.pinned (OpenSpec.ofChange fnExactWithoutWrong)

/-- 'laws.FnExactIsStrict': WHATEVER THE INPUT: true; the input reads as it did. -/
def fnExactIsStrictSpec : ChangeSpec := { name := "fnExactIsStrict", fn := fun _ => fun
  | [d1, d2, d3] => { results := [.lit (.bool true)], args := [d1, d2, d3] }
  | _ => none }
def fnExactIsStrictRow : OpenClaim := { program := "ytplcipjlkogadaa", sum := "13002b750562631e6be2e11d9e4758cab92a1842375d5d346ca829d50ec8ff2c", func := "loop.example/g00339/laws.FnExactIsStrict", spec := "fnExactIsStrict", unfollowed := true, recurses := true, apart := false }
def FnExactIsStrictSaid : Prop := fnExactIsStrictRow.holds Try.pinned (OpenSpec.ofChange fnExactIsStrictSpec)

/-- ITS FALSE NEIGHBOUR: 'it returns false'. Refute it at one input. -/
def fnExactIsStrictWrong : ChangeSpec := { name := "fnExactIsStrict", fn := fun _ => fun
  | [d1, d2, d3] => { results := [.lit (.bool false)], args := [d1, d2, d3] }
  | _ => none }
def FnExactIsStrictWrongFalsely : Prop := fnExactIsStrictRow.holds Try.pinned (OpenSpec.ofChange fnExactIsStrictWrong)

/-- 'laws.FnExactPredsOf': WHATEVER THE INPUT: true; the input reads as it did. -/
def fnExactPredsOfSpec : ChangeSpec := { name := "fnExactPredsOf", fn := fun _ => fun
  | [d] => { results := [.lit (.bool true)], args := [d] }
  | _ => none }
def fnExactPredsOfRow : OpenClaim := { program := "ytplcipjlkogadaa", sum := "13002b750562631e6be2e11d9e4758cab92a1842375d5d346ca829d50ec8ff2c", func := "loop.example/g00339/laws.FnExactPredsOf", spec := "fnExactPredsOf", unfollowed := true, recurses := true, apart := false }
def FnExactPredsOfSaid : Prop := fnExactPredsOfRow.holds Try.pinned (OpenSpec.ofChange fnExactPredsOfSpec)

/-- ITS FALSE NEIGHBOUR: 'it returns false'. Refute it at one input. -/
def fnExactPredsOfWrong : ChangeSpec := { name := "fnExactPredsOf", fn := fun _ => fun
  | [d] => { results := [.lit (.bool false)], args := [d] }
  | _ => none }
def FnExactPredsOfWrongFalsely : Prop := fnExactPredsOfRow.holds Try.pinned (OpenSpec.ofChange fnExactPredsOfWrong)

/-- 'laws.FnExactDominatorsOf': WHATEVER THE INPUT: true; the input reads as it did. -/
def fnExactDominatorsOfSpec : ChangeSpec := { name := "fnExactDominatorsOf", fn := fun _ => fun
  | [d] => { results := [.lit (.bool true)], args := [d] }
  | _ => none }
def fnExactDominatorsOfRow : OpenClaim := { program := "ytplcipjlkogadaa", sum := "13002b750562631e6be2e11d9e4758cab92a1842375d5d346ca829d50ec8ff2c", func := "loop.example/g00339/laws.FnExactDominatorsOf", spec := "fnExactDominatorsOf", unfollowed := true, recurses := true, apart := false }
def FnExactDominatorsOfSaid : Prop := fnExactDominatorsOfRow.holds Try.pinned (OpenSpec.ofChange fnExactDominatorsOfSpec)

/-- ITS FALSE NEIGHBOUR: 'it returns false'. Refute it at one input. -/
def fnExactDominatorsOfWrong : ChangeSpec := { name := "fnExactDominatorsOf", fn := fun _ => fun
  | [d] => { results := [.lit (.bool false)], args := [d] }
  | _ => none }
def FnExactDominatorsOfWrongFalsely : Prop := fnExactDominatorsOfRow.holds Try.pinned (OpenSpec.ofChange fnExactDominatorsOfWrong)

/-- 'laws.FnExactBackEdges': WHATEVER THE INPUT: true; the input reads as it did. -/
def fnExactBackEdgesSpec : ChangeSpec := { name := "fnExactBackEdges", fn := fun _ => fun
  | [d] => { results := [.lit (.bool true)], args := [d] }
  | _ => none }
def fnExactBackEdgesRow : OpenClaim := { program := "ytplcipjlkogadaa", sum := "13002b750562631e6be2e11d9e4758cab92a1842375d5d346ca829d50ec8ff2c", func := "loop.example/g00339/laws.FnExactBackEdges", spec := "fnExactBackEdges", unfollowed := true, recurses := true, apart := false }
def FnExactBackEdgesSaid : Prop := fnExactBackEdgesRow.holds Try.pinned (OpenSpec.ofChange fnExactBackEdgesSpec)

/-- ITS FALSE NEIGHBOUR: 'it returns false'. Refute it at one input. -/
def fnExactBackEdgesWrong : ChangeSpec := { name := "fnExactBackEdges", fn := fun _ => fun
  | [d] => { results := [.lit (.bool false)], args := [d] }
  | _ => none }
def FnExactBackEdgesWrongFalsely : Prop := fnExactBackEdgesRow.holds Try.pinned (OpenSpec.ofChange fnExactBackEdgesWrong)

/-- 'laws.FnExactNearestOf': WHATEVER THE INPUT: true; the input reads as it did. -/
def fnExactNearestOfSpec : ChangeSpec := { name := "fnExactNearestOf", fn := fun _ => fun
  | [d] => { results := [.lit (.bool true)], args := [d] }
  | _ => none }
def fnExactNearestOfRow : OpenClaim := { program := "ytplcipjlkogadaa", sum := "13002b750562631e6be2e11d9e4758cab92a1842375d5d346ca829d50ec8ff2c", func := "loop.example/g00339/laws.FnExactNearestOf", spec := "fnExactNearestOf", unfollowed := true, recurses := true, apart := false }
def FnExactNearestOfSaid : Prop := fnExactNearestOfRow.holds Try.pinned (OpenSpec.ofChange fnExactNearestOfSpec)

/-- ITS FALSE NEIGHBOUR: 'it returns false'. Refute it at one input. -/
def fnExactNearestOfWrong : ChangeSpec := { name := "fnExactNearestOf", fn := fun _ => fun
  | [d] => { results := [.lit (.bool false)], args := [d] }
  | _ => none }
def FnExactNearestOfWrongFalsely : Prop := fnExactNearestOfRow.holds Try.pinned (OpenSpec.ofChange fnExactNearestOfWrong)

/-- 'laws.FnExactLoopOf': WHATEVER THE INPUT: true; the input reads as it did. -/
def fnExactLoopOfSpec : ChangeSpec := { name := "fnExactLoopOf", fn := fun _ => fun
  | [d1, d2, d3] => { results := [.lit (.bool true)], args := [d1, d2, d3] }
  | _ => none }
def fnExactLoopOfRow : OpenClaim := { program := "ytplcipjlkogadaa", sum := "13002b750562631e6be2e11d9e4758cab92a1842375d5d346ca829d50ec8ff2c", func := "loop.example/g00339/laws.FnExactLoopOf", spec := "fnExactLoopOf", unfollowed := true, recurses := true, apart := false }
def FnExactLoopOfSaid : Prop := fnExactLoopOfRow.holds Try.pinned (OpenSpec.ofChange fnExactLoopOfSpec)

/-- ITS FALSE NEIGHBOUR: 'it returns false'. Refute it at one input. -/
def fnExactLoopOfWrong : ChangeSpec := { name := "fnExactLoopOf", fn := fun _ => fun
  | [d1, d2, d3] => { results := [.lit (.bool false)], args := [d1, d2, d3] }
  | _ => none }
def FnExactLoopOfWrongFalsely : Prop := fnExactLoopOfRow.holds Try.pinned (OpenSpec.ofChange fnExactLoopOfWrong)

/-- 'laws.FnDominators': WHATEVER THE INPUT: true; the input reads as it did. -/
def fnDominatorsSpec : ChangeSpec := { name := "fnDominators", fn := fun _ => fun
  | [d1, d2] => { results := [.lit (.bool true)], args := [d1, d2] }
  | _ => none }
def fnDominatorsRow : OpenClaim := { program := "ytplcipjlkogadaa", sum := "13002b750562631e6be2e11d9e4758cab92a1842375d5d346ca829d50ec8ff2c", func := "loop.example/g00339/laws.FnDominators", spec := "fnDominators", unfollowed := true, recurses := true, apart := false }
def FnDominatorsSaid : Prop := fnDominatorsRow.holds Try.pinned (OpenSpec.ofChange fnDominatorsSpec)

/-- ITS FALSE NEIGHBOUR: 'it returns false'. Refute it at one input. -/
def fnDominatorsWrong : ChangeSpec := { name := "fnDominators", fn := fun _ => fun
  | [d1, d2] => { results := [.lit (.bool false)], args := [d1, d2] }
  | _ => none }
def FnDominatorsWrongFalsely : Prop := fnDominatorsRow.holds Try.pinned (OpenSpec.ofChange fnDominatorsWrong)

/-- 'laws.FnExactFrontierOf': WHATEVER THE INPUT: true; the input reads as it did. -/
def fnExactFrontierOfSpec : ChangeSpec := { name := "fnExactFrontierOf", fn := fun _ => fun
  | [d] => { results := [.lit (.bool true)], args := [d] }
  | _ => none }
def fnExactFrontierOfRow : OpenClaim := { program := "ytplcipjlkogadaa", sum := "13002b750562631e6be2e11d9e4758cab92a1842375d5d346ca829d50ec8ff2c", func := "loop.example/g00339/laws.FnExactFrontierOf", spec := "fnExactFrontierOf", unfollowed := true, recurses := true, apart := false }
def FnExactFrontierOfSaid : Prop := fnExactFrontierOfRow.holds Try.pinned (OpenSpec.ofChange fnExactFrontierOfSpec)

/-- ITS FALSE NEIGHBOUR: 'it returns false'. Refute it at one input. -/
def fnExactFrontierOfWrong : ChangeSpec := { name := "fnExactFrontierOf", fn := fun _ => fun
  | [d] => { results := [.lit (.bool false)], args := [d] }
  | _ => none }
def FnExactFrontierOfWrongFalsely : Prop := fnExactFrontierOfRow.holds Try.pinned (OpenSpec.ofChange fnExactFrontierOfWrong)

/-- 'laws.FnLoops': WHATEVER THE INPUT: true; the input reads as it did. -/
def fnLoopsSpec : ChangeSpec := { name := "fnLoops", fn := fun _ => fun
  | [d1, d2] => { results := [.lit (.bool true)], args := [d1, d2] }
  | _ => none }
def fnLoopsRow : OpenClaim := { program := "ytplcipjlkogadaa", sum := "13002b750562631e6be2e11d9e4758cab92a1842375d5d346ca829d50ec8ff2c", func := "loop.example/g00339/laws.FnLoops", spec := "fnLoops", unfollowed := true, recurses := true, apart := false }
def FnLoopsSaid : Prop := fnLoopsRow.holds Try.pinned (OpenSpec.ofChange fnLoopsSpec)

/-- ITS FALSE NEIGHBOUR: 'it returns false'. Refute it at one input. -/
def fnLoopsWrong : ChangeSpec := { name := "fnLoops", fn := fun _ => fun
  | [d1, d2] => { results := [.lit (.bool false)], args := [d1, d2] }
  | _ => none }
def FnLoopsWrongFalsely : Prop := fnLoopsRow.holds Try.pinned (OpenSpec.ofChange fnLoopsWrong)

/- THE SECOND FORM. 'bulk': how many values and letters a reading holds, each counted each time it is reached (what is shared counts as often as it is met; a slice's spare places count too). A statement '..UptoSaid' is the law's where the arguments, and the package variables that the reading takes, are together of bulk at most 1048576: NARROWER than '..Said'. Prove '..Said' where nothing that the law and all that it calls make is longer than what came in: it says more and counts as full. Else prove '..UptoSaid'. A law counts once. -/
mutual
def uptoBulk {H : Type} : DataW H → Nat
  | .lit (.string bytes) => bytes.length + 1
  | .lit _ => 1
  | .nil => 1
  | .ptr d => uptoBulk d + 1
  | .slice elems spare => uptoBulkAll elems + uptoBulkAll spare + 1
  | .agg parts => uptoBulkAll parts + 1
  | .iface _ d => uptoBulk d + 1
  | .map entries => uptoBulkEntries entries + 1
  | .held _ => 1
def uptoBulkAll {H : Type} : List (DataW H) → Nat
  | [] => 0
  | d :: r => uptoBulk d + uptoBulkAll r
def uptoBulkEntries {H : Type} : List (Lit × DataW H) → Nat
  | [] => 0
  | x :: r => uptoBulkEntry x + uptoBulkEntries r
def uptoBulkEntry {H : Type} : Lit × DataW H → Nat
  | (.string bytes, d) => bytes.length + uptoBulk d + 1
  | (_, d) => uptoBulk d + 1
 end
def uptoSmall : (H : Type) → List (DataW H) → Bool := fun _ ds => decide (uptoBulkAll ds ≤ 1048576)
def OpenSpec.upto (s : _root_.Go.ChangeSpec) : _root_.Go.OpenSpec := { _root_.Go.OpenSpec.ofChange s with cond := some uptoSmall }

/-- 'laws.FnExactGoodGraph', WHERE WHAT IT READS IS OF BULK AT MOST 1048576: true; the input reads as it did. -/
def fnExactGoodGraphUptoRow : OpenClaim := { program := "ytplcipjlkogadaa", sum := "13002b750562631e6be2e11d9e4758cab92a1842375d5d346ca829d50ec8ff2c", func := "loop.example/g00339/laws.FnExactGoodGraph", spec := "fnExactGoodGraph", unfollowed := true, recurses := true, apart := false, narrowed := true }
def FnExactGoodGraphUptoSaid : Prop := fnExactGoodGraphUptoRow.holds Try.pinned (OpenSpec.upto fnExactGoodGraphSpec)

/-- 'laws.FnExactReachedOf', WHERE WHAT IT READS IS OF BULK AT MOST 1048576: true; the input reads as it did. -/
def fnExactReachedOfUptoRow : OpenClaim := { program := "ytplcipjlkogadaa", sum := "13002b750562631e6be2e11d9e4758cab92a1842375d5d346ca829d50ec8ff2c", func := "loop.example/g00339/laws.FnExactReachedOf", spec := "fnExactReachedOf", unfollowed := true, recurses := true, apart := false, narrowed := true }
def FnExactReachedOfUptoSaid : Prop := fnExactReachedOfUptoRow.holds Try.pinned (OpenSpec.upto fnExactReachedOfSpec)

/-- 'laws.FnExactWithout', WHERE WHAT IT READS IS OF BULK AT MOST 1048576: true; the input reads as it did. -/
def fnExactWithoutUptoRow : OpenClaim := { program := "ytplcipjlkogadaa", sum := "13002b750562631e6be2e11d9e4758cab92a1842375d5d346ca829d50ec8ff2c", func := "loop.example/g00339/laws.FnExactWithout", spec := "fnExactWithout", unfollowed := true, recurses := true, apart := false, narrowed := true }
def FnExactWithoutUptoSaid : Prop := fnExactWithoutUptoRow.holds Try.pinned (OpenSpec.upto fnExactWithoutSpec)

/-- 'laws.FnExactIsStrict', WHERE WHAT IT READS IS OF BULK AT MOST 1048576: true; the input reads as it did. -/
def fnExactIsStrictUptoRow : OpenClaim := { program := "ytplcipjlkogadaa", sum := "13002b750562631e6be2e11d9e4758cab92a1842375d5d346ca829d50ec8ff2c", func := "loop.example/g00339/laws.FnExactIsStrict", spec := "fnExactIsStrict", unfollowed := true, recurses := true, apart := false, narrowed := true }
def FnExactIsStrictUptoSaid : Prop := fnExactIsStrictUptoRow.holds Try.pinned (OpenSpec.upto fnExactIsStrictSpec)

/-- 'laws.FnExactPredsOf', WHERE WHAT IT READS IS OF BULK AT MOST 1048576: true; the input reads as it did. -/
def fnExactPredsOfUptoRow : OpenClaim := { program := "ytplcipjlkogadaa", sum := "13002b750562631e6be2e11d9e4758cab92a1842375d5d346ca829d50ec8ff2c", func := "loop.example/g00339/laws.FnExactPredsOf", spec := "fnExactPredsOf", unfollowed := true, recurses := true, apart := false, narrowed := true }
def FnExactPredsOfUptoSaid : Prop := fnExactPredsOfUptoRow.holds Try.pinned (OpenSpec.upto fnExactPredsOfSpec)

/-- 'laws.FnExactDominatorsOf', WHERE WHAT IT READS IS OF BULK AT MOST 1048576: true; the input reads as it did. -/
def fnExactDominatorsOfUptoRow : OpenClaim := { program := "ytplcipjlkogadaa", sum := "13002b750562631e6be2e11d9e4758cab92a1842375d5d346ca829d50ec8ff2c", func := "loop.example/g00339/laws.FnExactDominatorsOf", spec := "fnExactDominatorsOf", unfollowed := true, recurses := true, apart := false, narrowed := true }
def FnExactDominatorsOfUptoSaid : Prop := fnExactDominatorsOfUptoRow.holds Try.pinned (OpenSpec.upto fnExactDominatorsOfSpec)

/-- 'laws.FnExactBackEdges', WHERE WHAT IT READS IS OF BULK AT MOST 1048576: true; the input reads as it did. -/
def fnExactBackEdgesUptoRow : OpenClaim := { program := "ytplcipjlkogadaa", sum := "13002b750562631e6be2e11d9e4758cab92a1842375d5d346ca829d50ec8ff2c", func := "loop.example/g00339/laws.FnExactBackEdges", spec := "fnExactBackEdges", unfollowed := true, recurses := true, apart := false, narrowed := true }
def FnExactBackEdgesUptoSaid : Prop := fnExactBackEdgesUptoRow.holds Try.pinned (OpenSpec.upto fnExactBackEdgesSpec)

/-- 'laws.FnExactNearestOf', WHERE WHAT IT READS IS OF BULK AT MOST 1048576: true; the input reads as it did. -/
def fnExactNearestOfUptoRow : OpenClaim := { program := "ytplcipjlkogadaa", sum := "13002b750562631e6be2e11d9e4758cab92a1842375d5d346ca829d50ec8ff2c", func := "loop.example/g00339/laws.FnExactNearestOf", spec := "fnExactNearestOf", unfollowed := true, recurses := true, apart := false, narrowed := true }
def FnExactNearestOfUptoSaid : Prop := fnExactNearestOfUptoRow.holds Try.pinned (OpenSpec.upto fnExactNearestOfSpec)

/-- 'laws.FnExactLoopOf', WHERE WHAT IT READS IS OF BULK AT MOST 1048576: true; the input reads as it did. -/
def fnExactLoopOfUptoRow : OpenClaim := { program := "ytplcipjlkogadaa", sum := "13002b750562631e6be2e11d9e4758cab92a1842375d5d346ca829d50ec8ff2c", func := "loop.example/g00339/laws.FnExactLoopOf", spec := "fnExactLoopOf", unfollowed := true, recurses := true, apart := false, narrowed := true }
def FnExactLoopOfUptoSaid : Prop := fnExactLoopOfUptoRow.holds Try.pinned (OpenSpec.upto fnExactLoopOfSpec)

/-- 'laws.FnDominators', WHERE WHAT IT READS IS OF BULK AT MOST 1048576: true; the input reads as it did. -/
def fnDominatorsUptoRow : OpenClaim := { program := "ytplcipjlkogadaa", sum := "13002b750562631e6be2e11d9e4758cab92a1842375d5d346ca829d50ec8ff2c", func := "loop.example/g00339/laws.FnDominators", spec := "fnDominators", unfollowed := true, recurses := true, apart := false, narrowed := true }
def FnDominatorsUptoSaid : Prop := fnDominatorsUptoRow.holds Try.pinned (OpenSpec.upto fnDominatorsSpec)

/-- 'laws.FnExactFrontierOf', WHERE WHAT IT READS IS OF BULK AT MOST 1048576: true; the input reads as it did. -/
def fnExactFrontierOfUptoRow : OpenClaim := { program := "ytplcipjlkogadaa", sum := "13002b750562631e6be2e11d9e4758cab92a1842375d5d346ca829d50ec8ff2c", func := "loop.example/g00339/laws.FnExactFrontierOf", spec := "fnExactFrontierOf", unfollowed := true, recurses := true, apart := false, narrowed := true }
def FnExactFrontierOfUptoSaid : Prop := fnExactFrontierOfUptoRow.holds Try.pinned (OpenSpec.upto fnExactFrontierOfSpec)

/-- 'laws.FnLoops', WHERE WHAT IT READS IS OF BULK AT MOST 1048576: true; the input reads as it did. -/
def fnLoopsUptoRow : OpenClaim := { program := "ytplcipjlkogadaa", sum := "13002b750562631e6be2e11d9e4758cab92a1842375d5d346ca829d50ec8ff2c", func := "loop.example/g00339/laws.FnLoops", spec := "fnLoops", unfollowed := true, recurses := true, apart := false, narrowed := true }
def FnLoopsUptoSaid : Prop := fnLoopsUptoRow.holds Try.pinned (OpenSpec.upto fnLoopsSpec)

end Rows
end Go.Proofs.Ytplcipjlkogadaa
