/-
  No cell of these rows narrows 'for every input' (looked for: loops, veiled, ifaces, maps, wideKeys, modest, calm, conditions, laid).
  DERIVED. THE GIVEN ROWS OF THIS SEAT. 5 by the template 'for every input the law returns true; each argument reads behind the call as it read before'; 0 by the template 'total and deterministic' (their statements: YtndkblahnihhjaaTotals.lean).
  GIVEN WITH THE SEED: the statements are not yours to turn. If you find one false, say at which input.
  Laid BY PROGRAM, IN A SANDBOX (cutbox-rows.mjs): the forced cells as the released guide's own fill.sh prints them over the translation 745d1bfbd9d00df2… (all of the seat's roots in one cut). By AI agents, Wed Nov 11 2026. No macro, syntax, notation, axiom, sorry.
-/
import Derived.Test.YtndkblahnihhjaaChecked
import GoSem.Claim
import GoSem.ClaimJoined
import GoSem.ClaimMapViews
import Derived.JoinedTies
import Derived.KernelRfl
namespace Go.Proofs.Ytndkblahnihhjaa
/- THE CELL 'sum', in the pinned program and in every row, IS THE sha256 OF THE DUMP (.gsa) THAT YtndkblahnihhjaaProg.lean LOADS. Nothing in Lean hashes anything: it is a label: what it is worth is what the hold of that sum in a sandbox is worth. -/
noncomputable def Try.pinned : Pinned := { name := "ytndkblahnihhjaa", sum := "745d1bfbd9d00df23cb99a618ab116f75a4770043eecec6a925edb3b9ec1d787", checked := Try.checked }
namespace Rows
def none {H : Type} : Left H := { results := [], args := [] }

/-- 'laws.FnExactMeetingOf': WHATEVER THE INPUT: true; the input reads as it did. -/
def fnExactMeetingOfSpec : ChangeSpec := { name := "fnExactMeetingOf", fn := fun _ => fun
  | [d1, d2, d3] => { results := [.lit (.bool true)], args := [d1, d2, d3] }
  | _ => none }
def fnExactMeetingOfRow : OpenClaim := { program := "ytndkblahnihhjaa", sum := "745d1bfbd9d00df23cb99a618ab116f75a4770043eecec6a925edb3b9ec1d787", func := "loop.example/g00339/laws.FnExactMeetingOf", spec := "fnExactMeetingOf", unfollowed := true, recurses := true, apart := false }
def FnExactMeetingOfSaid : Prop := fnExactMeetingOfRow.holds Try.pinned (OpenSpec.ofChange fnExactMeetingOfSpec)

/-- ITS FALSE NEIGHBOUR: 'it returns false'. Refute it at one input. -/
def fnExactMeetingOfWrong : ChangeSpec := { name := "fnExactMeetingOf", fn := fun _ => fun
  | [d1, d2, d3] => { results := [.lit (.bool false)], args := [d1, d2, d3] }
  | _ => none }
def FnExactMeetingOfWrongFalsely : Prop := fnExactMeetingOfRow.holds Try.pinned (OpenSpec.ofChange fnExactMeetingOfWrong)

/-- 'laws.FnExactJoinsOf': WHATEVER THE INPUT: true; the input reads as it did. -/
def fnExactJoinsOfSpec : ChangeSpec := { name := "fnExactJoinsOf", fn := fun _ => fun
  | [d1, d2] => { results := [.lit (.bool true)], args := [d1, d2] }
  | _ => none }
def fnExactJoinsOfRow : OpenClaim := { program := "ytndkblahnihhjaa", sum := "745d1bfbd9d00df23cb99a618ab116f75a4770043eecec6a925edb3b9ec1d787", func := "loop.example/g00339/laws.FnExactJoinsOf", spec := "fnExactJoinsOf", unfollowed := true, recurses := true, apart := false }
def FnExactJoinsOfSaid : Prop := fnExactJoinsOfRow.holds Try.pinned (OpenSpec.ofChange fnExactJoinsOfSpec)

/-- ITS FALSE NEIGHBOUR: 'it returns false'. Refute it at one input. -/
def fnExactJoinsOfWrong : ChangeSpec := { name := "fnExactJoinsOf", fn := fun _ => fun
  | [d1, d2] => { results := [.lit (.bool false)], args := [d1, d2] }
  | _ => none }
def FnExactJoinsOfWrongFalsely : Prop := fnExactJoinsOfRow.holds Try.pinned (OpenSpec.ofChange fnExactJoinsOfWrong)

/-- 'laws.FnExactOwnerAt': WHATEVER THE INPUT: true; the input reads as it did. -/
def fnExactOwnerAtSpec : ChangeSpec := { name := "fnExactOwnerAt", fn := fun _ => fun
  | [d1, d2] => { results := [.lit (.bool true)], args := [d1, d2] }
  | _ => none }
def fnExactOwnerAtRow : OpenClaim := { program := "ytndkblahnihhjaa", sum := "745d1bfbd9d00df23cb99a618ab116f75a4770043eecec6a925edb3b9ec1d787", func := "loop.example/g00339/laws.FnExactOwnerAt", spec := "fnExactOwnerAt", unfollowed := true, recurses := true, apart := false }
def FnExactOwnerAtSaid : Prop := fnExactOwnerAtRow.holds Try.pinned (OpenSpec.ofChange fnExactOwnerAtSpec)

/-- ITS FALSE NEIGHBOUR: 'it returns false'. Refute it at one input. -/
def fnExactOwnerAtWrong : ChangeSpec := { name := "fnExactOwnerAt", fn := fun _ => fun
  | [d1, d2] => { results := [.lit (.bool false)], args := [d1, d2] }
  | _ => none }
def FnExactOwnerAtWrongFalsely : Prop := fnExactOwnerAtRow.holds Try.pinned (OpenSpec.ofChange fnExactOwnerAtWrong)

/-- 'laws.FnFrontiers': WHATEVER THE INPUT: true; the input reads as it did. -/
def fnFrontiersSpec : ChangeSpec := { name := "fnFrontiers", fn := fun _ => fun
  | [d1, d2] => { results := [.lit (.bool true)], args := [d1, d2] }
  | _ => none }
def fnFrontiersRow : OpenClaim := { program := "ytndkblahnihhjaa", sum := "745d1bfbd9d00df23cb99a618ab116f75a4770043eecec6a925edb3b9ec1d787", func := "loop.example/g00339/laws.FnFrontiers", spec := "fnFrontiers", unfollowed := true, recurses := true, apart := false }
def FnFrontiersSaid : Prop := fnFrontiersRow.holds Try.pinned (OpenSpec.ofChange fnFrontiersSpec)

/-- ITS FALSE NEIGHBOUR: 'it returns false'. Refute it at one input. -/
def fnFrontiersWrong : ChangeSpec := { name := "fnFrontiers", fn := fun _ => fun
  | [d1, d2] => { results := [.lit (.bool false)], args := [d1, d2] }
  | _ => none }
def FnFrontiersWrongFalsely : Prop := fnFrontiersRow.holds Try.pinned (OpenSpec.ofChange fnFrontiersWrong)

/-- 'laws.FnOwners': WHATEVER THE INPUT: true; the input reads as it did. -/
def fnOwnersSpec : ChangeSpec := { name := "fnOwners", fn := fun _ => fun
  | [d1, d2] => { results := [.lit (.bool true)], args := [d1, d2] }
  | _ => none }
def fnOwnersRow : OpenClaim := { program := "ytndkblahnihhjaa", sum := "745d1bfbd9d00df23cb99a618ab116f75a4770043eecec6a925edb3b9ec1d787", func := "loop.example/g00339/laws.FnOwners", spec := "fnOwners", unfollowed := true, recurses := true, apart := false }
def FnOwnersSaid : Prop := fnOwnersRow.holds Try.pinned (OpenSpec.ofChange fnOwnersSpec)

/-- ITS FALSE NEIGHBOUR: 'it returns false'. Refute it at one input. -/
def fnOwnersWrong : ChangeSpec := { name := "fnOwners", fn := fun _ => fun
  | [d1, d2] => { results := [.lit (.bool false)], args := [d1, d2] }
  | _ => none }
def FnOwnersWrongFalsely : Prop := fnOwnersRow.holds Try.pinned (OpenSpec.ofChange fnOwnersWrong)

/- THE SECOND FORM. 'bulk': how many values and letters a reading holds, each counted each time it is reached (what is shared counts as often as it is met; a slice's spare places count too). A statement '..UptoSaid' is the law's where the arguments, and the package variables that the reading takes, are together of bulk at most 1048576: NARROWER than '..Said'. Prove '..Said' where nothing that the law and all that it calls make is longer than what came in: it says more and counts as full. Else prove '..UptoSaid'. A law counts once. -/
mutual
def uptoBulk {H : Type} : DataW H → Nat
  | .lit (.string bytes) => bytes.length + 1
  | .lit _ => 1
  | .nil => 1
  | .ptr d => uptoBulk d + 1
  | .slice elems spare => uptoBulkAll elems + uptoBulkAll spare + 1
  | .agg parts => uptoBulkAll parts + 1
  | .iface _ d => uptoBulk d + 1
  | .map entries => uptoBulkEntries entries + 1
  | .held _ => 1
def uptoBulkAll {H : Type} : List (DataW H) → Nat
  | [] => 0
  | d :: r => uptoBulk d + uptoBulkAll r
def uptoBulkEntries {H : Type} : List (Lit × DataW H) → Nat
  | [] => 0
  | x :: r => uptoBulkEntry x + uptoBulkEntries r
def uptoBulkEntry {H : Type} : Lit × DataW H → Nat
  | (.string bytes, d) => bytes.length + uptoBulk d + 1
  | (_, d) => uptoBulk d + 1
 end
def uptoSmall : (H : Type) → List (DataW H) → Bool := fun _ ds => decide (uptoBulkAll ds ≤ 1048576)
def OpenSpec.upto (s : _root_.Go.ChangeSpec) : _root_.Go.OpenSpec := { _root_.Go.OpenSpec.ofChange s with cond := some uptoSmall }

/-- 'laws.FnExactMeetingOf', WHERE WHAT IT READS IS OF BULK AT MOST 1048576: true; the input reads as it did. -/
def fnExactMeetingOfUptoRow : OpenClaim := { program := "ytndkblahnihhjaa", sum := "745d1bfbd9d00df23cb99a618ab116f75a4770043eecec6a925edb3b9ec1d787", func := "loop.example/g00339/laws.FnExactMeetingOf", spec := "fnExactMeetingOf", unfollowed := true, recurses := true, apart := false, narrowed := true }
def FnExactMeetingOfUptoSaid : Prop := fnExactMeetingOfUptoRow.holds Try.pinned (OpenSpec.upto fnExactMeetingOfSpec)

/-- 'laws.FnExactJoinsOf', WHERE WHAT IT READS IS OF BULK AT MOST 1048576: true; the input reads as it did. -/
def fnExactJoinsOfUptoRow : OpenClaim := { program := "ytndkblahnihhjaa", sum := "745d1bfbd9d00df23cb99a618ab116f75a4770043eecec6a925edb3b9ec1d787", func := "loop.example/g00339/laws.FnExactJoinsOf", spec := "fnExactJoinsOf", unfollowed := true, recurses := true, apart := false, narrowed := true }
def FnExactJoinsOfUptoSaid : Prop := fnExactJoinsOfUptoRow.holds Try.pinned (OpenSpec.upto fnExactJoinsOfSpec)

/-- 'laws.FnExactOwnerAt', WHERE WHAT IT READS IS OF BULK AT MOST 1048576: true; the input reads as it did. -/
def fnExactOwnerAtUptoRow : OpenClaim := { program := "ytndkblahnihhjaa", sum := "745d1bfbd9d00df23cb99a618ab116f75a4770043eecec6a925edb3b9ec1d787", func := "loop.example/g00339/laws.FnExactOwnerAt", spec := "fnExactOwnerAt", unfollowed := true, recurses := true, apart := false, narrowed := true }
def FnExactOwnerAtUptoSaid : Prop := fnExactOwnerAtUptoRow.holds Try.pinned (OpenSpec.upto fnExactOwnerAtSpec)

/-- 'laws.FnFrontiers', WHERE WHAT IT READS IS OF BULK AT MOST 1048576: true; the input reads as it did. -/
def fnFrontiersUptoRow : OpenClaim := { program := "ytndkblahnihhjaa", sum := "745d1bfbd9d00df23cb99a618ab116f75a4770043eecec6a925edb3b9ec1d787", func := "loop.example/g00339/laws.FnFrontiers", spec := "fnFrontiers", unfollowed := true, recurses := true, apart := false, narrowed := true }
def FnFrontiersUptoSaid : Prop := fnFrontiersUptoRow.holds Try.pinned (OpenSpec.upto fnFrontiersSpec)

/-- 'laws.FnOwners', WHERE WHAT IT READS IS OF BULK AT MOST 1048576: true; the input reads as it did. -/
def fnOwnersUptoRow : OpenClaim := { program := "ytndkblahnihhjaa", sum := "745d1bfbd9d00df23cb99a618ab116f75a4770043eecec6a925edb3b9ec1d787", func := "loop.example/g00339/laws.FnOwners", spec := "fnOwners", unfollowed := true, recurses := true, apart := false, narrowed := true }
def FnOwnersUptoSaid : Prop := fnOwnersUptoRow.holds Try.pinned (OpenSpec.upto fnOwnersSpec)

end Rows
end Go.Proofs.Ytndkblahnihhjaa
