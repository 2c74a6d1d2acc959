-- Written by a program of this session (wip/plug.py) out of Lean's print of the translation.
import Derived.Test.YtclkajdafinccaaP0
import Derived.Test.YtclkajdafinccaaPImplTreeOf
namespace Go.Proofs.Ytclkajdafinccaa.P
open Go.RowKit Go.Proofs.YtclkajdafinccaaW.PrintWords Go.Proofs.YtclkajdafinccaaW.PrintLast Go.Proofs.YtclkajdafinccaaW.PrintMore
attribute [local go_sem] max2_int min2_int max_two min_two max_three min_three max_four min_four   -- for this text's walks alone
set_option linter.unusedVariables false
set_option linter.unusedSimpArgs false

/-! ### impl_GoodTree: function 24 -/
def impl_GoodTree.f (l0 : List (S78)) : Option (Bool) := some (treeL l0).isSome
set_option maxHeartbeats 8000000 in
theorem impl_GoodTree.calls (A0 : Option Addr) (c0 : Nat) (l0 : List (S78)) (r : Bool) (w : World) (hr0 : Kd.C k78 w A0 l0.length l0) (hc0 : l0.length ≤ c0) (h : impl_GoodTree.f l0 = some r) :
    Calls Try.prog 24 #[.slice A0 l0.length c0] w fun e w' => e = .returned (.bool r) ∧ Below w.heap.size w w' := by
  obtain rfl := Option.some.inj h
  have HC := Aside0.mk (impl_treeOf.calls A0 c0 l0 w hr0 hc0)
  clear h hr0
  generalize treeL l0 = rr at HC ⊢
  go_enter Try.func24, Try.ntmps24
  go_wp2_with fail
  refine HC.out.mono ?_
  clear HC
  rintro e w' ⟨hb, hp⟩
  have HB := Aside0.mk hb
  clear hb
  cases rr with
  | none =>
    cases hp
    go_wp2
    go_ret
    exact ⟨rfl, HB.out⟩
  | some t =>
    obtain ⟨p, rfl, _⟩ := hp
    go_wp2
    go_ret
    exact ⟨rfl, HB.out⟩

end Go.Proofs.Ytclkajdafinccaa.P
