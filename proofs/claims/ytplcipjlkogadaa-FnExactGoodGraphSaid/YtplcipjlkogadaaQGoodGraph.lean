/- GoodGraph's law. -/
import Derived.Test.YtplcipjlkogadaaQGraph
import Derived.Test.YtplcipjlkogadaaPLawsFnExactGoodGraph
namespace Go.Proofs.Ytplcipjlkogadaa.Q
open Go.RowKit Go.Proofs.Ytplcipjlkogadaa.P Go.Proofs.Ytplcipjlkogadaa.H Go.Proofs.YtplcipjlkogadaaW.PrintWords
set_option linter.unusedVariables false

theorem goodGraph_law (g : List (List Int)) (hn : g.length ≤ 9223372036854775807) (hl : Len (Len I64) g) : ∃ k, laws_FnExactGoodGraph.f k g = some true := by
  apply Ev.rounds
  obtain ⟨v, hv, h⟩ := szGraph_ev g 1048576 (by omega) (by omega) hl
  unfold laws_FnExactGoodGraph.f
  refine hv.bind ?_
  by_cases c : v < 0
  · exact Ev.congr (fun k => by rw [if_pos c]) (Ev.now _)
  · have hs : Small g := by rcases h with h | h; exact absurd h c; exact h.2.2
    refine Ev.congr (fun k => by rw [if_neg c]) ?_
    have hT := toGraph_ev g hs
    refine hT.bind ((specGoodGraph_ev g hs).bind (hT.bind ?_))
    refine (ev_some (x := impl_GoodGraph.f g) rfl).bind ?_
    refine Ev.congr (fun k => by rw [if_neg (by simp)]) (hT.bind ((eqGraph_ev g hs).bind ?_))
    exact ev_is fun _ => rfl
end Go.Proofs.Ytplcipjlkogadaa.Q
