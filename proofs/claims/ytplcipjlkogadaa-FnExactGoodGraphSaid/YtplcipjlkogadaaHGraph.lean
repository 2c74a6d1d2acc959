/- Graphs, in plain Lean: lists that rise, good graphs. -/
import Derived.Test.YtplcipjlkogadaaHPure
import Derived.Test.YtplcipjlkogadaaHMem
namespace Go.Proofs.Ytplcipjlkogadaa.H
open Go.RowKit Go.Proofs.YtplcipjlkogadaaW.PrintWords Go.Proofs.YtplcipjlkogadaaW.PrintMore
set_option linter.unusedVariables false

/-- Does a list rise at a place, within bounds? -/
def upAt (l : List Int) (lo hi : Int) (j : Nat) : Bool := (decide (lo ≤ l.getD j 0) && decide (l.getD j 0 ≤ hi)) && (decide (j = 0) || decide (l.getD (j - 1) 0 < l.getD j 0))
/-- Does a list rise from a place on? -/
def upB (l : List Int) (lo hi : Int) (i : Nat) : Bool := decide (∀ j, j < l.length → i ≤ j → upAt l lo hi j = true)

theorem upB_end (l : List Int) (lo hi : Int) : upB l lo hi l.length = true := by
  unfold upB
  exact decide_eq_true (fun j h1 h2 => by omega)

theorem upB_step (l : List Int) (lo hi : Int) {i : Nat} (hi' : i < l.length) : upB l lo hi i = (upAt l lo hi i && upB l lo hi (i + 1)) := by
  unfold upB
  by_cases c : upAt l lo hi i = true
  · rw [c, Bool.true_and, decide_eq_decide]
    constructor
    · intro h j h1 h2
      exact h j h1 (by omega)
    · intro h j h1 h2
      by_cases e : j = i
      · subst e; exact c
      · exact h j h1 (by omega)
  · have c' : upAt l lo hi i = false := by simpa using c
    rw [c', Bool.false_and]
    exact decide_eq_false (fun h => c (h i hi' (Nat.le_refl _)))

/-- Is a graph good? -/
def goodG (g : List (List Int)) : Bool := (decide (1 ≤ g.length) && decide (g.length ≤ 12)) && g.all fun l => upB l 0 ((g.length : Int) - 1) 0
end Go.Proofs.Ytplcipjlkogadaa.H
