-- Written by a program of this session (wip/plug.py) out of Lean's print of the translation.
import Derived.Test.YtclkajdafinccaaP0
import Derived.Test.YtclkajdafinccaaPImplSpan53
import Derived.Test.YtclkajdafinccaaPImplGoodSpans1
namespace Go.Proofs.Ytclkajdafinccaa.P
open Go.RowKit Go.Proofs.YtclkajdafinccaaW.PrintWords Go.Proofs.YtclkajdafinccaaW.PrintLast Go.Proofs.YtclkajdafinccaaW.PrintMore
attribute [local go_sem] max2_int min2_int max_two min_two max_three min_three max_four min_four   -- for this text's walks alone
set_option linter.unusedVariables false
set_option linter.unusedSimpArgs false

/-! ### impl_GoodSpans: function 17 -/
def impl_GoodSpans.f (l0 : List (S65)) : Option (Bool) := some (decide (l0.length ≤ 30) && l0.all fun s => !(decide (s.f0 < 0) || decide (s.f0 ≥ s.f1) || decide (s.f1 > 1000)))
theorem impl_GoodSpans.calls (A0 : Option Addr) (c0 : Nat) (l0 : List (S65)) (r : Bool) (w : World) (hr0 : Kd.C k65 w A0 l0.length l0) (hc0 : l0.length ≤ c0) (h : impl_GoodSpans.f l0 = some r) :
    Calls Try.prog 17 #[.slice A0 l0.length c0] w fun e w' => e = .returned (.bool r) ∧ Below w.heap.size w w' := by
  obtain rfl := Option.some.inj h
  have HC := Aside0.mk (slices_ContainsFunc_Span.calls 54 (fun s => decide (s.f0 < 0) || decide (s.f0 ≥ s.f1) || decide (s.f1 > 1000)) A0 c0 l0 w hr0 hc0 (fun _ _ => by go_simp) (fun x W => impl_GoodSpans_1.calls _ _ _ W (by
    unfold impl_GoodSpans_1.f
    by_cases h1 : x.f0 < 0
    · simp [h1]
    · by_cases h2 : x.f0 ≥ x.f1
      · simp [h1, h2]
      · simp [h1, h2])))
  by_cases c : l0.length ≤ 30
  · go_enter Try.func17, Try.ntmps17
    go_wp2_with fail
    refine HC.out.mono ?_
    rintro e w' ⟨rfl, hb⟩
    have HB := Aside0.mk hb
    clear hb
    go_wp2
    go_ret
    refine ⟨?_, HB.out⟩
    simp [c, List.all_eq_not_any_not]
  · go_enter Try.func17, Try.ntmps17
    go_wp2
    go_ret
    exact ⟨by simp [c], Below.refl _ _⟩

end Go.Proofs.Ytclkajdafinccaa.P
