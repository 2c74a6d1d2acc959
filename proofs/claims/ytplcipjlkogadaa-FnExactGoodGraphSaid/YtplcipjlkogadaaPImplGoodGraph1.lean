-- Written by a program of this session (wip/plug.py) out of Lean's print of the translation.
import Derived.Test.YtplcipjlkogadaaP0
import Derived.Test.YtplcipjlkogadaaPImplWithin
import Derived.Test.YtplcipjlkogadaaPImplRising
namespace Go.Proofs.Ytplcipjlkogadaa.P
open Go.RowKit Go.Proofs.YtplcipjlkogadaaW.PrintWords Go.Proofs.YtplcipjlkogadaaW.PrintLast Go.Proofs.YtplcipjlkogadaaW.PrintMore
attribute [local go_sem] max2_int min2_int max_two min_two max_three min_three max_four min_four   -- for this text's walks alone
set_option linter.unusedVariables false
set_option linter.unusedSimpArgs false

/-! ### impl_GoodGraph_1: function 58 -/
theorem impl_within.tell (a b c : Int) : impl_within.f a b c = some (decide (b ≤ a) && decide (a ≤ c)) := by
  unfold impl_within.f
  by_cases h : a ≥ b
  · rw [if_pos h, decide_eq_true h, Bool.true_and]
  · rw [if_neg h, decide_eq_false h, Bool.false_and]

theorem impl_rising.ends (l : List Int) (lo hi : Int) (hn : l.length ≤ 9223372036854775807) : ∃ k, impl_rising.f k l lo hi = some (H.upB l lo hi 0) := by
  apply Ev.rounds
  unfold impl_rising.f
  refine H.down0 (n := l.length) (p := fun i => Ev (fun k => impl_rising.l0 k l lo hi l (l.length : Int) (i : Int)) (H.upB l lo hi i)) ?h0 ?hs
  case h0 =>
    rw [H.upB_end]
    exact Ev.step (f := fun _ => some true) (fun k => by simp only [impl_rising.l0]; rw [if_neg (by omega)]) (Ev.now _)
  case hs =>
    intro i hi' ih
    rw [H.upB_step l lo hi hi']
    have hr : rd l (i : Int) = l.getD i 0 := rfl
    by_cases c : (decide (lo ≤ l.getD i 0) && decide (l.getD i 0 ≤ hi)) = true
    · by_cases ci : i = 0
      · have e : H.upAt l lo hi i = true := by unfold H.upAt; rw [c, ci]; rfl
        rw [e, Bool.true_and]
        refine Ev.step (fun k => ?_) ih
        simp only [impl_rising.l0]
        rw [if_pos (by omega), if_pos (by omega), if_pos (by omega), hr, impl_within.tell, c, Option.bind_some, if_pos rfl, if_neg (by omega), H.w64 (by omega) (by omega)]
        rfl
      · have ew : wrap64 ((i : Int) - 1) = ((i - 1 : Nat) : Int) := by rw [H.w64 (by omega) (by omega)]; omega
        have hr1 : rd l (wrap64 ((i : Int) - 1)) = l.getD (i - 1) 0 := by rw [ew]; rfl
        by_cases c2 : l.getD (i - 1) 0 < l.getD i 0
        · have e : H.upAt l lo hi i = true := by unfold H.upAt; rw [c, decide_eq_true c2]; simp
          rw [e, Bool.true_and]
          refine Ev.step (fun k => ?_) ih
          simp only [impl_rising.l0]
          rw [if_pos (by omega), if_pos (by omega), if_pos (by omega), hr, impl_within.tell, c, Option.bind_some, if_pos rfl, if_pos (by omega), if_pos (by rw [ew]; omega), if_pos (by rw [ew]; omega), hr1, if_neg (by omega), H.w64 (by omega) (by omega)]
          rfl
        · have e : H.upAt l lo hi i = false := by unfold H.upAt; rw [c, decide_eq_false c2, decide_eq_false ci]; rfl
          rw [e, Bool.false_and]
          refine Ev.step (f := fun _ => some false) (fun k => ?_) (Ev.now _)
          simp only [impl_rising.l0]
          rw [if_pos (by omega), if_pos (by omega), if_pos (by omega), hr, impl_within.tell, c, Option.bind_some, if_pos rfl, if_pos (by omega), if_pos (by rw [ew]; omega), if_pos (by rw [ew]; omega), hr1, if_pos (by omega)]
    · have c' : (decide (lo ≤ l.getD i 0) && decide (l.getD i 0 ≤ hi)) = false := by simpa using c
      have e : H.upAt l lo hi i = false := by unfold H.upAt; rw [c', Bool.false_and]
      rw [e, Bool.false_and]
      refine Ev.step (f := fun _ => some false) (fun k => ?_) (Ev.now _)
      simp only [impl_rising.l0]
      rw [if_pos (by omega), if_pos (by omega), if_pos (by omega), hr, impl_within.tell, c', Option.bind_some, if_neg (by simp)]

set_option maxHeartbeats 8000000 in
theorem impl_GoodGraph_1.calls (g : Addr) (Ag : Option Addr) (cg n : Nat) (A : Option Addr) (c : Nat) (l : List Int) (w : World) (hl : l.length ≤ c) (hr : Kd.C (Kd.int .i64) w A l.length l) (hg : w.cell? g = some (.slice Ag n cg)) (hn1 : 1 ≤ n) (hn2 : n ≤ 12) :
    Calls Try.prog 58 #[.slice A l.length c, .pointer (some g)] w fun e w' => e = .returned (.bool (!H.upB l 0 ((n : Int) - 1) 0)) ∧ Below w.heap.size w w' := by
  obtain ⟨k, hk⟩ := impl_rising.ends l 0 ((n : Int) - 1) (by have := hr.2.1; omega)
  have HC := Aside0.mk (impl_rising.calls k A c l 0 ((n : Int) - 1) _ w hr hl hk)
  have ew : IntKind.i64.wrap ((n : Int) - 1) = (n : Int) - 1 := (i64_w _).trans (H.w64 (by omega) (by omega))
  have EW := Aside0.mk ew
  clear hr hk ew
  obtain ⟨rr, hrr⟩ : ∃ rr, H.upB l 0 ((n : Int) - 1) 0 = rr := ⟨_, rfl⟩
  rw [hrr] at HC ⊢
  clear hrr
  go_enter Try.func58, Try.ntmps58
  go_wp2_with fail
  refine HC.out.mono ?_
  rintro e w' ⟨rfl, ⟨m, rfl⟩⟩
  go_wp2
  go_ret
  exact ⟨rfl, pw_below_drewN (Below.refl _ _) m⟩

end Go.Proofs.Ytplcipjlkogadaa.P
