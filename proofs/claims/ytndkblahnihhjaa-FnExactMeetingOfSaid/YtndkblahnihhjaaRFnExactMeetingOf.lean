/- FnExactMeetingOf: the law returns true for every input, and each argument reads behind the call as it read before. -/
import Derived.Test.YtndkblahnihhjaaRows
import Derived.Test.YtndkblahnihhjaaMFnExactMeetingOf1
import Derived.Test.YtndkblahnihhjaaMFnExactMeetingOf2
import Derived.Test.YtndkblahnihhjaaMFnExactMeetingOf3
import Derived.Test.YtndkblahnihhjaaMFnExactMeetingOf4
import Derived.Test.YtndkblahnihhjaaMFnExactMeetingOf5
import Derived.WalkKit
import Derived.ProofKit
import Derived.OpenShut
import Derived.ShutString
import Derived.ChangeOld
import Derived.Below
import Derived.SizedLaws
namespace Go.Proofs.Ytndkblahnihhjaa.fnExactMeetingOf
open Go.ChangeShapes Go.WideShapes Go.ChangeAt Go.RowKit
open Go.ChangeMaps (open_string shut_string)
set_option linter.unusedVariables false
theorem own : ownKnob Try.prog.godebug = none := by kernel_rfl
theorem laidOut : laidOutB Try.prog = true := by kernel_rfl
set_option maxRecDepth 100000 in
theorem lifted (os : Os) (started : os.Started) (Hh : Type) (enc : TypeId × Value → Hh) :
    ReturnsInHanded {} Try.checked os 3 .any (Rows.fnExactMeetingOfSpec.pre6 enc Try.prog Try.f3 Rows.fnExactMeetingOfRow.domain false) (Rows.fnExactMeetingOfSpec.post enc Try.prog Try.f3 false true false false) := by
  refine returnsInHanded_of_change_sized (C := Try.checked) own started (by kernel_rfl) Try.func3
    (ChangeSpec.witness6 (enc := enc) (C := Try.checked) false ⟨#[], #[.agg #[.slice none 0 0], .int .i64 0, .int .i64 0], []⟩ 8 (by kernel_rfl) (by kernel_rfl) (by kernel_rfl) (by kernel_rfl)) ?_
  intro W base args ds gs before hval0 hW hcnd hsz0 _
  have hval : ∀ (j : Nat) t v, Try.f3.params[j]? = some t → args[j]? = some v → Value.okWide Try.prog W .any base t v := hval0
  have hW' := hW
  obtain ⟨p, q, hA0, hV, rfl, hfz, hnd⟩ := hW
  have hA : DataW.TrodAll enc Try.prog W 0 (fun _ => true) true Try.f3.params.toList args.toList ds p := hA0
  rw [Try.params3] at hA hval
  obtain ⟨v0, vs0, d0, ds0, p0, q0, hargs, rfl, rfl, h0, r0⟩ := trodAll_cons hA
  obtain ⟨v1, vs1, d1, ds1, p1, q1, rfl, rfl, rfl, h1, r1⟩ := trodAll_cons r0
  obtain ⟨v2, vs2, d2, ds2, p2, q2, rfl, rfl, rfl, h2, r2⟩ := trodAll_cons r1
  obtain ⟨rfl, rfl, rfl⟩ := trodAll_nil r2
  obtain rfl : args = #[v0, v1, v2] := by cases args; simp_all
  obtain ⟨rfl, rfl⟩ := trodVars_none hV
  have k0 := h0
  have lt0 : ∀ x ∈ p0, x.block < W.heap.size := by obtain ⟨m, hm⟩ := k0; exact DataW.trod_lt m _ _ _ hm
  obtain ⟨fuel0, hf0⟩ := h0
  obtain ⟨c0_0, rfl⟩ := H.agg_of_okWide1 Try.underlying24 (by kernel_rfl) (hval 0 24 v0 rfl rfl)
  obtain ⟨l0, hK0, hg0⟩ := Q.opensGraph hf0
  obtain ⟨A0, c0, hcs0, hc0, hr0⟩ := hK0
  simp only [Value.cells, List.cons.injEq, and_true] at hcs0
  subst hcs0
  have hn0 := hr0.2.1
  obtain ⟨a1, rfl, rfl, rfl, w1⟩ := open_int Try.underlying3 (hval 1 3 v1 rfl rfl) h1
  obtain ⟨a2, rfl, rfl, rfl, w2⟩ := open_int Try.underlying3 (hval 2 3 v2 rfl rfl) h2
  obtain ⟨k, hk⟩ := Q.meetingOf_law l0 a1 a2 hn0 hg0 (H.i64_of_wf w1) (H.i64_of_wf w2)
  refine (P.laws_FnExactMeetingOf.calls k A0 c0 l0 a1 a2 true W hr0 hc0 hk).mono fun e W' ⟨he, bel⟩ => ?_
  subst he
  exact ⟨_, rfl, _, _, _, [], _, [], hW', trodAll_mk1 (shut_bool Try.underlying4 _), (trodAll_cons_mk (Below.trod laidOut (by kernel_rfl) (of_decide_eq_true (by kernel_rfl)) k0 bel lt0) (trodAll_cons_mk (shut_int Try.underlying3 w1) (trodAll_cons_mk (shut_int Try.underlying3 w2) trodAll_mk0))), rfl, bel.frame _, fun h => by cases h⟩
theorem over : Rows.fnExactMeetingOfRow.holds Try.pinned (OpenSpec.ofChange Rows.fnExactMeetingOfSpec) :=
  OpenClaim.holds_of_wide 3 Try.f3 rfl rfl rfl rfl rfl rfl rfl ⟨rfl, rfl, rfl, rfl, rfl⟩ rfl rfl rfl rfl rfl (by kernel_rfl) Try.func3 (by kernel_rfl)
    (of_decide_eq_true (by kernel_rfl)) (by unfold Func.isWrapper; first | (rw [if_pos (by decide +kernel)]; kernel_rfl) | (rw [if_neg (by decide +kernel)]; exact ⟨rfl, rfl⟩))
    (fun os started Hh enc _ => lifted os started Hh enc)
theorem proved : Rows.FnExactMeetingOfSaid := over
end Go.Proofs.Ytndkblahnihhjaa.fnExactMeetingOf
namespace Go.Proofs.Ytndkblahnihhjaa
/-- The row, under a short name, for the claim. -/
theorem fnExactMeetingOf_holds : Rows.FnExactMeetingOfSaid := fnExactMeetingOf.proved
end Go.Proofs.Ytndkblahnihhjaa
