/- FnExactFrontierOf: the law returns true for every input, and each argument reads behind the call as it read before. -/
import Derived.Test.YtplcipjlkogadaaRows
import Derived.Test.YtplcipjlkogadaaMFnExactFrontierOf1
import Derived.Test.YtplcipjlkogadaaMFnExactFrontierOf2
import Derived.Test.YtplcipjlkogadaaMFnExactFrontierOf3
import Derived.Test.YtplcipjlkogadaaMFnExactFrontierOf4
import Derived.WalkKit
import Derived.ProofKit
import Derived.OpenShut
import Derived.ShutString
import Derived.ChangeOld
import Derived.Below
import Derived.SizedLaws
namespace Go.Proofs.Ytplcipjlkogadaa.fnExactFrontierOf
open Go.ChangeShapes Go.WideShapes Go.ChangeAt Go.RowKit
open Go.ChangeMaps (open_string shut_string)
set_option linter.unusedVariables false
theorem own : ownKnob Try.prog.godebug = none := by kernel_rfl
theorem laidOut : laidOutB Try.prog = true := by kernel_rfl
set_option maxRecDepth 100000 in
theorem lifted (os : Os) (started : os.Started) (Hh : Type) (enc : TypeId × Value → Hh) :
    ReturnsInHanded {} Try.checked os 13 .any (Rows.fnExactFrontierOfSpec.pre6 enc Try.prog Try.f13 Rows.fnExactFrontierOfRow.domain false) (Rows.fnExactFrontierOfSpec.post enc Try.prog Try.f13 false true false false) := by
  refine returnsInHanded_of_change_sized (C := Try.checked) own started (by kernel_rfl) Try.func13
    (ChangeSpec.witness6 (enc := enc) (C := Try.checked) false ⟨#[], #[.agg #[.slice none 0 0]], []⟩ 8 (by kernel_rfl) (by kernel_rfl) (by kernel_rfl) (by kernel_rfl)) ?_
  intro W base args ds gs before hval0 hW hcnd hsz0 _
  have hval : ∀ (j : Nat) t v, Try.f13.params[j]? = some t → args[j]? = some v → Value.okWide Try.prog W .any base t v := hval0
  have hW' := hW
  obtain ⟨p, q, hA0, hV, rfl, hfz, hnd⟩ := hW
  have hA : DataW.TrodAll enc Try.prog W 0 (fun _ => true) true Try.f13.params.toList args.toList ds p := hA0
  rw [Try.params13] at hA hval
  obtain ⟨v0, vs0, d0, ds0, p0, q0, hargs, rfl, rfl, h0, r0⟩ := trodAll_cons hA
  obtain ⟨rfl, rfl, rfl⟩ := trodAll_nil r0
  obtain rfl : args = #[v0] := by cases args; simp_all
  obtain ⟨rfl, rfl⟩ := trodVars_none hV
  have k0 := h0
  have lt0 : ∀ x ∈ p0, x.block < W.heap.size := by obtain ⟨m, hm⟩ := k0; exact DataW.trod_lt m _ _ _ hm
  obtain ⟨fuel0, hf0⟩ := h0
  obtain ⟨c0_0, rfl⟩ := H.agg_of_okWide1 Try.underlying24 (by kernel_rfl) (hval 0 24 v0 rfl rfl)
  obtain ⟨l0, hK0, hg0⟩ := Q.opensGraph hf0
  obtain ⟨A0, c0, hcs0, hc0, hr0⟩ := hK0
  simp only [Value.cells, List.cons.injEq, and_true] at hcs0
  subst hcs0
  have hn0 := hr0.2.1
  obtain ⟨k, hk⟩ := Q.frontierOf_law l0 hn0 hg0
  refine (P.laws_FnExactFrontierOf.calls k A0 c0 l0 W hr0 hc0 hk).mono fun e W' ⟨he, bel⟩ => ?_
  subst he
  exact ⟨_, rfl, _, _, _, [], _, [], hW', trodAll_mk1 (shut_bool Try.underlying4 _), (trodAll_cons_mk (Below.trod laidOut (by kernel_rfl) (of_decide_eq_true (by kernel_rfl)) k0 bel lt0) trodAll_mk0), rfl, bel.frame _, fun h => by cases h⟩
theorem over : Rows.fnExactFrontierOfRow.holds Try.pinned (OpenSpec.ofChange Rows.fnExactFrontierOfSpec) :=
  OpenClaim.holds_of_wide 13 Try.f13 rfl rfl rfl rfl rfl rfl rfl ⟨rfl, rfl, rfl, rfl, rfl⟩ rfl rfl rfl rfl rfl (by kernel_rfl) Try.func13 (by kernel_rfl)
    (of_decide_eq_true (by kernel_rfl)) (by unfold Func.isWrapper; first | (rw [if_pos (by decide +kernel)]; kernel_rfl) | (rw [if_neg (by decide +kernel)]; exact ⟨rfl, rfl⟩))
    (fun os started Hh enc _ => lifted os started Hh enc)
theorem proved : Rows.FnExactFrontierOfSaid := over
end Go.Proofs.Ytplcipjlkogadaa.fnExactFrontierOf
namespace Go.Proofs.Ytplcipjlkogadaa
/-- The row, under a short name, for the claim. -/
theorem fnExactFrontierOf_holds : Rows.FnExactFrontierOfSaid := fnExactFrontierOf.proved
end Go.Proofs.Ytplcipjlkogadaa
