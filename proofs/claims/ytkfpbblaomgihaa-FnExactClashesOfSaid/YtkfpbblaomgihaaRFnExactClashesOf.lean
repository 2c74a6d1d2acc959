/- FnExactClashesOf: the law returns true for every input, and each argument reads behind the call as it read before. -/
import Derived.Test.YtkfpbblaomgihaaRows
import Derived.Test.YtkfpbblaomgihaaMFnExactClashesOf1
import Derived.Test.YtkfpbblaomgihaaMFnExactClashesOf2
import Derived.Test.YtkfpbblaomgihaaMFnExactClashesOf3
import Derived.Test.YtkfpbblaomgihaaMFnExactClashesOf4
import Derived.Test.YtkfpbblaomgihaaMFnExactClashesOf5
import Derived.WalkKit
import Derived.ProofKit
import Derived.OpenShut
import Derived.ShutString
import Derived.ChangeOld
import Derived.Below
import Derived.SizedLaws
namespace Go.Proofs.Ytkfpbblaomgihaa.fnExactClashesOf
open Go.ChangeShapes Go.WideShapes Go.ChangeAt Go.RowKit
open Go.ChangeMaps (open_string shut_string)
set_option linter.unusedVariables false
theorem own : ownKnob Try.prog.godebug = none := by kernel_rfl
theorem laidOut : laidOutB Try.prog = true := by kernel_rfl
set_option maxRecDepth 100000 in
theorem lifted (os : Os) (started : os.Started) (Hh : Type) (enc : TypeId × Value → Hh) :
    ReturnsInHanded {} Try.checked os 10 .any (Rows.fnExactClashesOfSpec.pre6 enc Try.prog Try.f10 Rows.fnExactClashesOfRow.domain false) (Rows.fnExactClashesOfSpec.post enc Try.prog Try.f10 false true false false) := by
  refine returnsInHanded_of_change_sized (C := Try.checked) own started (by kernel_rfl) Try.func10
    (ChangeSpec.witness6 (enc := enc) (C := Try.checked) false ⟨#[], #[.agg #[.slice none 0 0, .slice none 0 0]], []⟩ 8 (by kernel_rfl) (by kernel_rfl) (by kernel_rfl) (by kernel_rfl)) ?_
  intro W base args ds gs before hval0 hW hcnd hsz0 _
  have hval : ∀ (j : Nat) t v, Try.f10.params[j]? = some t → args[j]? = some v → Value.okWide Try.prog W .any base t v := hval0
  have hW' := hW
  obtain ⟨p, q, hA0, hV, rfl, hfz, hnd⟩ := hW
  have hA : DataW.TrodAll enc Try.prog W 0 (fun _ => true) true Try.f10.params.toList args.toList ds p := hA0
  rw [Try.params10] at hA hval
  obtain ⟨v0, vs0, d0, ds0, p0, q0, hargs, rfl, rfl, h0, r0⟩ := trodAll_cons hA
  obtain ⟨rfl, rfl, rfl⟩ := trodAll_nil r0
  obtain rfl : args = #[v0] := by cases args; simp_all
  obtain ⟨rfl, rfl⟩ := trodVars_none hV
  have k0 := h0
  have lt0 : ∀ x ∈ p0, x.block < W.heap.size := by obtain ⟨m, hm⟩ := k0; exact DataW.trod_lt m _ _ _ hm
  obtain ⟨fuel0, hf0⟩ := h0
  obtain ⟨c0_0, c1_0, rfl⟩ := H.agg_of_okWide2 Try.underlying27 (by kernel_rfl) (hval 0 27 v0 rfl rfl)
  obtain ⟨⟨l0a, l0b⟩, hK0, hg0⟩ := Q.opensFlow hf0
  obtain ⟨_, _, hcs0, ⟨A0a, c0a, rfl, hc0a, hr0a⟩, ⟨A0b, c0b, rfl, hc0b, hr0b⟩⟩ := hK0
  simp only [Value.cells, List.cons_append, List.nil_append, List.cons.injEq, and_true] at hcs0
  obtain ⟨rfl, rfl⟩ := hcs0
  have hn0a := hr0a.2.1
  have hn0b := hr0b.2.1
  obtain ⟨k, hk⟩ := Q.clashesOf_law l0a l0b hn0a hn0b hg0
  refine (P.laws_FnExactClashesOf.calls k A0a c0a l0a A0b c0b l0b W hr0a hc0a hr0b hc0b hk).mono fun e W' ⟨he, bel⟩ => ?_
  subst he
  exact ⟨_, rfl, _, _, _, [], _, [], hW', trodAll_mk1 (shut_bool Try.underlying4 _), (trodAll_cons_mk (Below.trod laidOut (by kernel_rfl) (of_decide_eq_true (by kernel_rfl)) k0 bel lt0) trodAll_mk0), rfl, bel.frame _, fun h => by cases h⟩
theorem over : Rows.fnExactClashesOfRow.holds Try.pinned (OpenSpec.ofChange Rows.fnExactClashesOfSpec) :=
  OpenClaim.holds_of_wide 10 Try.f10 rfl rfl rfl rfl rfl rfl rfl ⟨rfl, rfl, rfl, rfl, rfl⟩ rfl rfl rfl rfl rfl (by kernel_rfl) Try.func10 (by kernel_rfl)
    (of_decide_eq_true (by kernel_rfl)) (by unfold Func.isWrapper; first | (rw [if_pos (by decide +kernel)]; kernel_rfl) | (rw [if_neg (by decide +kernel)]; exact ⟨rfl, rfl⟩))
    (fun os started Hh enc _ => lifted os started Hh enc)
theorem proved : Rows.FnExactClashesOfSaid := over
end Go.Proofs.Ytkfpbblaomgihaa.fnExactClashesOf
namespace Go.Proofs.Ytkfpbblaomgihaa
/-- The row, under a short name, for the claim. -/
theorem fnExactClashesOf_holds : Rows.FnExactClashesOfSaid := fnExactClashesOf.proved
end Go.Proofs.Ytkfpbblaomgihaa
