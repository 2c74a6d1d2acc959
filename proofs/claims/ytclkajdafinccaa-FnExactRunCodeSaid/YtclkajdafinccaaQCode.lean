/- Code for places: what the given functions tell, in plain Lean. -/
import Derived.Test.YtclkajdafinccaaHPure
import Derived.Test.YtclkajdafinccaaHOpen
import Derived.Test.YtclkajdafinccaaPLawsFnExactRunCode
namespace Go.Proofs.Ytclkajdafinccaa.Q
open Go.RowKit Go.Proofs.Ytclkajdafinccaa.P Go.Proofs.Ytclkajdafinccaa.H Go.Proofs.YtclkajdafinccaaW.PrintWords Go.Proofs.YtclkajdafinccaaW.PrintMore
set_option linter.unusedVariables false

def cvCode (x : S93) : S89 := ⟨x.f0, x.f1, x.f2, x.f3, x.f4⟩

theorem toCodeS_ev (l : List S93) (hl : l.length ≤ 1048576) : Ev (fun k => laws_toCodeS.f k l) (l.map cvCode) := by
  unfold laws_toCodeS.f
  refine Ev.congr (fun k => by rw [if_pos (by omega), if_pos (by omega)]) ?_
  have key := down (n := l.length) (p := fun i => ∀ acc : List S89, acc.length = (l.map cvCode).length → acc.take i = (l.map cvCode).take i → Ev (fun k => laws_toCodeS.l0 k l acc (i : Int)) (l.map cvCode)) ?h0 ?hs 0 (Nat.zero_le _)
  · exact key _ (by simp) (by simp)
  case h0 =>
    intro acc ha ht
    refine Ev.step (f := fun _ => some acc) (fun k => by simp only [laws_toCodeS.l0]; rw [if_neg (by omega)]) ?_
    have e : acc = l.map cvCode := full ha (by simpa using ht)
    rw [e]
    exact Ev.now _
  case hs =>
    intro i hi ih acc ha ht
    have ha' : acc.length = l.length := by simpa using ha
    refine Ev.step (f := fun k => laws_toCodeS.l0 k l (acc.set i (cvCode (l.getD i z93))) ((i + 1 : Nat) : Int)) (fun k => ?_) ?_
    · simp only [laws_toCodeS.l0]
      rw [if_pos (by omega), if_pos (by omega)]
      simp only [laws_toCode.f, Option.bind_some]
      rw [if_pos (by omega), w64 (by omega) (by omega)]
      rfl
    · refine ih _ (by simpa using ha) (fill_step ha ht ?_)
      rw [List.getElem?_map, getD_some z93 hi]
      rfl

theorem eqCodeS_ev (l : List S89) (hl : l.length ≤ 1048576) : Ev (fun k => laws_eqCodeS.f k l l) true := by
  unfold laws_eqCodeS.f
  refine Ev.congr (fun k => by rw [if_pos rfl]) ?_
  refine down0 (n := l.length) (p := fun i => Ev (fun k => laws_eqCodeS.l0 k l l (i : Int)) true) ?h0 ?hs
  case h0 => exact Ev.step (f := fun _ => some true) (fun k => by simp only [laws_eqCodeS.l0]; rw [if_neg (by omega)]) (Ev.now _)
  case hs =>
    intro i hi ih
    refine Ev.step (fun k => ?_) ih
    simp only [laws_eqCodeS.l0]
    rw [if_pos (by omega), if_pos (by omega), if_pos (by omega), w64 (by omega) (by omega)]
    simp [laws_eqCode.f]

theorem opensCode : Opens Try.prog 93 k93 (fun x => I64 x.f0 ∧ I64 x.f1 ∧ I64 x.f2 ∧ I64 x.f3 ∧ I64 x.f4) :=
  Opens.iso (Opens.struct5 Try.underlying93 rfl rfl rfl rfl rfl (by kernel_rfl) (by kernel_rfl) (by kernel_rfl) (by kernel_rfl) (by kernel_rfl) (by kernel_rfl) (Opens.int Try.underlying3) (Opens.int Try.underlying3) (Opens.int Try.underlying3) (Opens.int Try.underlying3) (Opens.int Try.underlying3)) (fun x : S93 => (x.f0, x.f1, x.f2, x.f3, x.f4)) (fun a => (⟨a.1, a.2.1, a.2.2.1, a.2.2.2.1, a.2.2.2.2⟩ : S93)) (fun _ => rfl)


theorem runCode_pure (l : List S93) (hl : l.length ≤ 9223372036854775807) (_ : ∀ y ∈ l, I64 y.f0 ∧ I64 y.f1 ∧ I64 y.f2 ∧ I64 y.f3 ∧ I64 y.f4) : ∃ k, laws_FnExactRunCode.f k l = some true := by
  apply Ev.rounds
  unfold laws_FnExactRunCode.f laws_szCodeS.f
  by_cases hb : l.length ≤ 1048576
  · rw [w64 (by omega) (by omega), if_neg (by omega)]
    simp only [Option.bind_some]
    refine Ev.congr (fun k => by rw [if_neg (by omega)]) ?_
    have hT := toCodeS_ev l hb
    obtain ⟨r, h2⟩ : ∃ r, impl_RunCode.f (l.map cvCode) = some r := by unfold impl_RunCode.f; split <;> exact ⟨_, rfl⟩
    have h1 : spec_RunCode.f (l.map cvCode) = some r := h2
    refine hT.bind ((ev_some h1).bind (hT.bind ((ev_some h2).bind ?_)))
    refine Ev.congr (fun k => by rw [if_pos rfl, if_pos rfl]) ?_
    refine Ev.step (fun k => by simp only [laws_FnExactRunCode.j0]; rw [if_neg (by simp)]) (hT.bind ((eqCodeS_ev (l.map cvCode) (by simpa using hb)).bind ?_))
    exact ev_is fun _ => rfl
  · rw [w64 (by omega) (by omega), if_pos (by omega)]
    simpa using Ev.now _
end Go.Proofs.Ytclkajdafinccaa.Q
