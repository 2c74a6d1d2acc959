/- MostAt: both tell the same. -/
import Derived.Test.YtclkajdafinccaaQSpans
import Derived.Test.YtclkajdafinccaaPLawsFnExactMostAt
namespace Go.Proofs.Ytclkajdafinccaa.Q
open Go.RowKit Go.Proofs.Ytclkajdafinccaa.P Go.Proofs.Ytclkajdafinccaa.H Go.Proofs.YtclkajdafinccaaW.PrintWords
set_option linter.unusedVariables false

theorem held_f (a b c : Int) : impl_Span_held.f a b c = some (decide (a ≤ c) && decide (c < b)) := by
  unfold impl_Span_held.f
  by_cases h : a ≤ c <;> simp [h]

theorem mostAt_same (k : Nat) : (∀ x0 x5 x6 x14, impl_MostAt.l0 k x0 x5 x6 x14 = spec_MostAt.l0 k x0 x5 x6 x14) ∧ (∀ x0 x5 x6 x7 x8 x17 x18 x19, impl_MostAt.l1 k x0 x5 x6 x7 x8 x7 x17 x18 x19 = spec_MostAt.l1 k x0 x5 x6 x7 x8 x17 x18 x19) := by
  induction k with
  | zero => exact ⟨fun _ _ _ _ => rfl, fun _ _ _ _ _ _ _ _ => rfl⟩
  | succ k ih =>
    refine ⟨fun x0 x5 x6 x14 => ?_, fun x0 x5 x6 x7 x8 x17 x18 x19 => ?_⟩
    · simp only [impl_MostAt.l0, spec_MostAt.l0, ih.2]
    · simp only [impl_MostAt.l1, spec_MostAt.l1, ih.1, ih.2, held_f, Option.bind_some]
      by_cases c1 : x19 < x18
      · rw [if_pos c1, if_pos c1]
        by_cases c2 : 0 ≤ x19
        · rw [if_pos c2, if_pos c2]
          by_cases c3 : x19 < (x17.length : Int)
          · rw [if_pos c3, if_pos c3]
            by_cases c4 : (rd_T65 x17 x19).f0 ≤ x7
            · by_cases c5 : x7 < (rd_T65 x17 x19).f1
              · rw [if_pos c4, if_pos c5, if_pos (by simp [c4, c5])]
              · rw [if_pos c4, if_neg c5, if_neg (by simp; omega)]
            · rw [if_neg c4, if_neg (by simp; omega)]
          · rw [if_neg c3, if_neg c3]
        · rw [if_neg c2, if_neg c2]
      · rw [if_neg c1, if_neg c1]

theorem specMostAt_ends (l : List S65) (hl : l.length ≤ 1048576) : ∃ r, Ev (fun k => spec_MostAt.l0 k l 0 0 0) r := by
  refine down0 (n := 1000) (p := fun i => ∀ x5 x6, ∃ r, Ev (fun k => spec_MostAt.l0 k l x5 x6 (i : Int)) r) ?h0 ?hs 0 0
  case h0 => exact fun x5 x6 => ⟨(x5, x6, true), Ev.step (f := fun _ => some (x5, x6, true)) (fun k => by simp only [spec_MostAt.l0]; rw [if_neg (by omega)]) (Ev.now _)⟩
  case hs =>
    intro i hi ih x5 x6
    have inner : ∀ x8, ∃ r, Ev (fun k => spec_MostAt.l1 k l x5 x6 (i : Int) x8 l (l.length : Int) 0) r := by
      refine fun x8 => down0 (n := l.length) (p := fun j => ∀ x8, ∃ r, Ev (fun k => spec_MostAt.l1 k l x5 x6 (i : Int) x8 l (l.length : Int) (j : Int)) r) ?g0 ?gs x8
      case g0 =>
        intro x8
        by_cases c : x8 > x5
        · obtain ⟨r, hr⟩ := ih x8 (i : Int)
          exact ⟨r, Ev.step (fun k => by simp only [spec_MostAt.l1]; rw [if_neg (by omega), if_pos c, w64 (by omega) (by omega)]; rfl) hr⟩
        · obtain ⟨r, hr⟩ := ih x5 x6
          exact ⟨r, Ev.step (fun k => by simp only [spec_MostAt.l1]; rw [if_neg (by omega), if_neg c, w64 (by omega) (by omega)]; rfl) hr⟩
      case gs =>
        intro j hj jh x8
        by_cases c4 : (rd_T65 l (j : Int)).f0 ≤ (i : Int)
        · by_cases c5 : (i : Int) < (rd_T65 l (j : Int)).f1
          · obtain ⟨r, hr⟩ := jh (wrap64 (x8 + 1))
            exact ⟨r, Ev.step (fun k => by simp only [spec_MostAt.l1]; rw [if_pos (by omega), if_pos (by omega), if_pos (by omega), if_pos c4, if_pos c5, w64 (x := (j : Int) + 1) (by omega) (by omega)]; rfl) hr⟩
          · obtain ⟨r, hr⟩ := jh x8
            exact ⟨r, Ev.step (fun k => by simp only [spec_MostAt.l1]; rw [if_pos (by omega), if_pos (by omega), if_pos (by omega), if_pos c4, if_neg c5, w64 (x := (j : Int) + 1) (by omega) (by omega)]; rfl) hr⟩
        · obtain ⟨r, hr⟩ := jh x8
          exact ⟨r, Ev.step (fun k => by simp only [spec_MostAt.l1]; rw [if_pos (by omega), if_pos (by omega), if_pos (by omega), if_neg c4, w64 (x := (j : Int) + 1) (by omega) (by omega)]; rfl) hr⟩
    obtain ⟨r, hr⟩ := inner 0
    exact ⟨r, Ev.step (fun k => by simp only [spec_MostAt.l0]; rw [if_pos (by omega)]) hr⟩

theorem mostAt_both (l : List S65) (hl : l.length ≤ 1048576) : ∃ r, Ev (fun k => spec_MostAt.f k l) r ∧ Ev (fun k => impl_MostAt.f k l) r := by
  unfold spec_MostAt.f impl_MostAt.f
  rw [goodSpans_eq]
  cases hb : (decide (l.length ≤ 30) && l.all goodSpan) with
  | true =>
    obtain ⟨r, hr⟩ := specMostAt_ends l hl
    exact ⟨r, (specGoodSpans_ev l hl).bind (by rw [hb]; exact hr), Ev.congr (fun k => by simp only [Option.bind_some]; rw [← (mostAt_same k).1]; simp) hr⟩
  | false => exact ⟨(0, 0, false), (specGoodSpans_ev l hl).bind (by rw [hb]; exact Ev.now _), Ev.now _⟩

theorem mostAt_law (l : List S67) (hl : l.length ≤ 9223372036854775807) : ∃ k, laws_FnExactMostAt.f k l = some true := by
  apply Ev.rounds
  unfold laws_FnExactMostAt.f laws_szSpanS.f
  by_cases hb : l.length ≤ 1048576
  · rw [w64 (by omega) (by omega), if_neg (by omega)]
    simp only [Option.bind_some]
    refine Ev.congr (fun k => by rw [if_neg (by omega)]) ?_
    have hT := toSpanS_ev l hb
    obtain ⟨r, h1, h2⟩ := mostAt_both (l.map cvSpan) (by simpa using hb)
    refine hT.bind (h1.bind (hT.bind (h2.bind ?_)))
    refine Ev.congr (fun k => by rw [if_pos rfl, if_pos rfl]) ?_
    refine Ev.step (fun k => by simp only [laws_FnExactMostAt.j0]; rw [if_neg (by simp)]) (hT.bind ((eqSpanS_ev (l.map cvSpan) (by simpa using hb)).bind ?_))
    exact ev_is fun _ => rfl
  · rw [w64 (by omega) (by omega), if_pos (by omega)]
    simpa using Ev.now _
theorem mostAt_pure (l : List S67) (hl : l.length ≤ 9223372036854775807) (_ : ∀ y ∈ l, H.I64 y.f0 ∧ H.I64 y.f1) : ∃ k, laws_FnExactMostAt.f k l = some true := mostAt_law l hl
end Go.Proofs.Ytclkajdafinccaa.Q
