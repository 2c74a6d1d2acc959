/- Spans: what the given functions tell, in plain Lean. -/
import Derived.Test.YtclkajdafinccaaHPure
import Derived.Test.YtclkajdafinccaaHOpen
import Derived.Test.YtclkajdafinccaaPLawsFnExactGoodSpans
namespace Go.Proofs.Ytclkajdafinccaa.Q
open Go.RowKit Go.Proofs.Ytclkajdafinccaa.P Go.Proofs.Ytclkajdafinccaa.H Go.Proofs.YtclkajdafinccaaW.PrintWords
set_option linter.unusedVariables false

def cvSpan (x : S67) : S65 := ⟨x.f0, x.f1⟩

theorem toSpanS_ev (l : List S67) (hl : l.length ≤ 1048576) : Ev (fun k => laws_toSpanS.f k l) (l.map cvSpan) := by
  unfold laws_toSpanS.f
  refine Ev.congr (fun k => by rw [if_pos (by omega), if_pos (by omega)]) ?_
  have key := down (n := l.length) (p := fun i => ∀ acc : List S65, acc.length = (l.map cvSpan).length → acc.take i = (l.map cvSpan).take i → Ev (fun k => laws_toSpanS.l0 k l acc (i : Int)) (l.map cvSpan)) ?h0 ?hs 0 (Nat.zero_le _)
  · exact key _ (by simp) (by simp)
  case h0 =>
    intro acc ha ht
    refine Ev.step (f := fun _ => some acc) (fun k => by simp only [laws_toSpanS.l0]; rw [if_neg (by omega)]) ?_
    have e : acc = l.map cvSpan := full ha (by simpa using ht)
    rw [e]
    exact Ev.now _
  case hs =>
    intro i hi ih acc ha ht
    have ha' : acc.length = l.length := by simpa using ha
    refine Ev.step (f := fun k => laws_toSpanS.l0 k l (acc.set i (cvSpan (l.getD i z67))) ((i + 1 : Nat) : Int)) (fun k => ?_) ?_
    · simp only [laws_toSpanS.l0]
      rw [if_pos (by omega), if_pos (by omega)]
      simp only [laws_toSpan.f, Option.bind_some]
      rw [if_pos (by omega), w64 (by omega) (by omega)]
      rfl
    · refine ih _ (by simpa using ha) (fill_step ha ht ?_)
      rw [List.getElem?_map, getD_some z67 hi]
      rfl

theorem eqSpanS_ev (l : List S65) (hl : l.length ≤ 1048576) : Ev (fun k => laws_eqSpanS.f k l l) true := by
  unfold laws_eqSpanS.f
  refine Ev.congr (fun k => by rw [if_pos rfl]) ?_
  refine down0 (n := l.length) (p := fun i => Ev (fun k => laws_eqSpanS.l0 k l l (i : Int)) true) ?h0 ?hs
  case h0 => exact Ev.step (f := fun _ => some true) (fun k => by simp only [laws_eqSpanS.l0]; rw [if_neg (by omega)]) (Ev.now _)
  case hs =>
    intro i hi ih
    refine Ev.step (fun k => ?_) ih
    simp only [laws_eqSpanS.l0]
    rw [if_pos (by omega), if_pos (by omega), if_pos (by omega), w64 (by omega) (by omega)]
    simp [laws_eqSpan.f]

def goodSpan (s : S65) : Bool := !(decide (s.f0 < 0) || decide (s.f0 ≥ s.f1) || decide (s.f1 > 1000))

theorem specGoodSpans_ev (l : List S65) (hl : l.length ≤ 1048576) : Ev (fun k => spec_GoodSpans.f k l) (decide (l.length ≤ 30) && l.all goodSpan) := by
  unfold spec_GoodSpans.f
  refine ev_eq (down0 (n := l.length) (p := fun i => Ev (fun k => spec_GoodSpans.l0 k l l (l.length : Int) (i : Int)) ((l.drop i).all goodSpan && decide (l.length ≤ 30))) ?h0 ?hs) (by simp [Bool.and_comm])
  case h0 =>
    refine Ev.step (f := fun _ => some (decide (l.length ≤ 30))) (fun k => ?_) ?_
    · simp only [spec_GoodSpans.l0]
      rw [if_neg (by omega)]
      congr 1
      rw [decide_eq_decide]
      omega
    · simpa using Ev.now _
  case hs =>
    intro i hi ih
    have e : l.drop i = l.getD i z65 :: l.drop (i + 1) := by
      rw [List.drop_eq_getElem_cons hi, List.getD_eq_getElem?_getD, List.getElem?_eq_getElem hi]
      rfl
    rw [e, List.all_cons]
    have hr : rd_T65 l (i : Int) = l.getD i z65 := rfl
    by_cases c : goodSpan (l.getD i z65) = true
    · rw [c, Bool.true_and]
      simp only [goodSpan, Bool.not_eq_true', Bool.or_eq_false_iff, decide_eq_false_iff_not] at c
      refine Ev.step (fun k => ?_) ih
      simp only [spec_GoodSpans.l0]
      rw [if_pos (by omega), if_pos (by omega), if_pos (by omega), hr, if_neg c.1.1, if_neg c.1.2, if_neg c.2, w64 (by omega) (by omega)]
      rfl
    · have c' : goodSpan (l.getD i z65) = false := by simpa using c
      rw [c', Bool.false_and, Bool.false_and]
      simp only [goodSpan, Bool.not_eq_false', Bool.or_eq_true, decide_eq_true_eq] at c'
      refine Ev.step (f := fun _ => some false) (fun k => ?_) (Ev.now _)
      simp only [spec_GoodSpans.l0]
      rw [if_pos (by omega), if_pos (by omega), if_pos (by omega), hr]
      by_cases c1 : (l.getD i z65).f0 < 0
      · rw [if_pos c1]
      · rw [if_neg c1]
        by_cases c2 : (l.getD i z65).f0 ≥ (l.getD i z65).f1
        · rw [if_pos c2]
        · rw [if_neg c2, if_pos (by omega)]

theorem goodSpans_eq (l : List S65) : impl_GoodSpans.f l = some (decide (l.length ≤ 30) && l.all goodSpan) := rfl

theorem goodSpans_law (l : List S67) (hl : l.length ≤ 9223372036854775807) : ∃ k, laws_FnExactGoodSpans.f k l = some true := by
  apply Ev.rounds
  unfold laws_FnExactGoodSpans.f laws_szSpanS.f
  by_cases hb : l.length ≤ 1048576
  · rw [w64 (by omega) (by omega), if_neg (by omega)]
    simp only [Option.bind_some]
    refine Ev.congr (fun k => by rw [if_neg (by omega)]) ?_
    have hT := toSpanS_ev l hb
    refine hT.bind ((specGoodSpans_ev _ (by simpa using hb)).bind (hT.bind ?_))
    refine (ev_some (x := impl_GoodSpans.f (l.map cvSpan)) (goodSpans_eq _)).bind ?_
    refine Ev.congr (fun k => by rw [if_neg (by simp)]) (hT.bind ((eqSpanS_ev (l.map cvSpan) (by simpa using hb)).bind ?_))
    exact ev_is fun _ => rfl
  · rw [w64 (by omega) (by omega), if_pos (by omega)]
    simpa using Ev.now _
theorem opensSpan : Opens Try.prog 67 k67 (fun x => I64 x.f0 ∧ I64 x.f1) :=
  Opens.iso (Opens.struct2 Try.underlying67 rfl rfl (by kernel_rfl) (by kernel_rfl) (by kernel_rfl) (Opens.int Try.underlying3) (Opens.int Try.underlying3)) (fun x : S67 => (x.f0, x.f1)) (fun a => (⟨a.1, a.2⟩ : S67)) (fun _ => rfl)

theorem goodSpans_pure (l : List S67) (hl : l.length ≤ 9223372036854775807) (_ : ∀ y ∈ l, I64 y.f0 ∧ I64 y.f1) : ∃ k, laws_FnExactGoodSpans.f k l = some true := goodSpans_law l hl
end Go.Proofs.Ytclkajdafinccaa.Q
