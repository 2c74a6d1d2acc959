/- Numbers and rows of numbers: what the laws' own helpers come to. -/
import Derived.Test.YtplcipjlkogadaaHGraph
import Derived.Test.YtplcipjlkogadaaHOpen2
import Derived.Test.YtplcipjlkogadaaPLawsToIntSS
import Derived.Test.YtplcipjlkogadaaPLawsEqIntSS
import Derived.Test.YtplcipjlkogadaaPLawsSzIntSS
namespace Go.Proofs.Ytplcipjlkogadaa.Q
open Go.RowKit Go.Proofs.Ytplcipjlkogadaa.P Go.Proofs.Ytplcipjlkogadaa.H Go.Proofs.YtplcipjlkogadaaW.PrintWords
set_option linter.unusedVariables false

theorem toIntS_ev (l : List Int) (hl : l.length ≤ 1048576) : Ev (fun k => laws_toIntS.f k l) l := by
  unfold laws_toIntS.f
  refine Ev.congr (fun k => by rw [if_pos (by omega), if_pos (by omega)]) ?_
  have key := down (n := l.length) (p := fun i => ∀ acc : List Int, acc.length = l.length → acc.take i = l.take i → Ev (fun k => laws_toIntS.l0 k l acc (i : Int)) l) ?h0 ?hs 0 (Nat.zero_le _)
  · exact key _ (by simp) (by simp)
  case h0 =>
    intro acc ha ht
    refine Ev.step (f := fun _ => some acc) (fun k => by simp only [laws_toIntS.l0]; rw [if_neg (by omega)]) ?_
    have e : acc = l := full ha ht
    rw [e]
    exact Ev.now _
  case hs =>
    intro i hi ih acc ha ht
    refine Ev.step (f := fun k => laws_toIntS.l0 k l (acc.set i (l.getD i 0)) ((i + 1 : Nat) : Int)) (fun k => ?_) ?_
    · simp only [laws_toIntS.l0]
      rw [if_pos (by omega), if_pos (by omega), if_pos (by omega), w64 (by omega) (by omega)]
      rfl
    · exact ih _ (by simpa using ha) (fill_step ha ht (getD_some 0 hi))

theorem eqIntS_ev (l : List Int) (hl : l.length ≤ 1048576) : Ev (fun k => laws_eqIntS.f k l l) true := by
  unfold laws_eqIntS.f
  refine Ev.congr (fun k => by rw [if_pos rfl]) ?_
  refine down0 (n := l.length) (p := fun i => Ev (fun k => laws_eqIntS.l0 k l l (i : Int)) true) ?h0 ?hs
  case h0 => exact Ev.step (f := fun _ => some true) (fun k => by simp only [laws_eqIntS.l0]; rw [if_neg (by omega)]) (Ev.now _)
  case hs =>
    intro i hi ih
    refine Ev.step (fun k => ?_) ih
    simp only [laws_eqIntS.l0]
    rw [if_pos (by omega), if_pos (by omega), if_pos (by omega), if_pos trivial, w64 (by omega) (by omega)]
    rfl

/-- Rows that are not too long. -/
def Small (g : List (List Int)) : Prop := g.length ≤ 1048576 ∧ ∀ l ∈ g, l.length ≤ 1048576

theorem Small.at {g : List (List Int)} (h : Small g) {i : Nat} (hi : i < g.length) : (g.getD i []).length ≤ 1048576 := by
  rw [List.getD_eq_getElem?_getD, List.getElem?_eq_getElem hi]
  exact h.2 _ (List.getElem_mem hi)

theorem toIntSS_ev (g : List (List Int)) (hg : Small g) : Ev (fun k => laws_toIntSS.f k g) g := by
  have hl := hg.1
  unfold laws_toIntSS.f
  refine Ev.congr (fun k => by rw [if_pos (by omega), if_pos (by omega)]) ?_
  have key := down (n := g.length) (p := fun i => ∀ acc : List (List Int), acc.length = g.length → acc.take i = g.take i → Ev (fun k => laws_toIntSS.l0 k g acc (i : Int)) g) ?h0 ?hs 0 (Nat.zero_le _)
  · exact key _ (by simp) (by simp)
  case h0 =>
    intro acc ha ht
    refine Ev.step (f := fun _ => some acc) (fun k => by simp only [laws_toIntSS.l0]; rw [if_neg (by omega)]) ?_
    have e : acc = g := full ha ht
    rw [e]
    exact Ev.now _
  case hs =>
    intro i hi ih acc ha ht
    refine Ev.step (fun k => by simp only [laws_toIntSS.l0]; rw [if_pos (by omega), if_pos (by omega)]) ?_
    refine Ev.bind (toIntS_ev (rd_L1 g (i : Int)) (hg.at hi)) ?_
    refine Ev.congr (fun k => by rw [if_pos (by omega), w64 (by omega) (by omega)]) ?_
    exact ih _ (by simpa using ha) (fill_step ha ht (getD_some [] hi))

theorem eqIntSS_ev (g : List (List Int)) (hg : Small g) : Ev (fun k => laws_eqIntSS.f k g g) true := by
  have hl := hg.1
  unfold laws_eqIntSS.f
  refine Ev.congr (fun k => by rw [if_pos rfl]) ?_
  refine down0 (n := g.length) (p := fun i => Ev (fun k => laws_eqIntSS.l0 k g g (i : Int)) true) ?h0 ?hs
  case h0 => exact Ev.step (f := fun _ => some true) (fun k => by simp only [laws_eqIntSS.l0]; rw [if_neg (by omega)]) (Ev.now _)
  case hs =>
    intro i hi ih
    refine Ev.step (fun k => by simp only [laws_eqIntSS.l0]; rw [if_pos (by omega), if_pos (by omega), if_pos (by omega)]) ?_
    refine Ev.bind (eqIntS_ev (rd_L1 g (i : Int)) (hg.at hi)) ?_
    refine Ev.congr (fun k => by rw [if_pos rfl, w64 (by omega) (by omega)]) ?_
    exact ih

/-- The budget: it is spent, or what it was spent on is small. -/
theorem szIntSS_ev (g : List (List Int)) (b : Int) (hb0 : 0 ≤ b) (hb : b ≤ 1048576) (hl : Len (Len I64) g) : ∃ v, Ev (fun k => laws_szIntSS.f k g b) v ∧ (v < 0 ∨ 0 ≤ v ∧ v ≤ b ∧ Small g) := by
  have hlen := hl.1
  unfold laws_szIntSS.f
  rw [w64 (x := b - (g.length : Int)) (by omega) (by omega)]
  by_cases c : b - (g.length : Int) < 0
  · refine ⟨-1, ?_, .inl (by omega)⟩
    exact Ev.congr (fun k => by rw [if_pos c]) (Ev.now _)
  · have key := down (n := g.length) (p := fun i => ∀ t : Int, 0 ≤ t → t ≤ b → ∃ v, Ev (fun k => laws_szIntSS.l0 k g t (i : Int)) v ∧ (v < 0 ∨ 0 ≤ v ∧ v ≤ b ∧ ∀ j, i ≤ j → j < g.length → (g.getD j []).length ≤ 1048576)) ?h0 ?hs 0 (Nat.zero_le _) (b - (g.length : Int)) (by omega) (by omega)
    · obtain ⟨v, hv, h⟩ := key
      refine ⟨v, Ev.congr (fun k => by rw [if_neg c]; rfl) hv, ?_⟩
      rcases h with h | ⟨h1, h2, h3⟩
      · exact .inl h
      · refine .inr ⟨h1, h2, by omega, fun l hm => ?_⟩
        obtain ⟨j, hj, e⟩ := List.getElem_of_mem hm
        have := h3 j (Nat.zero_le _) hj
        rw [List.getD_eq_getElem?_getD, List.getElem?_eq_getElem hj, e] at this
        exact this
    case h0 =>
      intro t h0 h1
      refine ⟨t, Ev.step (f := fun _ => some t) (fun k => by simp only [laws_szIntSS.l0]; rw [if_neg (by omega)]) (Ev.now _), .inr ⟨h0, h1, fun j h h' => by omega⟩⟩
    case hs =>
      intro i hi ih t h0 h1
      have hr : (g.getD i []).length ≤ 9223372036854775807 := by
        rw [List.getD_eq_getElem?_getD, List.getElem?_eq_getElem hi]
        exact (hl.2 _ (List.getElem_mem hi)).1
      have er : rd_L1 g (i : Int) = g.getD i [] := rfl
      by_cases c2 : t - ((g.getD i []).length : Int) < 0
      · refine ⟨-1, Ev.step (f := fun _ => some (-1)) (fun k => ?_) (Ev.now _), .inl (by omega)⟩
        simp only [laws_szIntSS.l0, laws_szIntS.f, er]
        rw [if_pos (by omega), if_pos (by omega), w64 (by omega) (by omega), if_pos c2]
        rfl
      · obtain ⟨v, hv, h⟩ := ih (t - ((g.getD i []).length : Int)) (by omega) (by omega)
        refine ⟨v, Ev.step (fun k => ?_) hv, ?_⟩
        · simp only [laws_szIntSS.l0, laws_szIntS.f, er]
          rw [if_pos (by omega), if_pos (by omega), w64 (by omega) (by omega), if_neg c2, Option.bind_some, if_neg c2, w64 (by omega) (by omega)]
          rfl
        · rcases h with h | ⟨h2, h3, h4⟩
          · exact .inl h
          · refine .inr ⟨h2, h3, fun j hj hj' => ?_⟩
            by_cases e : j = i
            · rw [e]; omega
            · exact h4 j (by omega) hj'
end Go.Proofs.Ytplcipjlkogadaa.Q
