/- Good graphs: the program and the reference tell the same. -/
import Derived.Test.YtplcipjlkogadaaQInts
import Derived.Test.YtplcipjlkogadaaPSpecGoodGraph
import Derived.Test.YtplcipjlkogadaaPImplGoodGraph
import Derived.Test.YtplcipjlkogadaaPLawsToGraph
import Derived.Test.YtplcipjlkogadaaPLawsEqGraph
import Derived.Test.YtplcipjlkogadaaPLawsSzGraph
namespace Go.Proofs.Ytplcipjlkogadaa.Q
open Go.RowKit Go.Proofs.Ytplcipjlkogadaa.P Go.Proofs.Ytplcipjlkogadaa.H Go.Proofs.YtplcipjlkogadaaW.PrintWords
set_option linter.unusedVariables false

theorem toGraph_ev (g : List (List Int)) (hg : Small g) : Ev (fun k => laws_toGraph.f k g) g := by
  unfold laws_toGraph.f
  exact (toIntSS_ev g hg).bind (Ev.now _)

theorem eqGraph_ev (g : List (List Int)) (hg : Small g) : Ev (fun k => laws_eqGraph.f k g g) true := by
  unfold laws_eqGraph.f
  refine (eqIntSS_ev g hg).bind ?_
  exact ev_is fun k => rfl

theorem szGraph_ev (g : List (List Int)) (b : Int) (hb0 : 0 ≤ b) (hb : b ≤ 1048576) (hl : Len (Len I64) g) : ∃ v, Ev (fun k => laws_szGraph.f k g b) v ∧ (v < 0 ∨ 0 ≤ v ∧ v ≤ b ∧ Small g) := by
  obtain ⟨v, hv, h⟩ := szIntSS_ev g b hb0 hb hl
  unfold laws_szGraph.f
  by_cases c : v < 0
  · exact ⟨-1, hv.bind (Ev.congr (fun k => by rw [if_pos c]) (Ev.now _)), .inl (by omega)⟩
  · exact ⟨v, hv.bind (Ev.congr (fun k => by rw [if_neg c]) (Ev.now _)), h⟩

theorem l1In_tell (a b c : Int) : spec_l1In.f a b c = some (decide (b ≤ a) && decide (a ≤ c)) := by
  unfold spec_l1In.f
  by_cases h : a ≥ b
  · rw [if_pos h, decide_eq_true h, Bool.true_and]
  · rw [if_neg h, decide_eq_false h, Bool.false_and]

theorem upAt_yes {l : List Int} {lo hi : Int} {j : Nat} (h0 : lo ≤ l.getD j 0) (h1 : l.getD j 0 ≤ hi) (h2 : j = 0 ∨ l.getD (j - 1) 0 < l.getD j 0) : upAt l lo hi j = true := by
  unfold upAt
  rw [decide_eq_true h0, decide_eq_true h1]
  rcases h2 with h2 | h2
  · rw [decide_eq_true h2]; rfl
  · rw [decide_eq_true h2, Bool.or_true]; rfl

theorem upAt_no {l : List Int} {lo hi : Int} {j : Nat} (h : ¬ (lo ≤ l.getD j 0 ∧ l.getD j 0 ≤ hi ∧ (j = 0 ∨ l.getD (j - 1) 0 < l.getD j 0))) : upAt l lo hi j = false := by
  cases e : upAt l lo hi j with
  | false => rfl
  | true =>
    unfold upAt at e
    simp only [Bool.and_eq_true, Bool.or_eq_true, decide_eq_true_eq] at e
    exact absurd ⟨e.1.1, e.1.2, e.2⟩ h

/-- All rows from one on, told. -/
theorem specGoodGraph_ev (g : List (List Int)) (hg : Small g) : Ev (fun k => spec_GoodGraph.f k g) (goodG g) := by
  have hlen := hg.1
  unfold spec_GoodGraph.f
  have key := down0 (n := g.length) (p := fun i => Ev (fun k => spec_GoodGraph.l0 k (g.length : Int) g (g.length : Int) (i : Int)) (((g.drop i).all fun l => upB l 0 ((g.length : Int) - 1) 0) && (decide (1 ≤ g.length) && decide (g.length ≤ 12)))) ?h0 ?hs
  · refine ev_eq key ?_
    unfold goodG
    rw [List.drop_zero, Bool.and_comm]
  case h0 =>
    refine Ev.step (f := fun _ => some (decide (1 ≤ g.length) && decide (g.length ≤ 12))) (fun k => ?_) ?_
    · simp only [spec_GoodGraph.l0]
      rw [if_neg (by omega), l1In_tell, Option.bind_some]
      congr 1
      rw [Bool.eq_iff_iff]
      simp
      omega
    · simpa using Ev.now _
  case hs =>
    intro i hi ih
    have e : g.drop i = g.getD i [] :: g.drop (i + 1) := by
      rw [List.drop_eq_getElem_cons hi, List.getD_eq_getElem?_getD, List.getElem?_eq_getElem hi]
      rfl
    rw [e, List.all_cons, Bool.and_assoc]
    have hr : rd_L1 g (i : Int) = g.getD i [] := rfl
    refine Ev.step (fun k => by simp only [spec_GoodGraph.l0]; rw [if_pos (by omega), if_pos (by omega), if_pos (by omega), hr]) ?_
    have hll := hg.at hi
    generalize g.getD i [] = l at hll ⊢
    generalize (((g.drop (i + 1)).all fun l => upB l 0 ((g.length : Int) - 1) 0) && (decide (1 ≤ g.length) && decide (g.length ≤ 12))) = R at ih ⊢
    refine down0 (n := l.length) (p := fun j => Ev (fun k => spec_GoodGraph.l1 k (g.length : Int) l g (g.length : Int) (i : Int) l (l.length : Int) (j : Int)) (upB l 0 ((g.length : Int) - 1) j && R)) ?h0' ?hs'
    case h0' =>
      rw [upB_end, Bool.true_and]
      refine Ev.step (fun k => ?_) ih
      simp only [spec_GoodGraph.l1]
      rw [if_neg (by omega), w64 (by omega) (by omega)]
      rfl
    case hs' =>
      intro j hj ih
      rw [upB_step l 0 _ hj, Bool.and_assoc]
      have hx : rd l (j : Int) = l.getD j 0 := rfl
      have stop : ∀ b, upAt l 0 ((g.length : Int) - 1) j = false → b = false → Ev (fun _ => some b) (upAt l 0 ((g.length : Int) - 1) j && (upB l 0 ((g.length : Int) - 1) (j + 1) && R)) := by
        intro b h1 h2
        rw [h1, h2]
        exact Ev.now _
      by_cases c0 : l.getD j 0 < 0
      · refine Ev.step (f := fun _ => some false) (fun k => ?_) (stop _ (upAt_no (by omega)) rfl)
        simp only [spec_GoodGraph.l1]
        rw [if_pos (by omega), if_pos (by omega), if_pos (by omega), hx, if_pos c0]
      · by_cases c1 : l.getD j 0 ≥ (g.length : Int)
        · refine Ev.step (f := fun _ => some false) (fun k => ?_) (stop _ (upAt_no (by omega)) rfl)
          simp only [spec_GoodGraph.l1]
          rw [if_pos (by omega), if_pos (by omega), if_pos (by omega), hx, if_neg c0, if_pos c1]
        · by_cases cj : j = 0
          · have e : upAt l 0 ((g.length : Int) - 1) j = true := upAt_yes (by omega) (by omega) (.inl cj)
            rw [e, Bool.true_and]
            refine Ev.step (fun k => ?_) ih
            simp only [spec_GoodGraph.l1]
            rw [if_pos (by omega), if_pos (by omega), if_pos (by omega), hx, if_neg c0, if_neg c1, if_neg (by omega), w64 (by omega) (by omega)]
            rfl
          · have ew : wrap64 ((j : Int) - 1) = ((j - 1 : Nat) : Int) := by rw [w64 (by omega) (by omega)]; omega
            have hx1 : rd l (wrap64 ((j : Int) - 1)) = l.getD (j - 1) 0 := by rw [ew]; rfl
            by_cases c2 : l.getD (j - 1) 0 ≥ l.getD j 0
            · refine Ev.step (f := fun _ => some false) (fun k => ?_) (stop _ (upAt_no (by omega)) rfl)
              simp only [spec_GoodGraph.l1]
              rw [if_pos (by omega), if_pos (by omega), if_pos (by omega), hx, if_neg c0, if_neg c1, if_pos (by omega), if_pos (by rw [ew]; omega), if_pos (by rw [ew]; omega), hx1, if_pos c2]
            · have e : upAt l 0 ((g.length : Int) - 1) j = true := upAt_yes (by omega) (by omega) (.inr (by omega))
              rw [e, Bool.true_and]
              refine Ev.step (fun k => ?_) ih
              simp only [spec_GoodGraph.l1]
              rw [if_pos (by omega), if_pos (by omega), if_pos (by omega), hx, if_neg c0, if_neg c1, if_pos (by omega), if_pos (by rw [ew]; omega), if_pos (by rw [ew]; omega), hx1, if_neg c2, w64 (by omega) (by omega)]
              rfl

theorem opensRow : Opens Try.prog 31 (Kd.slice 3 (Kd.int .i64)) (Len I64) := Opens.sliceL Try.underlying31 (by kernel_rfl) (Opens.int Try.underlying3)
theorem opensRows : Opens Try.prog 22 (Kd.slice 31 (Kd.slice 3 (Kd.int .i64))) (Len (Len I64)) := Opens.sliceL Try.underlying22 (by kernel_rfl) opensRow
theorem opensGraph : Opens Try.prog 24 (Kd.slice 31 (Kd.slice 3 (Kd.int .i64))) (Len (Len I64)) := Opens.struct1 Try.underlying24 rfl (by kernel_rfl) (by kernel_rfl) opensRows
end Go.Proofs.Ytplcipjlkogadaa.Q
