import Derived.Laws.Bits64b
import Derived.SizedLaws
import Derived.ChangeSlices
import Derived.Test.YtplcipjlkogadaaMFnLoops1
import Derived.Test.YtplcipjlkogadaaMFnLoops2
import Derived.Test.YtplcipjlkogadaaMFnLoops3
import Derived.Test.YtplcipjlkogadaaMFnLoops4
import Derived.Test.YtplcipjlkogadaaMFnLoops5
import Derived.Test.YtplcipjlkogadaaMFnLoops6
set_option linter.unusedVariables false
set_option linter.unusedSimpArgs false
set_option linter.unusedSectionVars false
namespace Go.Proofs.Ytplcipjlkogadaa.P
open Go.RowKit Go.Proofs.YtplcipjlkogadaaW.PrintWords Go.Proofs.YtplcipjlkogadaaW.PrintLast Go.Proofs.YtplcipjlkogadaaW.PrintMore
attribute [local go_sem] max2_int min2_int max_two min_two max_three min_three max_four min_four
mutual
def spec_l10Nearest.l0 : Nat → List (List Int) → List Int → List (List Int) → Int → Int → Option (List Int)
  | 0, _, _, _, _, _ => none
  | k + 1, x3, x4, x12, x13, x14 => if x14 < x13 then (if 0 ≤ x14 then (if x14 < (x12.length : Int) then (spec_l10Nearest.l1 k x3 x4 x14 (-1) x12 x13 x14 (rd_L1 x12 x14) ((rd_L1 x12 x14).length : Int) 0) else (none)) else (none)) else (some x4)
def spec_l10Nearest.l1 : Nat → List (List Int) → List Int → Int → Int → List (List Int) → Int → Int → List Int → Int → Int → Option (List Int)
  | 0, _, _, _, _, _, _, _, _, _, _ => none
  | k + 1, x3, x4, x5, x7, x12, x13, x14, x19, x20, x21 => if x21 < x20 then (if 0 ≤ x21 then (if x21 < (x19.length : Int) then (if (rd x19 x21) = x5 then (spec_l10Nearest.l1 k x3 x4 x5 x7 x12 x13 x14 x19 x20 (wrap64 (x21 + 1))) else (if x7 < 0 then (spec_l10Nearest.l1 k x3 x4 x5 (rd x19 x21) x12 x13 x14 x19 x20 (wrap64 (x21 + 1))) else (if 0 ≤ (rd x19 x21) then (if (rd x19 x21) < (x3.length : Int) then (if 0 ≤ x7 then (if x7 < (x3.length : Int) then (if ((rd_L1 x3 (rd x19 x21)).length : Int) > ((rd_L1 x3 x7).length : Int) then (spec_l10Nearest.l1 k x3 x4 x5 (rd x19 x21) x12 x13 x14 x19 x20 (wrap64 (x21 + 1))) else (spec_l10Nearest.l1 k x3 x4 x5 x7 x12 x13 x14 x19 x20 (wrap64 (x21 + 1)))) else (none)) else (none)) else (none)) else (none)))) else (none)) else (none)) else (if x4.length < 17592186044416 then (spec_l10Nearest.l0 k x3 (x4 ++ [x7]) x12 x13 (wrap64 (x14 + 1))) else (none))
end
def spec_l10Nearest.f (k : Nat) (l0_0 : List (List Int)) : Option (List Int) := (spec_l10Dominators.f l0_0).bind fun t297 => (spec_l10Nearest.l0 k t297 ([] : List Int) t297 (t297.length : Int) 0)
end Go.Proofs.Ytplcipjlkogadaa.P

namespace Go.Proofs.Ytplcipjlkogadaa.P
open Go.RowKit Go.Proofs.YtplcipjlkogadaaW.PrintWords Go.Proofs.YtplcipjlkogadaaW.PrintLast Go.Proofs.YtplcipjlkogadaaW.PrintMore
attribute [local go_sem] max2_int min2_int max_two min_two max_three min_three max_four min_four
def spec_NearestOf.f (k : Nat) (l0_0 : List (List Int)) : Option (List Int × Bool) := (spec_GoodGraph.f k l0_0).bind fun t308 => (if t308 = true then ((spec_l10Nearest.f k l0_0).bind fun t309 => (some (t309, true))) else (some (([] : List Int), false)))
end Go.Proofs.Ytplcipjlkogadaa.P

namespace Go.Proofs.Ytplcipjlkogadaa.Q
open Go.RowKit Go.Proofs.Ytplcipjlkogadaa.P Go.Proofs.Ytplcipjlkogadaa.H Go.Proofs.YtplcipjlkogadaaW.PrintWords
section
variable {g : List (List Int)}
theorem domL_at {b : Nat} (hb : b < g.length) : (domL g).getD b [] = listTo ((domF g).getD b []) 12 := by
  have hbl : b < (domF g).length := by unfold domF; rw [matF_len]; exact hb
  unfold domL
  rw [List.getD_eq_getElem?_getD, List.getElem?_map, List.getD_eq_getElem?_getD, List.getElem?_eq_getElem hbl]
  rfl
end
end Go.Proofs.Ytplcipjlkogadaa.Q

namespace Go.Proofs.Ytplcipjlkogadaa.Q
open Go.RowKit Go.Proofs.Ytplcipjlkogadaa.P Go.Proofs.Ytplcipjlkogadaa.H Go.Proofs.YtplcipjlkogadaaW.PrintWords
variable {g : List (List Int)}
structure DM (g : List (List Int)) (b x : Int) : Prop where
  rx : Rch g (-1) 0 x
  rb : Rch g (-1) 0 b
  no : ¬ Rch g x 0 b
theorem DM.self {x : Int} (h : Rch g (-1) 0 x) : DM g x x := ⟨h, h, fun h => h.ne rfl⟩
theorem DM.trans {b m x : Int} (h1 : DM g b m) (h2 : DM g m x) : DM g b x := by
  refine ⟨h2.rx, h1.rb, fun h => ?_⟩
  have key : ∀ z, Rch g x 0 z → Rch g m 0 z ∨ Rch g x 0 m := by
    intro z hz
    induction hz with
    | here hz =>
      by_cases e0 : (0 : Int) = m
      · exact .inr (e0 ▸ .here hz)
      · exact .inl (.here e0)
    | @on a b hx hm hw ih =>
      rcases ih with ih | ih
      · by_cases e0 : b = m
        · subst e0; exact .inr (.on hx hm hw)
        · exact .inl (.on ih hm e0)
      · exact .inr ih
  rcases key b h with h | h
  · exact h1.no h
  · exact h2.no h
end Go.Proofs.Ytplcipjlkogadaa.Q

namespace Go.Proofs.Ytplcipjlkogadaa.Q
open Go.RowKit Go.Proofs.Ytplcipjlkogadaa.P Go.Proofs.Ytplcipjlkogadaa.H Go.Proofs.YtplcipjlkogadaaW.PrintWords
section
variable {g : List (List Int)} (hG : goodG g = true)
include hG
theorem dm_iff {b : Nat} (hb : b < g.length) (d : Int) : d ∈ (domL g).getD b [] ↔ DM g (b : Int) d := by
  rw [(domL_rel hG).mem b hb]
  constructor
  · rintro ⟨h1, h2, h3⟩
    exact ⟨(listTo_reach hG _).1 h1, (listTo_reach hG _).1 h2, fun h => h3 ((listTo_reach hG _).2 h)⟩
  · rintro ⟨h1, h2, h3⟩
    exact ⟨(listTo_reach hG _).2 h1, (listTo_reach hG _).2 h2, fun h => h3 ((listTo_reach hG _).1 h)⟩
end
end Go.Proofs.Ytplcipjlkogadaa.Q

namespace Go.Proofs.Ytplcipjlkogadaa.P
open Go.RowKit Go.Proofs.YtplcipjlkogadaaW.PrintWords Go.Proofs.YtplcipjlkogadaaW.PrintLast Go.Proofs.YtplcipjlkogadaaW.PrintMore
attribute [local go_sem] max2_int min2_int max_two min_two max_three min_three max_four min_four
def spec_DominatorsOf.f (k : Nat) (l0_0 : List (List Int)) : Option ((List (List Int)) × Bool) := (spec_GoodGraph.f k l0_0).bind fun t277 => (if t277 = true then ((spec_l10Dominators.f l0_0).bind fun t278 => (some (t278, true))) else (some (([] : List (List Int)), false)))
end Go.Proofs.Ytplcipjlkogadaa.P

namespace Go.Proofs.Ytplcipjlkogadaa.P
open Go.RowKit Go.Proofs.YtplcipjlkogadaaW.PrintWords Go.Proofs.YtplcipjlkogadaaW.PrintLast Go.Proofs.YtplcipjlkogadaaW.PrintMore
attribute [local go_sem] max2_int min2_int max_two min_two max_three min_three max_four min_four
def spec_ReachedOf.f (k : Nat) (l0_0 : List (List Int)) : Option (List Int × Bool) := (spec_GoodGraph.f k l0_0).bind fun t203 => (if t203 = true then ((spec_l10Reach.f k l0_0 (-1)).bind fun t204 => (some (t204, true))) else (some (([] : List Int), false)))
end Go.Proofs.Ytplcipjlkogadaa.P

namespace Go.Proofs.Ytplcipjlkogadaa.P
open Go.RowKit Go.Proofs.YtplcipjlkogadaaW.PrintWords Go.Proofs.YtplcipjlkogadaaW.PrintLast Go.Proofs.YtplcipjlkogadaaW.PrintMore
attribute [local go_sem] max2_int min2_int max_two min_two max_three min_three max_four min_four
def impl_Without.f (l0_0 : List (List Int)) (a1 : Int) : Option (List Int × Bool) := some (if H.goodG l0_0 && H.inB a1 0 ((l0_0.length : Int) - 1) then (listTo (H.reachF l0_0 0 a1) 12, true) else ([], false))
end Go.Proofs.Ytplcipjlkogadaa.P

namespace Go.Proofs.Ytplcipjlkogadaa.P
open Go.RowKit Go.Proofs.YtplcipjlkogadaaW.PrintWords Go.Proofs.YtplcipjlkogadaaW.PrintLast Go.Proofs.YtplcipjlkogadaaW.PrintMore
attribute [local go_sem] max2_int min2_int max_two min_two max_three min_three max_four min_four
def spec_Without.f (k : Nat) (l0_0 : List (List Int)) (a1 : Int) : Option (List Int × Bool) := (spec_GoodGraph.f k l0_0).bind fun t210 => (if t210 = true then (if a1 < 0 then (some (([] : List Int), false)) else (if a1 ≥ (l0_0.length : Int) then (some (([] : List Int), false)) else ((spec_l10Reach.f k l0_0 a1).bind fun t211 => (some (t211, true))))) else (some (([] : List Int), false)))
end Go.Proofs.Ytplcipjlkogadaa.P

namespace Go.Proofs.Ytplcipjlkogadaa.Q.C
open Go.RowKit Go.Proofs.Ytplcipjlkogadaa.P Go.Proofs.Ytplcipjlkogadaa.H Go.Proofs.YtplcipjlkogadaaW.PrintWords
theorem small_lists (M : List (List Bool)) (h : M.length ≤ 1048576) : Small (M.map (fun r => listTo r 12)) := ⟨by rw [List.length_map]; exact h, fun r hr => by obtain ⟨x, _, rfl⟩ := List.mem_map.1 hr; exact listTo_small x⟩
theorem small_nil' : Small ([] : List (List Int)) := ⟨by simp, fun r hr => by simp at hr⟩
theorem dominatorsOf_core (g : List (List Int)) (hg : Small g) : ∃ (s1 : List (List Int)) (s2 : Bool), Ev (fun k => spec_DominatorsOf.f k g) (s1, s2) ∧ impl_DominatorsOf.f g = some (s1, s2) ∧ Small s1 := by
  unfold impl_DominatorsOf.f spec_DominatorsOf.f
  cases hG : goodG g with
  | false =>
    refine ⟨[], false, (specGoodGraph_ev g hg).bind ?_, by rw [if_neg (by simp)], small_nil'⟩
    rw [hG]
    exact ev_is fun k => by rw [if_neg (by simp)]
  | true =>
    refine ⟨domL g, true, (specGoodGraph_ev g hg).bind ?_, by rw [if_pos rfl]; rfl, small_lists _ (by unfold domF; rw [matF_len]; exact hg.1)⟩
    rw [hG]
    exact ev_is fun k => by rw [if_pos rfl]; unfold spec_l10Dominators.f; rw [hG, if_pos rfl]; rfl
theorem reachedOf_core (g : List (List Int)) (hg : Small g) : ∃ (s1 : List Int) (s2 : Bool), Ev (fun k => spec_ReachedOf.f k g) (s1, s2) ∧ impl_ReachedOf.f g = some (s1, s2) ∧ s1.length ≤ 1048576 := by
  unfold impl_ReachedOf.f spec_ReachedOf.f
  cases hG : goodG g with
  | false =>
    refine ⟨[], false, (specGoodGraph_ev g hg).bind ?_, by rw [if_neg (by simp)], by simp⟩
    rw [hG]
    exact ev_is fun k => by rw [if_neg (by simp)]
  | true =>
    refine ⟨_, true, (specGoodGraph_ev g hg).bind ?_, by rw [if_pos rfl], listTo_small _⟩
    rw [hG]
    refine Ev.congr (fun k => by rw [if_pos rfl]) ((specReach_ev hG (-1)).bind ?_)
    exact Ev.now _
end Go.Proofs.Ytplcipjlkogadaa.Q.C

namespace Go.Proofs.Ytplcipjlkogadaa.H
open Go.RowKit Go.Proofs.YtplcipjlkogadaaW.PrintWords
end Go.Proofs.Ytplcipjlkogadaa.H

namespace Go.Proofs.Ytplcipjlkogadaa.Q
open Go.RowKit Go.Proofs.Ytplcipjlkogadaa.P Go.Proofs.Ytplcipjlkogadaa.H Go.Proofs.YtplcipjlkogadaaW.PrintWords
theorem matL_mem (f : Nat → Nat → Bool) (n : Nat) {b : Nat} (hb : b < n) (y : Int) : y ∈ ((matF f n).map (fun r => listTo r 12)).getD b [] ↔ ∃ j : Nat, j < 12 ∧ y = (j : Int) ∧ f b j = true := (rel_mat f n).mem b hb y
theorem domL_mem (g : List (List Int)) {b : Nat} (hb : b < g.length) (y : Int) : y ∈ (domL g).getD b [] ↔ ∃ j : Nat, j < 12 ∧ y = (j : Int) ∧ (decide (j < g.length) && domV g b j) = true := matL_mem _ _ hb y
theorem domL_bit (g : List (List Int)) {b j : Nat} (hb : b < g.length) (hj : j < 12) : (j : Int) ∈ (domL g).getD b [] ↔ (decide (j < g.length) && domV g b j) = true := by
  rw [domL_mem g hb]
  constructor
  · rintro ⟨i, _, e, h⟩
    rwa [show j = i by omega]
  · intro h
    exact ⟨j, hj, rfl, h⟩
theorem domL_length (g : List (List Int)) : (domL g).length = g.length := by unfold domL domF; rw [List.length_map, matF_len]
theorem domL_len12 {g : List (List Int)} (b : Nat) : ((domL g).getD b []).length ≤ 12 := by
  by_cases hb : b < g.length
  · refine srt_len12 ((rel_mat _ _).srt b hb) (fun y hy => ?_)
    obtain ⟨j, h, rfl, _⟩ := (domL_mem g hb y).1 hy
    omega
  · rw [List.getD_eq_getElem?_getD, List.getElem?_eq_none (by rw [domL_length]; omega)]
    decide
end Go.Proofs.Ytplcipjlkogadaa.Q

namespace Go.Proofs.Ytplcipjlkogadaa.Q
open Go.RowKit Go.Proofs.Ytplcipjlkogadaa.P Go.Proofs.Ytplcipjlkogadaa.H Go.Proofs.YtplcipjlkogadaaW.PrintWords
structure SndB (g : List (List Int)) (fr t : Int) (acc : List Int) : Prop where
  srt : Srt acc
  snd : ∀ y ∈ acc, y = t ∨ Bk g fr t y
section
variable {g : List (List Int)} {fr t : Int}
theorem SndB.len (hG : goodG g = true) (hf : 0 ≤ fr ∧ fr < (g.length : Int)) (ht : 0 ≤ t ∧ t < (g.length : Int)) {acc : List Int} (h : SndB g fr t acc) : acc.length ≤ 12 := srt_len12 h.srt (fun y hy => by
  have hr := goodG_rows hG
  rcases h.snd y hy with h | h
  · omega
  · have := h.rng hf.1 hf.2; omega)
theorem SndB.put {acc : List Int} {y : Int} (h : SndB g fr t acc) (hy : y = t ∨ Bk g fr t y) : SndB g fr t (putL acc y) := ⟨putL_srt y acc h.srt, fun z hz => by
  rcases (putL_mem y acc z).1 hz with e | e
  · exact h.snd z e
  · rw [e]; exact hy⟩
theorem loop_row (hG : goodG g = true) (hf : 0 ≤ fr ∧ fr < (g.length : Int)) (ht : 0 ≤ t ∧ t < (g.length : Int)) {i : Nat} (hi : i < g.length) (n0 : Int) (row : List Int) (hrow : row = g.getD i []) :
    ∀ (d m : Nat) (acc : List Int), m + d = row.length → SndB g fr t acc → ∃ acc', SndB g fr t acc' ∧ (∀ y ∈ acc, y ∈ acc') ∧ (∀ x ∈ row.drop m, x ≠ t → x ∈ acc → (i : Int) ∈ acc') ∧
      ∀ r, Ev (fun k => spec_LoopOf.l1 k t acc' n0 g (g.length : Int) ((i : Int) + 1) g) r → Ev (fun k => spec_LoopOf.l2 k t acc n0 (i : Int) g (g.length : Int) (i : Int) row (row.length : Int) (m : Int) g) r := by
  have hr := goodG_rows hG
  intro d
  induction d with
  | zero =>
    intro m acc hm h
    refine ⟨acc, h, fun _ h => h, fun y hy => by rw [List.drop_of_length_le (by omega)] at hy; simp at hy, fun r hr => ?_⟩
    refine Ev.step (fun k => ?_) hr
    simp only [spec_LoopOf.l2]
    rw [if_neg (by omega), w64 (by omega) (by omega)]
  | succ d ih =>
    intro m acc hm h
    have hml : m < row.length := by omega
    have hsm := (goodG_small hG).at hi
    rw [← hrow] at hsm
    have hdrop := drop_eq hml
    have hval : rd row (m : Int) = row.getD m 0 := rfl
    have hmem : row.getD m 0 ∈ row := by
      rw [List.getD_eq_getElem?_getD, List.getElem?_eq_getElem hml]
      exact List.getElem_mem hml
    have hlen := h.len hG hf ht
    have hhas := has_ev acc (row.getD m 0) (by omega)
    by_cases e : row.getD m 0 = t
    · obtain ⟨acc', h1, h2, h3, h4⟩ := ih (m + 1) acc (by omega) h
      refine ⟨acc', h1, h2, fun y hy hw ha => ?_, fun r hr => ?_⟩
      · rw [hdrop] at hy
        rcases List.mem_cons.1 hy with q | q
        · exact absurd (q.trans e) hw
        · exact h3 y q hw ha
      · refine Ev.step (fun k => ?_) (h4 r hr)
        simp only [spec_LoopOf.l2]
        rw [if_pos (by omega), if_pos (by omega), if_pos (by omega), hval, if_pos e, w64 (by omega) (by omega)]
        rfl
    · by_cases ha : row.getD m 0 ∈ acc
      · have hb : Bk g fr t (row.getD m 0) := by
          rcases h.snd _ ha with h | h
          · exact absurd h e
          · exact h
        have hbi : Bk g fr t (i : Int) := .back hb e (by rw [Int.toNat_natCast, ← hrow]; exact hmem) (by omega) (by omega)
        obtain ⟨acc', h1, h2, h3, h4⟩ := ih (m + 1) (putL acc (i : Int)) (by omega) (h.put (.inr hbi))
        have hin : (i : Int) ∈ acc' := h2 _ ((putL_mem _ _ _).2 (.inr rfl))
        refine ⟨acc', h1, fun y hy => h2 y ((putL_mem _ _ _).2 (.inl hy)), fun y hy hw hya => hin, fun r hr => ?_⟩
        have hh := h4 r hr
        rw [show ((m + 1 : Nat) : Int) = (m : Int) + 1 from rfl] at hh
        refine Ev.step (fun k => ?_) (hhas.bind (f := fun k v => if v = true then (spec_l1Put.f k acc (i : Int)).bind fun w => spec_LoopOf.l2 k t w n0 (i : Int) g (g.length : Int) (i : Int) row (row.length : Int) ((m : Int) + 1) g else spec_LoopOf.l2 k t acc n0 (i : Int) g (g.length : Int) (i : Int) row (row.length : Int) ((m : Int) + 1) g) ?_)
        · simp only [spec_LoopOf.l2]
          rw [if_pos (by omega), if_pos (by omega), if_pos (by omega), hval, if_neg e, w64 (by omega) (by omega)]
        · rw [decide_eq_true ha]
          exact Ev.congr (fun k => by rw [if_pos rfl]) ((put_ev acc (i : Int) (by omega)).bind (f := fun k v => spec_LoopOf.l2 k t v n0 (i : Int) g (g.length : Int) (i : Int) row (row.length : Int) ((m : Int) + 1) g) hh)
      · obtain ⟨acc', h1, h2, h3, h4⟩ := ih (m + 1) acc (by omega) h
        refine ⟨acc', h1, h2, fun y hy hw hya => ?_, fun r hr => ?_⟩
        · rw [hdrop] at hy
          rcases List.mem_cons.1 hy with q | q
          · rw [q] at hya; exact absurd hya ha
          · exact h3 y q hw hya
        · have hh := h4 r hr
          rw [show ((m + 1 : Nat) : Int) = (m : Int) + 1 from rfl] at hh
          refine Ev.step (fun k => ?_) (hhas.bind (f := fun k v => if v = true then (spec_l1Put.f k acc (i : Int)).bind fun w => spec_LoopOf.l2 k t w n0 (i : Int) g (g.length : Int) (i : Int) row (row.length : Int) ((m : Int) + 1) g else spec_LoopOf.l2 k t acc n0 (i : Int) g (g.length : Int) (i : Int) row (row.length : Int) ((m : Int) + 1) g) ?_)
          · simp only [spec_LoopOf.l2]
            rw [if_pos (by omega), if_pos (by omega), if_pos (by omega), hval, if_neg e, w64 (by omega) (by omega)]
          · rw [decide_eq_false ha]
            exact Ev.congr (fun k => by rw [if_neg (by simp)]) hh
theorem loop_pass (hG : goodG g = true) (hf : 0 ≤ fr ∧ fr < (g.length : Int)) (ht : 0 ≤ t ∧ t < (g.length : Int)) (n0 : Int) :
    ∀ (d i : Nat) (acc : List Int), i + d = g.length → SndB g fr t acc → ∃ acc', SndB g fr t acc' ∧ (∀ y ∈ acc, y ∈ acc') ∧ (∀ j : Nat, i ≤ j → j < g.length → ∀ x ∈ g.getD j [], x ≠ t → x ∈ acc → (j : Int) ∈ acc') ∧
      ∀ r, Ev (fun k => if (acc'.length : Int) = n0 then some (acc', true) else spec_LoopOf.l0 k t acc' g) r → Ev (fun k => spec_LoopOf.l1 k t acc n0 g (g.length : Int) (i : Int) g) r := by
  have hr := goodG_rows hG
  intro d
  induction d with
  | zero =>
    intro i acc hi h
    refine ⟨acc, h, fun _ h => h, fun j h1 h2 => by omega, fun r hr => ?_⟩
    refine Ev.step (fun k => ?_) hr
    simp only [spec_LoopOf.l1]
    rw [if_neg (by omega)]
  | succ d ih =>
    intro i acc hi h
    have hil : i < g.length := by omega
    have er : rd_L1 g (i : Int) = g.getD i [] := rfl
    obtain ⟨a1, q1, q2, q3, q4⟩ := loop_row hG hf ht hil n0 (g.getD i []) rfl (g.getD i []).length 0 acc (by omega) h
    obtain ⟨acc', h1, h2, h3, h4⟩ := ih (i + 1) a1 (by omega) q1
    refine ⟨acc', h1, fun y hy => h2 y (q2 y hy), fun j j1 j2 y hy hw ha => ?_, fun r hr => ?_⟩
    · by_cases ej : j = i
      · subst ej
        exact h2 _ (q3 y (by rw [List.drop_zero]; exact hy) hw ha)
      · exact h3 j (by omega) j2 y hy hw (q2 _ ha)
    · refine Ev.step (fun k => ?_) (q4 r (h4 r hr))
      simp only [spec_LoopOf.l1]
      rw [if_pos (by omega), if_pos (by omega), if_pos (by omega), er]
      rfl
end
theorem loopL_mem {g : List (List Int)} (hG : goodG g = true) {fr t : Nat} (hf : fr < g.length) (ht : t < g.length) (y : Int) : y ∈ listTo (loopF g fr t) 12 ↔ (y = (t : Int) ∨ Bk g (fr : Int) (t : Int) y) := by
  have hr := goodG_rows hG
  rw [listTo_mem]
  unfold loopF loopTo
  constructor
  · rintro ⟨j, h1, rfl, h2⟩
    rw [rowF_get h1, Bool.and_eq_true, decide_eq_true_eq] at h2
    rcases (loopV_iff hG hf h2.1).1 h2.2 with h | h
    · exact .inl (by omega)
    · exact .inr h
  · intro h
    have hy : 0 ≤ y ∧ y < (g.length : Int) := by
      rcases h with h | h
      · omega
      · exact h.rng (by omega) (by omega)
    obtain ⟨j, rfl⟩ : ∃ j : Nat, y = (j : Int) := ⟨y.toNat, by omega⟩
    refine ⟨j, by omega, rfl, ?_⟩
    rw [rowF_get (by omega), Bool.and_eq_true, decide_eq_true_eq]
    refine ⟨by omega, (loopV_iff hG hf (by omega)).2 ?_⟩
    rcases h with h | h
    · exact .inl (by omega)
    · exact .inr h
theorem loop_all {g : List (List Int)} (hG : goodG g = true) {fr t : Nat} (hf : fr < g.length) (ht : t < g.length) : ∀ (m : Nat) (acc : List Int), SndB g (fr : Int) (t : Int) acc → (fr : Int) ∈ acc → (t : Int) ∈ acc → 13 ≤ acc.length + m → Ev (fun k => spec_LoopOf.l0 k (t : Int) acc g) (listTo (loopF g fr t) 12, true) := by
  intro m
  induction m with
  | zero => intro acc h _ _ hm; have := h.len hG (by omega) (by omega); omega
  | succ m ih =>
    intro acc h h0 h00 hm
    obtain ⟨acc', h1, h2, h3, h4⟩ := loop_pass hG (fr := (fr : Int)) (t := (t : Int)) (by omega) (by omega) (acc.length : Int) g.length 0 acc (by omega) h
    refine Ev.step (fun k => by simp only [spec_LoopOf.l0]; rfl) (h4 _ ?_)
    have hsub := srt_sub_len h.srt h1.srt h2
    by_cases e : acc'.length = acc.length
    · have eq := hsub.2 e.symm
      subst eq
      refine Ev.congr (fun k => by rw [if_pos rfl]) ?_
      have : acc = listTo (loopF g fr t) 12 := by
        refine srt_ext h.srt (listTo_srt _ _) (fun y => ?_)
        rw [loopL_mem hG hf ht]
        constructor
        · exact h.snd y
        · rintro (hy | hy)
          · rw [hy]; exact h00
          · induction hy with
            | self => exact h0
            | @back k x hx hxw hm hk0 hk1 ih2 =>
              have := h3 k.toNat (Nat.zero_le _) (by omega) x hm hxw ih2
              rwa [show ((k.toNat : Nat) : Int) = k by omega] at this
      rw [this]
      exact Ev.now _
    · refine Ev.congr (fun k => by rw [if_neg (by omega)]) (ih acc' h1 (h2 _ h0) (h2 _ h00) (by omega))
theorem edge_iff {g : List (List Int)} (hG : goodG g = true) {b t : Nat} (hb : b < g.length) (ht : t < g.length) : (beTo (domF g) g g.length).any (isEdge (b : Int) (t : Int)) = (decide ((t : Int) ∈ g.getD b []) && decide ((t : Int) ∈ (domL g).getD b [])) := by
  have hr := goodG_rows hG
  have hbit : ((domF g).getD b []).getD t false = decide ((t : Int) ∈ (domL g).getD b []) := by
    rw [Bool.eq_iff_iff, decide_eq_true_eq, domL_bit g hb (by omega)]
    unfold domF
    rw [matF_row hb, rowF_get (by omega)]
  rw [Bool.eq_iff_iff, Bool.and_eq_true, ← hbit, decide_eq_true_eq]
  constructor
  · intro h
    obtain ⟨b', h1, h2, h3, h4⟩ := isEdge_mem h
    obtain rfl : b' = b := by omega
    rw [Int.toNat_natCast] at h4
    exact ⟨h3, h4⟩
  · rintro ⟨h1, h2⟩
    refine List.any_eq_true.2 ⟨[(b : Int), (t : Int)], ?_, by unfold isEdge; rw [Bool.and_eq_true]; exact ⟨decide_eq_true rfl, decide_eq_true rfl⟩⟩
    unfold beTo beRow
    simp only [List.mem_flatMap, List.mem_range, List.mem_map, List.mem_filter]
    exact ⟨b, hb, (t : Int), ⟨h1, by rw [Int.toNat_natCast]; exact h2⟩, rfl⟩
theorem edge_none {g : List (List Int)} (hG : goodG g = true) {a1 a2 : Int} (h : a1 < 0 ∨ a1 ≥ (g.length : Int) ∨ a2 < 0 ∨ a2 ≥ (g.length : Int)) : (beTo (domF g) g g.length).any (isEdge a1 a2) = false := by
  have hr := goodG_rows hG
  rw [Bool.eq_false_iff]
  intro h2
  obtain ⟨b, h1, rfl, h3, h4⟩ := isEdge_mem h2
  have := goodG_row hG b a2 h3
  omega
theorem loopOf_core (g : List (List Int)) (a1 a2 : Int) (hg : Small g) : ∃ (s1 : List Int) (s2 : Bool), Ev (fun k => spec_LoopOf.f k g a1 a2) (s1, s2) ∧ impl_LoopOf.f g a1 a2 = some (s1, s2) ∧ s1.length ≤ 1048576 := by
  unfold impl_LoopOf.f spec_LoopOf.f
  have hj : Ev (fun k => spec_LoopOf.j0 k a1 a2 true g) ([], false) := Ev.step (f := fun _ => some ([], false)) (fun k => by simp only [spec_LoopOf.j0]; rw [if_pos trivial]) (Ev.now _)
  cases hG : goodG g with
  | false =>
    refine ⟨[], false, (specGoodGraph_ev g hg).bind ?_, by rw [Bool.false_and, if_neg (by simp)], by simp⟩
    rw [hG]
    exact Ev.congr (fun k => by rw [if_neg (by simp)]) hj
  | true =>
    by_cases h0 : a1 < 0
    · refine ⟨[], false, (specGoodGraph_ev g hg).bind ?_, by rw [edge_none hG (.inl h0)]; simp, by simp⟩
      rw [hG]
      exact Ev.congr (fun k => by rw [if_pos rfl, if_pos h0]) hj
    · by_cases h1 : a1 ≥ (g.length : Int)
      · refine ⟨[], false, (specGoodGraph_ev g hg).bind ?_, by rw [edge_none hG (.inr (.inl h1))]; simp, by simp⟩
        rw [hG]
        exact Ev.congr (fun k => by rw [if_pos rfl, if_neg h0, if_pos h1]) hj
      · by_cases h2 : a2 < 0
        · refine ⟨[], false, (specGoodGraph_ev g hg).bind ?_, by rw [edge_none hG (.inr (.inr (.inl h2)))]; simp, by simp⟩
          rw [hG]
          exact Ev.congr (fun k => by rw [if_pos rfl, if_neg h0, if_neg h1, if_pos h2]) hj
        · by_cases h3 : a2 ≥ (g.length : Int)
          · refine ⟨[], false, (specGoodGraph_ev g hg).bind ?_, by rw [edge_none hG (.inr (.inr (.inr h3)))]; simp, by simp⟩
            rw [hG]
            exact Ev.congr (fun k => by rw [if_pos rfl, if_neg h0, if_neg h1, if_neg h2, if_pos h3]) hj
          · obtain ⟨fr, rfl⟩ : ∃ k : Nat, a1 = (k : Int) := ⟨a1.toNat, by omega⟩
            obtain ⟨t, rfl⟩ : ∃ k : Nat, a2 = (k : Int) := ⟨a2.toNat, by omega⟩
            have hf : fr < g.length := by omega
            have ht : t < g.length := by omega
            have hsm := (goodG_small hG).at hf
            have he := edge_iff hG hf ht
            have er : rd_L1 g (fr : Int) = g.getD fr [] := rfl
            have er2 : rd_L1 (domL g) (fr : Int) = (domL g).getD fr [] := rfl
            have hd : spec_l10Dominators.f g = some (domL g) := by unfold spec_l10Dominators.f; rw [hG, if_pos rfl]
            have hdl := domL_length g
            have hd12 := domL_len12 (g := g) fr
            rw [Int.toNat_natCast, Int.toNat_natCast]
            by_cases hm : (t : Int) ∈ g.getD fr []
            · by_cases hm2 : (t : Int) ∈ (domL g).getD fr []
              · rw [decide_eq_true hm, decide_eq_true hm2] at he
                refine ⟨_, true, (specGoodGraph_ev g hg).bind ?_, by rw [he]; rfl, listTo_small _⟩
                rw [hG]
                refine Ev.congr (fun k => by rw [if_pos rfl, if_neg h0, if_neg h1, if_neg h2, if_neg h3, if_pos (by omega), if_pos (by omega), er]) ((has_ev (g.getD fr []) (t : Int) (by omega)).bind ?_)
                rw [decide_eq_true hm]
                refine Ev.congr (fun k => by rw [if_pos rfl, hd, Option.bind_some, if_pos (by omega), er2]) ((has_ev ((domL g).getD fr []) (t : Int) (by omega)).bind ?_)
                rw [decide_eq_true hm2]
                refine Ev.step (fun k => ?_) ((put_ev [(t : Int)] (fr : Int) (by simp)).bind (f := fun k v => spec_LoopOf.l0 k (t : Int) v g) ?_)
                · simp only [spec_LoopOf.j0]
                  rw [if_neg (by simp)]
                · have hs : SndB g (fr : Int) (t : Int) (putL [(t : Int)] (fr : Int)) := SndB.put ⟨by simp [Srt], fun y hy => .inl (List.mem_singleton.1 hy)⟩ (.inr .self)
                  exact loop_all hG hf ht 13 _ hs ((putL_mem _ _ _).2 (.inr rfl)) ((putL_mem _ _ _).2 (.inl (by simp))) (by omega)
              · rw [decide_eq_false hm2, Bool.and_false] at he
                refine ⟨[], false, (specGoodGraph_ev g hg).bind ?_, by rw [he]; simp, by simp⟩
                rw [hG]
                refine Ev.congr (fun k => by rw [if_pos rfl, if_neg h0, if_neg h1, if_neg h2, if_neg h3, if_pos (by omega), if_pos (by omega), er]) ((has_ev (g.getD fr []) (t : Int) (by omega)).bind ?_)
                rw [decide_eq_true hm]
                refine Ev.congr (fun k => by rw [if_pos rfl, hd, Option.bind_some, if_pos (by omega), er2]) ((has_ev ((domL g).getD fr []) (t : Int) (by omega)).bind ?_)
                rw [decide_eq_false hm2]
                exact hj
            · rw [decide_eq_false hm, Bool.false_and] at he
              refine ⟨[], false, (specGoodGraph_ev g hg).bind ?_, by rw [he]; simp, by simp⟩
              rw [hG]
              refine Ev.congr (fun k => by rw [if_pos rfl, if_neg h0, if_neg h1, if_neg h2, if_neg h3, if_pos (by omega), if_pos (by omega), er]) ((has_ev (g.getD fr []) (t : Int) (by omega)).bind ?_)
              rw [decide_eq_false hm]
              exact Ev.congr (fun k => by rw [if_neg (by simp)]) hj
end Go.Proofs.Ytplcipjlkogadaa.Q

namespace Go.Proofs.Ytplcipjlkogadaa.Q
open Go.RowKit Go.Proofs.Ytplcipjlkogadaa.P Go.Proofs.Ytplcipjlkogadaa.H Go.Proofs.YtplcipjlkogadaaW.PrintWords
theorem low_byte {n : Int} (h0 : 0 ≤ n) (h1 : n < 18446744073709551616) : 0 ≤ Go.bits .and .u64 n 255 ∧ Go.bits .and .u64 n 255 < 256 := by
  have h := bits_and_u64_nat n.toNat 255 (by omega) (by omega)
  rw [Int.toNat_of_nonneg h0] at h
  have h2 : n.toNat &&& 255 ≤ 255 := Nat.and_le_right
  have h3 : Go.bits .and .u64 n 255 = ((n.toNat &&& 255 : Nat) : Int) := h
  rw [h3]
  omega
theorem drawn_byte (n : Int) : ∃ x, wrap64 (Go.bits .and .u64 (IntKind.u64.wrap n / 1099511627776) 255) = x ∧ 0 ≤ x ∧ x < 256 := by
  have hw := IntKind.wrap_u64 n
  have h := low_byte (n := IntKind.u64.wrap n / 1099511627776) (by omega) (by omega)
  refine ⟨_, rfl, ?_⟩
  rw [w64 (by omega) (by omega)]
  exact h
def Byt (l : List Int) : Prop := ∀ x ∈ l, 0 ≤ x ∧ x < 256
theorem next_ok {code : List Int} (hc : Byt code) (hl : code.length ≤ 4611686018427387904) {at_ : Int} (sd : Int) (h0 : 0 ≤ at_) (h1 : at_ ≤ 4611686018427387904) : ∃ x sd', spec_l1Cur_next.f code at_ sd = some (x, at_ + 1, sd') ∧ 0 ≤ x ∧ x < 256 := by
  unfold spec_l1Cur_next.f
  have hw : wrap64 (at_ + 1) = at_ + 1 := w64 (by omega) (by omega)
  by_cases c : at_ < (code.length : Int)
  · rw [if_pos c, if_pos h0, hw, if_pos (by omega)]
    have hr : rd code at_ = code.getD at_.toNat 0 := rfl
    have hx := hc _ (show code.getD at_.toNat 0 ∈ code by rw [List.getD_eq_getElem?_getD, List.getElem?_eq_getElem (by omega)]; exact List.getElem_mem _)
    exact ⟨_, _, rfl, by rw [hr, w64 (by omega) (by omega)]; exact hx.1, by rw [hr, w64 (by omega) (by omega)]; exact hx.2⟩
  · rw [if_neg c, hw]
    by_cases c2 : at_ + 1 ≤ (code.length : Int)
    · rw [if_pos c2]
      exact ⟨_, _, rfl, by omega, by omega⟩
    · rw [if_neg c2]
      obtain ⟨x, hx, h2⟩ := drawn_byte (IntKind.u64.wrap (IntKind.u64.wrap (sd * 6364136223846793005) + 0) + 1442695040888963407)
      exact ⟨_, _, rfl, by rw [hx]; exact h2.1, by rw [hx]; exact h2.2⟩
theorem pick_ok {code : List Int} (hc : Byt code) (hl : code.length ≤ 4611686018427387904) {at_ : Int} (sd n : Int) (h0 : 0 ≤ at_) (h1 : at_ + 2 ≤ 4611686018427387904) : ∃ x at' sd', spec_l1Cur_pick.f code at_ sd n = some (x, at', sd') ∧ 0 ≤ x ∧ (1 ≤ n → x < n) ∧ at_ ≤ at' ∧ at' ≤ at_ + 2 := by
  unfold spec_l1Cur_pick.f
  by_cases c : n ≤ 1
  · rw [if_pos c]
    exact ⟨0, at_, sd, rfl, by omega, fun _ => by omega, by omega, by omega⟩
  · rw [if_neg c]
    obtain ⟨x, sd1, e, hx0, hx1⟩ := next_ok hc hl sd h0 (by omega)
    rw [e, Option.bind_some]
    by_cases c2 : n > 200
    · obtain ⟨y, sd2, e2, hy0, hy1⟩ := next_ok hc hl sd1 (at_ := at_ + 1) (by omega) (by omega)
      simp only []
      rw [if_pos c2, e2, Option.bind_some]
      simp only []
      rw [if_neg (by omega)]
      have hw : wrap64 (x * 256) = x * 256 := w64 (by omega) (by omega)
      have hw2 : wrap64 (wrap64 (x * 256) + y) = x * 256 + y := by rw [hw]; exact w64 (by omega) (by omega)
      have hm : Int.tmod (x * 256 + y) n = (x * 256 + y) % n := Int.tmod_eq_emod_of_nonneg (by omega)
      have hm0 := Int.emod_nonneg (x * 256 + y) (show n ≠ 0 by omega)
      have hm1 := Int.emod_lt_of_pos (x * 256 + y) (show 0 < n by omega)
      exact ⟨_, _, _, rfl, by rw [hw2, hm]; exact hm0, fun _ => by rw [hw2, hm]; exact hm1, by omega, by omega⟩
    · simp only []
      rw [if_neg c2, if_neg (by omega)]
      have hm : Int.tmod x n = x % n := Int.tmod_eq_emod_of_nonneg hx0
      have hm0 := Int.emod_nonneg x (show n ≠ 0 by omega)
      have hm1 := Int.emod_lt_of_pos x (show 0 < n by omega)
      exact ⟨_, _, _, rfl, by rw [hm]; exact hm0, fun _ => by rw [hm]; exact hm1, by omega, by omega⟩
theorem one_ok {code : List Int} (hc : Byt code) (hl : code.length ≤ 4611686018427387904) {at_ : Int} (sd n : Int) (h0 : 0 ≤ at_) (h1 : at_ + 2 ≤ 4611686018427387904) : ∃ x at' sd', spec_l1Cur_one.f code at_ sd n = some (x, at', sd') ∧ at_ ≤ at' ∧ at' ≤ at_ + 2 := by
  unfold spec_l1Cur_one.f
  obtain ⟨x, a, s, e, _, _, h3, h4⟩ := pick_ok hc hl sd n h0 h1
  rw [e, Option.bind_some]
  exact ⟨_, a, s, rfl, h3, h4⟩
structure Fair (n m : Nat) (g : List (List Int)) : Prop where
  len : g.length ≤ n
  row : ∀ r ∈ g, r.length ≤ m
theorem Fair.small {n m : Nat} {g : List (List Int)} (h : Fair n m g) (hn : n ≤ 1048576) (hm : m ≤ 1048576) : Small g := ⟨Nat.le_trans h.len hn, fun r hr => Nat.le_trans (h.row r hr) hm⟩
def Drw (r : List (List Int) × Int × Int) : Prop := Fair 13 5 r.1 ∧ 1 ≤ r.1.length ∧ 0 ≤ r.2.1 ∧ r.2.1 ≤ 200
section
variable {code : List Int} (hc : Byt code) (hl : code.length ≤ 1048576) {n : Int}
include hc hl
theorem graph_l1 {K : Int} (kk : Int) (g : List (List Int)) (hgl : g.length ≤ 13) (cont : ∀ (row : List Int) (at_ sd : Int), row.length ≤ 4 → 0 ≤ at_ → at_ ≤ K + 4 → ∃ r, Drw r ∧ Ev (fun k => spec_l1Cur_graph.l0 k n (wrap64 (kk + 1)) code at_ sd (g ++ [row])) r) (hK : K ≤ 1048576) :
    ∀ (m : Nat) (row : List Int) (at_ sd : Int), m ≤ 2 → row.length + m ≤ 4 → 0 ≤ at_ → at_ + 2 * m ≤ K + 4 → ∃ r, Drw r ∧ Ev (fun k => spec_l1Cur_graph.l1 k n kk row (m : Int) code at_ sd g) r := by
  intro m
  induction m with
  | zero =>
    intro row at_ sd _ hr h0 h1
    obtain ⟨r, hr1, hr2⟩ := cont row at_ sd (by omega) h0 (by omega)
    refine ⟨r, hr1, Ev.step (fun k => ?_) hr2⟩
    simp only [spec_l1Cur_graph.l1]
    rw [if_neg (by omega), if_pos (by omega)]
  | succ m ih =>
    intro row at_ sd hm hr h0 h1
    obtain ⟨x, a, s, e, _, _, ha1, ha2⟩ := pick_ok hc (by omega) sd n h0 (by omega)
    have hp := putL_len x row
    obtain ⟨r, hr1, hr2⟩ := ih (putL row x) a s (by omega) (by omega) (by omega) (by omega)
    refine ⟨r, hr1, Ev.step (fun k => ?_) ((put_ev row x (by omega)).bind (f := fun k t => spec_l1Cur_graph.l1 k n kk t (m : Int) code a s g) hr2)⟩
    simp only [spec_l1Cur_graph.l1]
    rw [if_pos (by omega), e, Option.bind_some, w64 (by omega) (by omega), show ((m + 1 : Nat) : Int) - 1 = (m : Int) by omega]
theorem graph_j3 {i : Nat} (hi : (i : Int) < n) (hn2 : n ≤ 13) (g : List (List Int)) (hg : g.length = i) (hf : Fair 13 4 g) {B : Int} (hB : B ≤ 1000) (cont : ∀ (row : List Int) (at_ sd : Int), row.length ≤ 4 → 0 ≤ at_ → at_ ≤ B + 6 → ∃ r, Drw r ∧ Ev (fun k => spec_l1Cur_graph.l0 k n ((i + 1 : Nat) : Int) code at_ sd (g ++ [row])) r) (row : List Int) (hr : row.length ≤ 1) (at_ sd : Int) (h0 : 0 ≤ at_) (h1 : at_ ≤ B) :
    ∃ r, Drw r ∧ Ev (fun k => spec_l1Cur_graph.j3 k n (i : Int) row code at_ sd g) r := by
  obtain ⟨x, a, s, e, hx0, hx1, ha1, ha2⟩ := pick_ok hc (by omega) sd (3 : Int) h0 (by omega)
  have hx3 := hx1 (by omega)
  obtain ⟨m, rfl⟩ : ∃ m : Nat, x = (m : Int) := ⟨x.toNat, by omega⟩
  have hw : wrap64 ((i : Int) + 1) = ((i + 1 : Nat) : Int) := w64 (by omega) (by omega)
  obtain ⟨r, hr1, hr2⟩ := graph_l1 hc hl (n := n) (K := B + 2) (i : Int) g (by omega) (fun row at_ sd h1 h2 h3 => by
    rw [hw]
    exact cont row at_ sd h1 h2 (by omega)) (by omega) m row a s (by omega) (by omega) (by omega) (by omega)
  refine ⟨r, hr1, Ev.step (fun k => ?_) hr2⟩
  simp only [spec_l1Cur_graph.j3]
  rw [e, Option.bind_some]
theorem graph_l0 (hn1 : 1 ≤ n) (hn2 : n ≤ 13) : ∀ (d i : Nat) (g : List (List Int)) (at_ sd : Int), (i : Int) + d = n → g.length = i → Fair 13 4 g → 0 ≤ at_ → at_ ≤ 10 + 10 * i → ∃ r, Drw r ∧ Ev (fun k => spec_l1Cur_graph.l0 k n (i : Int) code at_ sd g) r := by
  intro d
  induction d with
  | zero =>
    intro i g at_ sd hi hg hf h0 h1
    obtain ⟨b, a, s, e, ha1, ha2⟩ := one_ok hc (by omega) sd 30 h0 (by omega)
    cases b with
    | false =>
      refine ⟨(g, a, s), ⟨⟨hf.len, fun r hr => Nat.le_trans (hf.row r hr) (by decide)⟩, by show 1 ≤ g.length; omega, by show 0 ≤ a; omega, by show a ≤ 200; omega⟩, Ev.step (f := fun _ => some (g, a, s)) (fun k => ?_) (Ev.now _)⟩
      simp only [spec_l1Cur_graph.l0]
      rw [if_neg (by omega), e, Option.bind_some, if_neg (by simp)]
    | true =>
      obtain ⟨x, a2, s2, e2, hx0, hx1, hb1, hb2⟩ := pick_ok hc (by omega) s (3 : Int) (at_ := a) (by omega) (by omega)
      have hx3 := hx1 (by omega)
      have hrow : rd_L1 g 0 = g.getD 0 [] := rfl
      have hmem : g.getD 0 [] ∈ g := by rw [List.getD_eq_getElem?_getD, List.getElem?_eq_getElem (by omega)]; exact List.getElem_mem _
      have hr4 := hf.row _ hmem
      have hal : spec_l1Cur_among.f code a s [-1, 0, n] = some (rd [-1, 0, n] x, a2, s2) := by
        unfold spec_l1Cur_among.f
        show (spec_l1Cur_pick.f code a s 3).bind _ = _
        rw [e2, Option.bind_some]
        simp only []
        rw [if_pos hx0]
        exact if_pos hx3
      refine ⟨(g.set (0 : Int).toNat (g.getD 0 [] ++ [rd [-1, 0, n] x]), a2, s2), ⟨⟨by rw [List.length_set]; exact hf.len, fun r hr => ?_⟩, by rw [List.length_set]; omega, by show 0 ≤ a2; omega, by show a2 ≤ 200; omega⟩, Ev.step (f := fun _ => some (g.set (0 : Int).toNat (g.getD 0 [] ++ [rd [-1, 0, n] x]), a2, s2)) (fun k => ?_) (Ev.now _)⟩
      · rcases List.mem_or_eq_of_mem_set hr with hr | rfl
        · exact Nat.le_trans (hf.row r hr) (by decide)
        · rw [List.length_append, List.length_singleton]; omega
      · simp only [spec_l1Cur_graph.l0]
        rw [if_neg (by omega), e, Option.bind_some, if_pos rfl, if_pos (by omega), hal, Option.bind_some, hrow, if_pos (by omega)]
  | succ d ih =>
    intro i g at_ sd hi hg hf h0 h1
    have hw : wrap64 ((i : Int) + 1) = ((i + 1 : Nat) : Int) := w64 (by omega) (by omega)
    have hcont : ∀ (row : List Int) (at_ sd : Int), row.length ≤ 4 → 0 ≤ at_ → at_ ≤ 14 + 10 * (i : Int) + 6 → ∃ r, Drw r ∧ Ev (fun k => spec_l1Cur_graph.l0 k n ((i + 1 : Nat) : Int) code at_ sd (g ++ [row])) r := by
      intro row at_ sd hr h0 h1
      refine ih (i + 1) (g ++ [row]) at_ sd (by omega) (by rw [List.length_append, List.length_singleton]; omega) ⟨by rw [List.length_append, List.length_singleton]; omega, fun r hr' => ?_⟩ h0 (by omega)
      rcases List.mem_append.1 hr' with h | h
      · exact hf.row r h
      · rw [List.mem_singleton.1 h]; exact hr
    have hj3 := fun row hr at_ sd h0 h1 => graph_j3 hc hl (n := n) (i := i) (by omega) hn2 g hg hf (B := 14 + 10 * (i : Int)) (by omega) hcont row hr at_ sd h0 h1
    have hj2 : ∀ (b : Bool) (at_ sd : Int), 0 ≤ at_ → at_ ≤ 14 + 10 * (i : Int) → ∃ r, Drw r ∧ Ev (fun k => spec_l1Cur_graph.j2 k n (i : Int) [] b code at_ sd g) r := by
      intro b at_ sd h0 h1
      cases b with
      | false =>
        obtain ⟨r, hr1, hr2⟩ := hj3 [] (by simp) at_ sd h0 h1
        exact ⟨r, hr1, Ev.step (fun k => by simp only [spec_l1Cur_graph.j2]; rw [if_neg (by simp)]) hr2⟩
      | true =>
        have hp := putL_len ((i + 1 : Nat) : Int) []
        obtain ⟨r, hr1, hr2⟩ := hj3 (putL [] ((i + 1 : Nat) : Int)) (by simpa using hp) at_ sd h0 h1
        refine ⟨r, hr1, Ev.step (fun k => ?_) ((put_ev [] ((i + 1 : Nat) : Int) (by simp)).bind (f := fun k t => spec_l1Cur_graph.j3 k n (i : Int) t code at_ sd g) hr2)⟩
        simp only [spec_l1Cur_graph.j2]
        rw [if_pos trivial, hw]
    by_cases c : ((i + 1 : Nat) : Int) < n
    · obtain ⟨b, a, s, e, ha1, ha2⟩ := one_ok hc (by omega) sd 4 h0 (by omega)
      obtain ⟨r, hr1, hr2⟩ := hj2 (!b) a s (by omega) (by omega)
      refine ⟨r, hr1, Ev.step (fun k => ?_) hr2⟩
      simp only [spec_l1Cur_graph.l0]
      rw [if_pos (by omega), hw, if_pos c, e, Option.bind_some]
    · obtain ⟨r, hr1, hr2⟩ := hj2 false at_ sd h0 (by omega)
      refine ⟨r, hr1, Ev.step (fun k => ?_) hr2⟩
      simp only [spec_l1Cur_graph.l0]
      rw [if_pos (by omega), hw, if_neg c]
theorem graph_ev : ∃ r, Drw r ∧ Ev (fun k => spec_l1Cur_graph.f k code 0 0) r := by
  unfold spec_l1Cur_graph.f
  obtain ⟨x, a, s, e, hx0, hx1, ha1, ha2⟩ := pick_ok hc (by omega) 0 (7 : Int) (at_ := 0) (by omega) (by omega)
  have hx7 := hx1 (by omega)
  obtain ⟨b, a2, s2, e2, hb1, hb2⟩ := one_ok hc (by omega) s 20 (at_ := a) (by omega) (by omega)
  have hj : ∀ (n : Int), 1 ≤ n → n ≤ 13 → ∀ at_ sd, 0 ≤ at_ → at_ ≤ 10 → ∃ r, Drw r ∧ Ev (fun k => spec_l1Cur_graph.j0 k n code at_ sd) r := by
    intro n hn1 hn2 at_ sd h0 h1
    obtain ⟨r, hr1, hr2⟩ := graph_l0 hc hl hn1 hn2 n.toNat 0 [] at_ sd (by omega) rfl ⟨by simp, fun r hr => by simp at hr⟩ h0 (by omega)
    exact ⟨r, hr1, Ev.step (fun k => by simp only [spec_l1Cur_graph.j0]; rfl) hr2⟩
  cases b with
  | true =>
    obtain ⟨y, a3, s3, e3, hy0, hy1, hc1, hc2⟩ := pick_ok hc (by omega) s2 (2 : Int) (at_ := a2) (by omega) (by omega)
    have hy2 := hy1 (by omega)
    obtain ⟨r, hr1, hr2⟩ := hj (12 + y) (by omega) (by omega) a3 s3 (by omega) (by omega)
    refine ⟨r, hr1, Ev.congr (fun k => ?_) hr2⟩
    rw [e, Option.bind_some]
    simp only []
    rw [e2, Option.bind_some, if_pos rfl]
    simp only []
    rw [e3, Option.bind_some, w64 (by omega) (by omega)]
  | false =>
    obtain ⟨r, hr1, hr2⟩ := hj (1 + x) (by omega) (by omega) a2 s2 (by omega) (by omega)
    refine ⟨r, hr1, Ev.congr (fun k => ?_) hr2⟩
    rw [e, Option.bind_some]
    simp only []
    rw [e2, Option.bind_some, if_neg (by simp), w64 (by omega) (by omega)]
end
end Go.Proofs.Ytplcipjlkogadaa.Q

namespace Go.Proofs.Ytplcipjlkogadaa.Q
open Go.RowKit Go.Proofs.Ytplcipjlkogadaa.P Go.Proofs.Ytplcipjlkogadaa.H Go.Proofs.YtplcipjlkogadaaW.PrintWords
theorem small_nil' : Small ([] : List (List Int)) := ⟨by simp, fun r hr => by simp at hr⟩
theorem getD_memIB {l : List Int} {m : Nat} (h : m < l.length) : l.getD m 0 ∈ l := by
  rw [List.getD_eq_getElem?_getD, List.getElem?_eq_getElem h]
  exact List.getElem_mem h
theorem drop_getDB {l : List Int} {m : Nat} (h : m < l.length) : l.drop m = l.getD m 0 :: l.drop (m + 1) := by
  rw [List.drop_eq_getElem_cons h, List.getD_eq_getElem?_getD, List.getElem?_eq_getElem h]
  rfl
section
variable {g : List (List Int)}
theorem dom_bit (hG : goodG g = true) {b x : Nat} (hb : b < g.length) (hx : x < 12) : ((x : Int) ∈ (domL g).getD b []) ↔ ((domF g).getD b []).getD x false = true := by
  have hbl : b < (domF g).length := by unfold domF; rw [matF_len]; exact hb
  have he : (domL g).getD b [] = listTo ((domF g).getD b []) 12 := by
    unfold domL
    rw [List.getD_eq_getElem?_getD, List.getElem?_map, List.getD_eq_getElem?_getD, List.getElem?_eq_getElem hbl]
    rfl
  rw [he, listTo_mem]
  constructor
  · rintro ⟨j, _, e, h⟩
    rwa [show x = j by omega]
  · intro h
    exact ⟨x, hx, rfl, h⟩
theorem domL_len (hG : goodG g = true) (b : Nat) : ((domL g).getD b []).length ≤ 1048576 := by
  have hr := goodG_rows hG
  have hn2 : g.length ≤ 12 := hr.1.2
  by_cases hb : b < g.length
  · have := (domL_rel hG).len12 (fun b hb y h => by
      have := ((listTo_reach hG y).1 h.1).rng hG (by decide) (by have := hr.1.1; omega)
      omega) hb
    omega
  · have : (domL g).length = g.length := (domL_rel hG).len
    rw [List.getD_eq_getElem?_getD, List.getElem?_eq_none (by omega)]
    decide
theorem back_inner (hG : goodG g = true) {acc : List (List Int)} {b : Nat} (hb : b < g.length) {r : List (List Int) × Bool} (hacc : acc.length ≤ 144) :
    ∀ m, m ≤ (g.getD b []).length → ∀ ac : List (List Int), ac.length ≤ m → Ev (fun k => spec_BackEdges.l0 k (domL g) (acc ++ ac ++ beRow (domF g) b ((g.getD b []).drop m)) g (g.length : Int) ((b : Int) + 1)) r → Ev (fun k => spec_BackEdges.l1 k (domL g) (acc ++ ac) (b : Int) g (g.length : Int) (b : Int) (g.getD b []) ((g.getD b []).length : Int) (m : Int)) r := by
  have hr := goodG_rows hG
  have hn2 : g.length ≤ 12 := hr.1.2
  have hl12 := goodG_len hG b
  have hrow := goodG_row hG b
  have hlen : (domL g).length = g.length := (domL_rel hG).len
  have hdl := domL_len hG b
  refine down (n := (g.getD b []).length) (p := fun m => ∀ ac : List (List Int), ac.length ≤ m → Ev (fun k => spec_BackEdges.l0 k (domL g) (acc ++ ac ++ beRow (domF g) b ((g.getD b []).drop m)) g (g.length : Int) ((b : Int) + 1)) r → Ev (fun k => spec_BackEdges.l1 k (domL g) (acc ++ ac) (b : Int) g (g.length : Int) (b : Int) (g.getD b []) ((g.getD b []).length : Int) (m : Int)) r) ?h0 ?hs
  case h0 =>
    intro ac _ h
    rw [List.drop_length] at h
    unfold beRow at h
    rw [List.filter_nil, List.map_nil, List.append_nil] at h
    refine Ev.step (fun k => ?_) h
    simp only [spec_BackEdges.l1]
    rw [if_neg (by omega), w64 (by omega) (by omega)]
  case hs =>
    intro m hm ih ac ha h
    have hx := hrow ((g.getD b []).getD m 0) (getD_memIB hm)
    have hdr := drop_getDB hm
    obtain ⟨x, hxe⟩ : ∃ x : Nat, (g.getD b []).getD m 0 = (x : Int) := ⟨((g.getD b []).getD m 0).toNat, by omega⟩
    have hrd : rd (g.getD b []) (m : Int) = (x : Int) := hxe
    rw [hxe] at hx hdr
    have hbit := dom_bit hG hb (x := x) (by omega)
    rw [hdr] at h
    unfold beRow at h
    rw [List.filter_cons, Int.toNat_natCast] at h
    have hrl : rd_L1 (domL g) (b : Int) = (domL g).getD b [] := rfl
    refine Ev.step (fun k => ?_) ((has_ev ((domL g).getD b []) (x : Int) hdl).bind (f := fun k t => if t = true then spec_BackEdges.l1 k (domL g) (acc ++ ac ++ [[(b : Int), (x : Int)]]) (b : Int) g (g.length : Int) (b : Int) (g.getD b []) ((g.getD b []).length : Int) ((m : Int) + 1) else spec_BackEdges.l1 k (domL g) (acc ++ ac) (b : Int) g (g.length : Int) (b : Int) (g.getD b []) ((g.getD b []).length : Int) ((m : Int) + 1)) ?_)
    · simp only [spec_BackEdges.l1]
      rw [if_pos (by omega), if_pos (by omega), if_pos (by omega), if_pos (by omega), if_pos (by omega), hrd, hrl]
      have hal : (acc ++ ac).length < 5864062014805 := by rw [List.length_append]; omega
      simp only [hal, if_true, w64 (show -9223372036854775808 ≤ (m : Int) + 1 by omega) (by omega)]
    · by_cases hmem : (x : Int) ∈ (domL g).getD b []
      · rw [decide_eq_true hmem]
        rw [if_pos (hbit.1 hmem)] at h
        refine Ev.congr (fun k => by rw [if_pos rfl, List.append_assoc]; rfl) (ih (ac ++ [[(b : Int), (x : Int)]]) (by simp; omega) ?_)
        simpa [beRow] using h
      · rw [decide_eq_false hmem]
        rw [if_neg (fun e => hmem (hbit.2 e))] at h
        refine Ev.congr (fun k => by rw [if_neg (by simp)]; rfl) (ih ac (by omega) ?_)
        simpa [beRow] using h
end
theorem backEdges_core (g : List (List Int)) (hg : Small g) : ∃ (s1 : List (List Int)) (s2 : Bool), Ev (fun k => spec_BackEdges.f k g) (s1, s2) ∧ impl_BackEdges.f g = some (s1, s2) ∧ Small s1 := by
  unfold impl_BackEdges.f spec_BackEdges.f
  cases hG : goodG g with
  | false =>
    refine ⟨[], false, (specGoodGraph_ev g hg).bind ?_, by rw [if_neg (by simp)], small_nil'⟩
    rw [hG]
    exact ev_is fun k => by rw [if_neg (by simp)]
  | true =>
    have hr := goodG_rows hG
    have hn2 : g.length ≤ 12 := hr.1.2
    have hlen := beTo_len (domF g) (goodG_len hG)
    refine ⟨beTo (domF g) g g.length, true, (specGoodGraph_ev g hg).bind ?_, by rw [if_pos rfl], ?_⟩
    · rw [hG]
      have e : spec_l10Dominators.f g = some (domL g) := by unfold spec_l10Dominators.f; rw [hG, if_pos rfl]
      simp only [if_true, e, Option.bind_some]
      exact down0 (n := g.length) (p := fun b => Ev (fun k => spec_BackEdges.l0 k (domL g) (beTo (domF g) g b) g (g.length : Int) (b : Int)) (beTo (domF g) g g.length, true))
        (Ev.step (f := fun _ => some (beTo (domF g) g g.length, true)) (fun k => by simp only [spec_BackEdges.l0]; rw [if_neg (by omega)]) (Ev.now _))
        (fun b hb ih => by
          have h1 := hlen b
          refine Ev.step (fun k => ?_) (back_inner hG (acc := beTo (domF g) g b) hb (by omega) 0 (Nat.zero_le _) [] (by simp) ?_)
          · simp only [spec_BackEdges.l0]
            rw [if_pos (by omega), if_pos (by omega), if_pos (by omega), List.append_nil]
            rfl
          · rw [List.drop_zero, List.append_nil, ← beTo_succ]
            exact ih)
    · refine ⟨by have := hlen g.length; omega, fun r hr => ?_⟩
      unfold beTo beRow at hr
      obtain ⟨b, _, h2⟩ := List.mem_flatMap.1 hr
      obtain ⟨y, _, rfl⟩ := List.mem_map.1 h2
      simp
end Go.Proofs.Ytplcipjlkogadaa.Q

namespace Go.Proofs.Ytplcipjlkogadaa.Q
open Go.RowKit Go.Proofs.Ytplcipjlkogadaa.P Go.Proofs.Ytplcipjlkogadaa.H Go.Proofs.YtplcipjlkogadaaW.PrintWords
theorem back_row {g E : List (List Int)} {ok : Bool} (h : impl_BackEdges.f g = some (E, ok)) : ∀ e ∈ E, ∃ (b : Nat) (y : Int), b < g.length ∧ e = [(b : Int), y] ∧ goodG g = true ∧ e ∈ beTo (domF g) g g.length := by
  intro e he
  unfold impl_BackEdges.f at h
  cases hG : goodG g with
  | false =>
    rw [hG, if_neg (by simp)] at h
    simp only [Option.some.injEq, Prod.mk.injEq] at h
    rw [← h.1] at he
    simp at he
  | true =>
    rw [hG, if_pos rfl] at h
    simp only [Option.some.injEq, Prod.mk.injEq] at h
    rw [← h.1] at he
    have hm := he
    unfold beTo beRow at he
    simp only [List.mem_flatMap, List.mem_range, List.mem_map] at he
    obtain ⟨b, hb, y, hy, rfl⟩ := he
    exact ⟨b, y, hb, rfl, rfl, hm⟩
theorem drawLoop_ev {code : List Int} (hc : Byt code) (hl : code.length ≤ 1048576) : ∃ (g : List (List Int)) (x y : Int), Ev (fun k => spec_DrawLoopOf.f k code) (g, x, y) ∧ Small g := by
  obtain ⟨⟨g, a, s⟩, ⟨h1, h2, h3, h4⟩, h5⟩ := graph_ev hc hl
  simp only at h1 h2 h3 h4
  have hs := h1.small (by decide) (by decide)
  obtain ⟨E, ok, e1, e2, e3⟩ := backEdges_core g hs
  have hrow := back_row e2
  have hEl := e3.1
  have hq : ∀ x y : Int, 0 ≤ x → x ≤ 1000 → ∃ p q, drawQ code g x y = some (g, p, q) := by
    intro x y hx0 hx1
    obtain ⟨p, a2, s2, e, _, _, ha1, ha2⟩ := pick_ok hc (by omega) y (wrap64 ((g.length : Int) + 1)) hx0 (by omega)
    obtain ⟨q, a3, s3, e', _, _, _, _⟩ := pick_ok hc (by omega) s2 (g.length : Int) (at_ := a2) (by omega) (by omega)
    refine ⟨p, q, ?_⟩
    unfold drawQ
    rw [e, Option.bind_some]
    simp only []
    rw [e']
    rfl
  have key : ∃ p q, (if ok = true then (if (E.length : Int) > 0 then ((spec_l1Cur_one.f code a s 4).bind fun o => if o.1 = true then drawQ code g o.2.1 o.2.2 else (spec_l1Cur_pick.f code o.2.1 o.2.2 (E.length : Int)).bind fun p => drawE g E p.1) else drawQ code g a s) else drawQ code g a s) = some (g, p, q) := by
    cases ok with
    | false => rw [if_neg (by simp)]; exact hq a s h3 (by omega)
    | true =>
      rw [if_pos rfl]
      by_cases c : (E.length : Int) > 0
      · rw [if_pos c]
        obtain ⟨b, a2, s2, e, ha1, ha2⟩ := one_ok hc (by omega) s 4 h3 (by omega)
        rw [e, Option.bind_some]
        simp only []
        cases b with
        | true => rw [if_pos rfl]; exact hq a2 s2 (by omega) (by omega)
        | false =>
          rw [if_neg (by simp)]
          obtain ⟨p, a3, s3, e', hp0, hp1, _, _⟩ := pick_ok hc (by omega) s2 (E.length : Int) (at_ := a2) (by omega) (by omega)
          have hp2 := hp1 (by omega)
          rw [e', Option.bind_some]
          simp only []
          have hmem : E.getD p.toNat [] ∈ E := by
            rw [List.getD_eq_getElem?_getD, List.getElem?_eq_getElem (by omega)]
            exact List.getElem_mem _
          obtain ⟨b, y, _, he, _, _⟩ := hrow _ hmem
          have hr : rd_L1 E p = [(b : Int), y] := he
          unfold drawE
          rw [if_pos hp0, if_pos hp2, hr, if_pos (by simp)]
          exact ⟨_, _, rfl⟩
      · rw [if_neg c]; exact hq a s h3 (by omega)
  obtain ⟨p, q, hk⟩ := key
  refine ⟨g, p, q, ?_, hs⟩
  unfold spec_DrawLoopOf.f
  refine h5.bind (e1.bind ?_)
  exact ev_is fun k => hk
theorem drawBack_ev {code : List Int} (hc : Byt code) (hl : code.length ≤ 1048576) : ∃ g : List (List Int), Ev (fun k => spec_DrawBackEdges.f k code) g ∧ Small g := by
  obtain ⟨⟨g, a, s⟩, ⟨h1, h2, h3, h4⟩, h5⟩ := graph_ev hc hl
  simp only at h1 h2 h3 h4
  refine ⟨g, ?_, h1.small (by decide) (by decide)⟩
  unfold spec_DrawBackEdges.f spec_DrawGoodGraph.f
  refine (show Ev (fun k => (spec_l1Cur_graph.f k code 0 0).map (fun r => r.1)) g from ?_).bind (Ev.now _)
  refine Ev.congr (fun k => ?_) (h5.bind (f := fun _ r => some r.1) (Ev.now _))
  cases spec_l1Cur_graph.f k code 0 0 <;> rfl
end Go.Proofs.Ytplcipjlkogadaa.Q

namespace Go.Proofs.Ytplcipjlkogadaa.Q
open Go.RowKit Go.Proofs.Ytplcipjlkogadaa.P Go.Proofs.Ytplcipjlkogadaa.H Go.Proofs.YtplcipjlkogadaaW.PrintWords
theorem sameInts_ev (l : List Int) (hl : l.length ≤ 1048576) : Ev (fun k => laws_sameInts.f k l l) true := by
  unfold laws_sameInts.f
  refine Ev.congr (fun k => by rw [if_pos rfl]) ?_
  refine down0 (n := l.length) (p := fun i => Ev (fun k => laws_sameInts.l0 k l l (l.length : Int) (i : Int)) true) ?h0 ?hs
  case h0 => exact Ev.step (f := fun _ => some true) (fun k => by simp only [laws_sameInts.l0]; rw [if_neg (by omega)]) (Ev.now _)
  case hs =>
    intro i hi ih
    refine Ev.step (fun k => ?_) ih
    simp only [laws_sameInts.l0]
    rw [if_pos (by omega), if_pos (by omega), if_pos (by omega), if_pos (by omega), if_pos trivial, w64 (by omega) (by omega)]
    rfl
theorem sameLists_ev (l : List (List Int)) (hl : Small l) : Ev (fun k => laws_sameLists.f k l l) true := by
  have hlen := hl.1
  unfold laws_sameLists.f
  refine Ev.congr (fun k => by rw [if_pos rfl]) ?_
  refine down0 (n := l.length) (p := fun i => Ev (fun k => laws_sameLists.l0 k l l (l.length : Int) (i : Int)) true) ?h0 ?hs
  case h0 => exact Ev.step (f := fun _ => some true) (fun k => by simp only [laws_sameLists.l0]; rw [if_neg (by omega)]) (Ev.now _)
  case hs =>
    intro i hi ih
    have hr : rd_L1 l (i : Int) = l.getD i [] := rfl
    refine Ev.step (fun k => ?_) ((sameInts_ev (l.getD i []) (hl.at hi)).bind (f := fun k t => if t = true then laws_sameLists.l0 k l l (l.length : Int) ((i + 1 : Nat) : Int) else some false) (Ev.congr (fun k => by rw [if_pos rfl]) ih))
    simp only [laws_sameLists.l0]
    rw [if_pos (by omega), if_pos (by omega), if_pos (by omega), if_pos (by omega), hr, w64 (by omega) (by omega)]
    rfl
theorem lhas_ev (l : List Int) (x : Int) (hl : l.length ≤ 1048576) : Ev (fun k => laws_has.f k l x) (decide (x ∈ l)) := by
  unfold laws_has.f
  have key := down0 (n := l.length) (p := fun i => Ev (fun k => laws_has.l0 k x l (l.length : Int) (i : Int)) (decide (x ∈ l.drop i))) ?h0 ?hs
  · exact key
  case h0 =>
    rw [List.drop_length]
    exact Ev.step (f := fun _ => some false) (fun k => by simp only [laws_has.l0]; rw [if_neg (by omega)]) (Ev.now _)
  case hs =>
    intro i hi ih
    have hd : l.drop i = l.getD i 0 :: l.drop (i + 1) := by
      rw [List.drop_eq_getElem_cons hi, List.getD_eq_getElem?_getD, List.getElem?_eq_getElem hi]
      rfl
    have hr : rd l (i : Int) = l.getD i 0 := rfl
    by_cases c : l.getD i 0 = x
    · have e : decide (x ∈ l.drop i) = true := by rw [hd, c]; simp
      rw [e]
      refine Ev.step (f := fun _ => some true) (fun k => ?_) (Ev.now _)
      simp only [laws_has.l0]
      rw [if_pos (by omega), if_pos (by omega), if_pos (by omega), hr, if_pos c]
    · have e : decide (x ∈ l.drop i) = decide (x ∈ l.drop (i + 1)) := by
        rw [hd]
        refine decide_eq_decide.2 ?_
        rw [List.mem_cons]
        exact ⟨fun h => h.elim (fun h => absurd h.symm c) id, .inr⟩
      rw [e]
      refine Ev.step (fun k => ?_) ih
      simp only [laws_has.l0]
      rw [if_pos (by omega), if_pos (by omega), if_pos (by omega), hr, if_neg c, w64 (by omega) (by omega)]
      rfl
end Go.Proofs.Ytplcipjlkogadaa.Q

namespace Go.Proofs.Ytplcipjlkogadaa.Q
open Go.RowKit Go.Proofs.Ytplcipjlkogadaa.P Go.Proofs.Ytplcipjlkogadaa.H Go.Proofs.YtplcipjlkogadaaW.PrintWords
theorem byt_wf {l : List Int} (h : ∀ x ∈ l, (Lit.int .u8 x).wf = true) : Byt l := fun x hx => by
  have h1 := h x hx
  simp [Lit.wf, IntKind.min, IntKind.max, IntKind.signed, IntKind.bits] at h1
  omega
theorem rch_trans {g : List (List Int)} {wo s x y : Int} (h1 : Rch g wo s x) (h2 : Rch g wo x y) : Rch g wo s y := by
  induction h2 with
  | here _ => exact h1
  | on _ hm hw ih => exact .on ih hm hw
theorem loop_dom {g : List (List Int)} {fr t k : Int} (hd : DM g fr t) (hr : Rch g (-1) 0 k) (hk : k = t ∨ Bk g fr t k) : DM g k t := by
  by_cases e : k = t
  · subst e
    exact .self hr
  · have hb := hk.resolve_left e
    refine ⟨hd.rx, hr, fun h => ?_⟩
    by_cases ef : fr = t
    · exact e ((hb.same ef).trans ef)
    · exact hd.no (rch_trans h (hb.rch ef e))
section
variable (g : List (List Int)) (more L R : List Int) (t : Int)
def pL1 (i : Int) (k : Nat) : Option Bool := laws_FnLoops.l1 k more t L R g (g.length : Int) i
def pL2 (b : Int) (row : List Int) (m : Int) (k : Nat) : Option Bool := laws_FnLoops.l2 k more t L R b g (g.length : Int) b row (row.length : Int) m
def p2c (b : Int) (row : List Int) (m x : Int) (k : Nat) (v : Bool) : Option Bool := if v = true then (if x = t then pL2 g more L R t b row m k else some false) else pL2 g more L R t b row m k
def p2b (b : Int) (row : List Int) (m x : Int) (k : Nat) (v : Bool) : Option Bool := if v = true then pL2 g more L R t b row m k else (laws_has.f k L x).bind (p2c g more L R t b row m x k)
def p2a (b : Int) (row : List Int) (m x : Int) (k : Nat) (v : Bool) : Option Bool := if v = true then (laws_has.f k L b).bind (p2b g more L R t b row m x k) else pL2 g more L R t b row m k
theorem pL2_succ {b x : Int} {row : List Int} {m : Nat} (hm : m < row.length) (hx : rd row (m : Int) = x) (hw : wrap64 ((m : Int) + 1) = ((m + 1 : Nat) : Int)) (k : Nat) : pL2 g more L R t b row (m : Int) (k + 1) = (laws_has.f k R b).bind (p2a g more L R t b row ((m + 1 : Nat) : Int) x k) := by
  unfold pL2
  simp only [laws_FnLoops.l2]
  rw [if_pos (by omega), if_pos (by omega), if_pos (by omega), hx, hw]
  rfl
theorem pL2_end {b : Int} {row : List Int} (k : Nat) : pL2 g more L R t b row (row.length : Int) (k + 1) = pL1 g more L R t (wrap64 (b + 1)) k := by
  unfold pL2
  simp only [laws_FnLoops.l2]
  rw [if_neg (by omega)]
  rfl
theorem pL1_succ {b : Nat} (hb : b < g.length) (k : Nat) : pL1 g more L R t (b : Int) (k + 1) = pL2 g more L R t (b : Int) (g.getD b []) 0 k := by
  have hr : rd_L1 g (b : Int) = g.getD b [] := rfl
  unfold pL1
  simp only [laws_FnLoops.l1]
  rw [if_pos (by omega), if_pos (by omega), if_pos (by omega), hr]
  rfl
theorem pL1_end (k : Nat) : pL1 g more L R t (g.length : Int) (k + 1) = laws_FnLoops.j5 k more := by
  unfold pL1
  simp only [laws_FnLoops.l1]
  rw [if_neg (by omega)]
variable (D : List (List Int))
def pL0 (i : Int) (k : Nat) : Option Bool := laws_FnLoops.l0 k more t L R D L (L.length : Int) i g
def p0b (i : Int) (k : Nat) (v : Bool) : Option Bool := if v = true then pL0 g more L R t D i k else some false
def p0a (i x : Int) (Dx : List Int) (k : Nat) (v : Bool) : Option Bool := if v = true then (if 0 ≤ x then (if x < (D.length : Int) then (laws_has.f k Dx t).bind (p0b g more L R t D i k) else none) else none) else pL0 g more L R t D i k
theorem pL0_succ {i : Nat} {x : Int} {Dx : List Int} (hi : i < L.length) (hx : rd L (i : Int) = x) (hDx : rd_L1 D x = Dx) (hw : wrap64 ((i : Int) + 1) = ((i + 1 : Nat) : Int)) (k : Nat) : pL0 g more L R t D (i : Int) (k + 1) = (laws_has.f k R x).bind (p0a g more L R t D ((i + 1 : Nat) : Int) x Dx k) := by
  unfold pL0
  simp only [laws_FnLoops.l0]
  rw [if_pos (by omega), if_pos (by omega), if_pos (by omega), hx, hDx, hw]
  rfl
theorem pL0_end (k : Nat) : pL0 g more L R t D (L.length : Int) (k + 1) = pL1 g more L R t 0 k := by
  unfold pL0
  simp only [laws_FnLoops.l0]
  rw [if_neg (by omega)]
  rfl
end
theorem domL_l (g : List (List Int)) : (domL g).length = g.length := by unfold domL domF; rw [List.length_map, matF_len]
theorem domL_r {g : List (List Int)} {b : Nat} (hb : b < g.length) : ((domL g).getD b []).length ≤ 12 := by rw [domL_at hb]; exact listTo_len _ 12
theorem getD_memL {l : List Int} {m : Nat} (h : m < l.length) : l.getD m 0 ∈ l := by
  rw [List.getD_eq_getElem?_getD, List.getElem?_eq_getElem h]
  exact List.getElem_mem h
section
variable {g : List (List Int)} (hG : goodG g = true) {more L R : List Int} {fr t : Nat}
include hG
theorem loop_l2 (hR : R.length ≤ 12) (hL : L.length ≤ 12) (hLm : ∀ y : Int, y ∈ L ↔ (y = (t : Int) ∨ Bk g (fr : Int) (t : Int) y)) {b : Nat} (hb : b < g.length) (hnext : Ev (pL1 g more L R (t : Int) ((b + 1 : Nat) : Int)) true) : Ev (pL2 g more L R (t : Int) (b : Int) (g.getD b []) 0) true := by
  have hn := goodG_rows hG
  have hrl := goodG_len hG b
  have hin : ∀ x ∈ g.getD b [], x ≠ (t : Int) → x ∈ L → (b : Int) ∈ L := fun x hx hne hxl => (hLm _).2 (.inr (.back (((hLm x).1 hxl).resolve_left hne) hne (by rw [Int.toNat_natCast]; exact hx) (by omega) (by omega)))
  generalize g.getD b [] = row at hrl hin ⊢
  refine down0 (n := row.length) (p := fun m => Ev (pL2 g more L R (t : Int) (b : Int) row (m : Int)) true) ?h0 ?hs
  case h0 => exact Ev.step (fun k => by rw [pL2_end, w64 (by omega) (by omega)]; rfl) hnext
  case hs =>
    intro m hm ih
    have hw : wrap64 ((m : Int) + 1) = ((m + 1 : Nat) : Int) := w64 (by omega) (by omega)
    have h1 := lhas_ev R (b : Int) (by omega)
    have h2 := lhas_ev L (b : Int) (by omega)
    have h3 := lhas_ev L (row.getD m 0) (by omega)
    refine Ev.step (fun k => pL2_succ g more L R (t : Int) hm rfl hw k) (h1.bind ?_)
    cases hc : decide ((b : Int) ∈ R) with
    | false => exact Ev.congr (fun k => by unfold p2a; exact if_neg (by simp)) ih
    | true =>
      refine Ev.congr (fun k => by unfold p2a; exact if_pos rfl) (h2.bind (f := fun k v => p2b g more L R (t : Int) (b : Int) row ((m + 1 : Nat) : Int) (row.getD m 0) k v) ?_)
      cases hc2 : decide ((b : Int) ∈ L) with
      | true => exact Ev.congr (fun k => by unfold p2b; exact if_pos rfl) ih
      | false =>
        refine Ev.congr (fun k => by unfold p2b; exact if_neg (by simp)) (h3.bind (f := fun k v => p2c g more L R (t : Int) (b : Int) row ((m + 1 : Nat) : Int) (row.getD m 0) k v) ?_)
        by_cases c3 : row.getD m 0 ∈ L
        · have ht : row.getD m 0 = (t : Int) := Classical.byContradiction (fun hne => of_decide_eq_false hc2 (hin _ (getD_memL hm) hne c3))
          rw [decide_eq_true c3]
          exact Ev.congr (fun k => by unfold p2c; exact (if_pos rfl).trans (if_pos ht)) ih
        · rw [decide_eq_false c3]
          exact Ev.congr (fun k => by unfold p2c; exact if_neg (by simp)) ih
theorem loop_l1 (hR : R.length ≤ 12) (hL : L.length ≤ 12) (hLm : ∀ y : Int, y ∈ L ↔ (y = (t : Int) ∨ Bk g (fr : Int) (t : Int) y)) (hend : Ev (fun k => laws_FnLoops.j5 k more) true) : Ev (pL1 g more L R (t : Int) 0) true := by
  refine down0 (n := g.length) (p := fun b => Ev (pL1 g more L R (t : Int) (b : Int)) true) ?h0 ?hs
  case h0 => exact Ev.step (fun k => pL1_end g more L R (t : Int) k) hend
  case hs =>
    intro b hb ih
    exact Ev.step (fun k => pL1_succ g more L R (t : Int) hb k) (loop_l2 hG hR hL hLm hb ih)
theorem loop_l0 (hRm : ∀ y, y ∈ R ↔ Rch g (-1) 0 y) (hR : R.length ≤ 12) (hL : L.length ≤ 12) (hLm : ∀ y : Int, y ∈ L ↔ (y = (t : Int) ∨ Bk g (fr : Int) (t : Int) y)) (hd : DM g (fr : Int) (t : Int)) (hend : Ev (fun k => laws_FnLoops.j5 k more) true) : Ev (pL0 g more L R (t : Int) (domL g) 0) true := by
  have hn := goodG_rows hG
  have hdl := domL_l g
  have hl1 := loop_l1 hG (more := more) hR hL hLm hend
  refine down0 (n := L.length) (p := fun i => Ev (pL0 g more L R (t : Int) (domL g) (i : Int)) true) ?h0 ?hs
  case h0 => exact Ev.step (fun k => pL0_end g more L R (t : Int) (domL g) k) hl1
  case hs =>
    intro i hi ih
    have hw : wrap64 ((i : Int) + 1) = ((i + 1 : Nat) : Int) := w64 (by omega) (by omega)
    have h1 := lhas_ev R (L.getD i 0) (by omega)
    refine Ev.step (fun k => pL0_succ g more L R (t : Int) (domL g) hi rfl rfl hw k) (h1.bind ?_)
    by_cases c : L.getD i 0 ∈ R
    · rw [decide_eq_true c]
      have hr := (hRm _).1 c
      have hrg := hr.rng hG (by decide) (by omega)
      have hdm := loop_dom hd hr ((hLm _).1 (getD_memL hi))
      obtain ⟨x, hx⟩ : ∃ x : Nat, L.getD i 0 = (x : Int) := ⟨(L.getD i 0).toNat, by omega⟩
      rw [hx] at hrg hdm
      have hxl := domL_r (g := g) (b := x) (by omega)
      have h2 := lhas_ev ((domL g).getD x []) (t : Int) (by omega)
      rw [decide_eq_true ((dm_iff hG (show x < g.length by omega) (t : Int)).2 hdm)] at h2
      refine Ev.congr (fun k => ?_) (h2.bind (f := fun k v => p0b g more L R (t : Int) (domL g) ((i + 1 : Nat) : Int) k v) (Ev.congr (fun k => ?_) ih))
      · unfold p0a
        have er : rd L (i : Int) = (x : Int) := hx
        have er2 : rd_L1 (domL g) (x : Int) = (domL g).getD x [] := rfl
        rw [if_pos rfl, er, er2, if_pos (by omega), if_pos (by omega)]
      · unfold p0b
        rw [if_pos rfl]
    · rw [decide_eq_false c]
      refine Ev.congr (fun k => ?_) ih
      unfold p0a
      rw [if_neg (by simp)]
end
theorem loops_end {more : List Int} (hc : Byt more) (hl : more.length ≤ 1048576) : Ev (fun k => laws_FnLoops.j5 k more) true := by
  obtain ⟨h, hd, hs⟩ := drawBack_ev hc hl
  obtain ⟨E, ok, e1, e2, e3⟩ := backEdges_core h hs
  have hrow := back_row e2
  have hEl := e3.1
  have hl3 : Ev (fun k => laws_FnLoops.l3 k E (E.length : Int) 0 h) true := by
    refine down0 (n := E.length) (p := fun i => Ev (fun k => laws_FnLoops.l3 k E (E.length : Int) (i : Int) h) true) ?h0 ?hs
    case h0 => exact Ev.step (f := fun _ => some true) (fun k => by simp only [laws_FnLoops.l3]; rw [if_neg (by omega)]) (Ev.now _)
    case hs =>
      intro i hi ih
      have hmem : E.getD i [] ∈ E := by
        rw [List.getD_eq_getElem?_getD, List.getElem?_eq_getElem hi]
        exact List.getElem_mem _
      obtain ⟨b, y, hb, he, hG, hin⟩ := hrow _ hmem
      have hr : rd_L1 E (i : Int) = [(b : Int), y] := he
      have hw : wrap64 ((i : Int) + 1) = ((i + 1 : Nat) : Int) := w64 (by omega) (by omega)
      rw [he] at hin
      have hi2 : impl_LoopOf.f h (rd [(b : Int), y] 0) (rd [(b : Int), y] 1) = some (listTo (loopF h b y.toNat) 12, true) := by
        show impl_LoopOf.f h (b : Int) y = _
        unfold impl_LoopOf.f
        have : (beTo (domF h) h h.length).any (isEdge (b : Int) y) = true := List.any_eq_true.2 ⟨_, hin, by unfold isEdge; rw [Bool.and_eq_true]; exact ⟨decide_eq_true rfl, decide_eq_true rfl⟩⟩
        rw [hG, this, Int.toNat_natCast]
        rfl
      refine Ev.step (fun k => ?_) ih
      simp only [laws_FnLoops.l3]
      rw [if_pos (by omega), if_pos (by omega), if_pos (by omega), hr, if_pos (by simp), if_pos (by simp), hi2, Option.bind_some, if_pos rfl, hw]
  have hj6 : Ev (fun k => laws_FnLoops.j6 k E false h) true := Ev.step (fun k => by simp only [laws_FnLoops.j6]; rw [if_neg (by simp)]) hl3
  refine Ev.step (fun k => by simp only [laws_FnLoops.j5]; rfl) (hd.bind ((ev_some (x := impl_BackEdges.f h) e2).bind (e1.bind ?_)))
  refine Ev.congr (fun k => by rw [if_neg (by simp)]) ((sameLists_ev E e3).bind ?_)
  exact hj6
theorem fnLoops_pure : laws_FnLoops.Pure := by
  intro code more hc1 _ hc2 hm1 _ hm2
  apply Ev.rounds
  unfold laws_FnLoops.f
  have hx1 : code.length ≤ 9223372036854775807 := by unfold maxLen at hc1; omega
  have hx2 : more.length ≤ 9223372036854775807 := by unfold maxLen at hm1; omega
  by_cases hw : wrap64 ((code.length : Int) + (more.length : Int)) > 1048576
  · exact Ev.congr (fun k => by rw [if_pos hw]) (Ev.now _)
  refine Ev.congr (fun k => by rw [if_neg hw]) ?_
  have hws : wrap64 ((code.length : Int) + (more.length : Int)) = (code.length : Int) + (more.length : Int) := w64 (by omega) (by omega)
  rw [hws] at hw
  have hb1 := byt_wf hc2
  have hb2 := byt_wf hm2
  obtain ⟨g, x, y, hd, hs⟩ := drawLoop_ev hb1 (show code.length ≤ 1048576 by omega)
  obtain ⟨l1, l2, e1, e2, e3⟩ := loopOf_core g x y hs
  obtain ⟨r1, r2, e7, e8, e9⟩ := C.reachedOf_core g hs
  obtain ⟨d1, d2, e4, e5, e6⟩ := C.dominatorsOf_core g hs
  have hend := loops_end hb2 (show more.length ≤ 1048576 by omega)
  have hj0 : Ev (fun k => laws_FnLoops.j0 k more x y l1 l2 false g) true := by
    cases hl2 : l2 with
    | false =>
      refine Ev.step (fun k => ?_) hend
      simp only [laws_FnLoops.j0]
      rw [if_neg (by simp), if_neg (by simp)]
    | true =>
      subst hl2
      unfold impl_LoopOf.f at e2
      have hc : (goodG g && (beTo (domF g) g g.length).any (isEdge x y)) = true := by
        cases hc : (goodG g && (beTo (domF g) g g.length).any (isEdge x y)) with
        | true => rfl
        | false => rw [hc, if_neg (by simp)] at e2; simp at e2
      rw [hc, if_pos rfl] at e2
      simp only [Option.some.injEq, Prod.mk.injEq] at e2
      obtain ⟨rfl, _⟩ := e2
      rw [Bool.and_eq_true] at hc
      obtain ⟨hG, hany⟩ := hc
      have hn := goodG_rows hG
      have hnx : ¬ (x < 0 ∨ x ≥ (g.length : Int) ∨ y < 0 ∨ y ≥ (g.length : Int)) := fun h => by rw [edge_none hG h] at hany; simp at hany
      obtain ⟨fr, rfl⟩ : ∃ k : Nat, x = (k : Int) := ⟨x.toNat, by omega⟩
      obtain ⟨t, rfl⟩ : ∃ k : Nat, y = (k : Int) := ⟨y.toNat, by omega⟩
      have hf : fr < g.length := by omega
      have ht : t < g.length := by omega
      rw [edge_iff hG hf ht, Bool.and_eq_true, decide_eq_true_eq, decide_eq_true_eq] at hany
      have hdm := (dm_iff hG hf (t : Int)).1 hany.2
      rw [Int.toNat_natCast, Int.toNat_natCast] at e1 e3 ⊢
      have hLm := loopL_mem hG hf ht
      have hLl := listTo_len (loopF g fr t) 12
      generalize listTo (loopF g fr t) 12 = L at e1 e3 hLm hLl ⊢
      unfold impl_ReachedOf.f at e8
      unfold impl_DominatorsOf.f at e5
      rw [hG, if_pos rfl] at e8 e5
      simp only [Option.some.injEq, Prod.mk.injEq] at e8 e5
      have hl0 := loop_l0 hG (more := more) (L := L) (fun y => listTo_reach hG y) (listTo_len (reachF g 0 (-1)) 12) hLl hLm hdm hend
      have h1 := lhas_ev L (fr : Int) (by omega)
      have h2 := lhas_ev L (t : Int) (by omega)
      rw [decide_eq_true ((hLm _).2 (.inr .self))] at h1
      rw [decide_eq_true ((hLm _).2 (.inl rfl))] at h2
      have hj1 : Ev (fun k => laws_FnLoops.j1 k more (t : Int) L (listTo (reachF g 0 (-1)) 12) (domL g) false g) true := Ev.step (fun k => by simp only [laws_FnLoops.j1]; rw [if_neg (by simp)]; rfl) hl0
      have hRo : impl_ReachedOf.f g = some (listTo (reachF g 0 (-1)) 12, true) := by unfold impl_ReachedOf.f; rw [hG, if_pos rfl]
      have hDo : impl_DominatorsOf.f g = some (domL g, true) := by unfold impl_DominatorsOf.f; rw [hG, if_pos rfl]; rfl
      refine Ev.step (fun k => ?_) (h1.bind (f := fun k v => if v = true then (laws_has.f k L (t : Int)).bind (fun v2 => laws_FnLoops.j1 k more (t : Int) L (listTo (reachF g 0 (-1)) 12) (domL g) (!v2) g) else laws_FnLoops.j1 k more (t : Int) L (listTo (reachF g 0 (-1)) 12) (domL g) true g) ?_)
      · simp only [laws_FnLoops.j0]
        rw [if_neg (by simp), if_pos trivial, hRo, Option.bind_some, hDo, Option.bind_some, if_pos rfl, if_pos rfl]
      · refine Ev.congr (fun k => by rw [if_pos rfl]) (h2.bind (f := fun k v2 => laws_FnLoops.j1 k more (t : Int) L (listTo (reachF g 0 (-1)) 12) (domL g) (!v2) g) ?_)
        exact hj1
  refine hd.bind ((ev_some (x := impl_LoopOf.f g x y) e2).bind (e1.bind ?_))
  refine Ev.congr (fun k => by rw [if_neg (by simp)]) ((sameInts_ev l1 e3).bind ?_)
  exact hj0
end Go.Proofs.Ytplcipjlkogadaa.Q

namespace Go.Proofs.Ytplcipjlkogadaa.Pure
theorem FnLoops : P.laws_FnLoops.Pure := Q.fnLoops_pure
end Go.Proofs.Ytplcipjlkogadaa.Pure

namespace Go.Proofs.YtplcipjlkogadaaW.PrintWords
open Go.ChangeShapes Go.WideShapes
theorem sized_ints {H : Type} {enc : TypeId × Value → H} {P : Program} {W : World} {base : Nat} {spare : Nat → Bool} {held : Bool} {t e : TypeId} {k : IntKind} {a : Option Addr} {len cap : Nat} {d : DataW H} {ps : List MemPlace} {ts : List TypeId} {ds : List (DataW H)} {j : Nat}
    (hsz : (DataW.weightsEach P ts ds).all (· ≤ reachBytes) = true) (ht : ts[j]? = some t) (hd : ds[j]? = some d) (hu : P.underlying t = some (.slice e)) (he : P.underlying e = some (.int k)) (hc : P.cellsOf e = 1) {B : Nat} (hB : P.bytesOf e = B)
    (h : DataW.Trod enc P W base spare held t (.slice a len cap) d ps) : len * B ≤ 140737488351232 := by
  obtain ⟨fuel, hf⟩ := h
  rcases open_ints hu he hc hf with ⟨hcs, _⟩ | ⟨x, l, c, zs, hcs, _, hl, _, hz, hx, _, _⟩
  · simp [Value.cells] at hcs
    obtain ⟨rfl, rfl, rfl⟩ := hcs
    simp
  · simp [Value.cells] at hcs
    obtain ⟨rfl, rfl, rfl⟩ := hcs
    obtain ⟨hx, _⟩ := Prod.mk.inj hx
    subst hx
    have z := sized_slice hsz ht hd hu
    rw [hB] at z
    have hl2 : len ≤ zs.length := by
      rw [hz]
      split
      · exact hl
      · exact Nat.le_refl _
    have h1 : (lits (H := H) k (zs.take len)).length + (lits (H := H) k (zs.drop len)).length = zs.length := by
      simp [lits]
      omega
    rw [h1] at z
    exact Nat.le_trans (Nat.mul_le_mul_right _ hl2) z
end Go.Proofs.YtplcipjlkogadaaW.PrintWords

