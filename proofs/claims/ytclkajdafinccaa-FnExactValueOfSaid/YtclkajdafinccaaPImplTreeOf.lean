-- Written by a program of this session (wip/plug.py) out of Lean's print of the translation.
import Derived.Test.YtclkajdafinccaaP0
import Derived.Test.YtclkajdafinccaaPImplTreeFrom
namespace Go.Proofs.Ytclkajdafinccaa.P
open Go.RowKit Go.Proofs.YtclkajdafinccaaW.PrintWords Go.Proofs.YtclkajdafinccaaW.PrintLast Go.Proofs.YtclkajdafinccaaW.PrintMore
attribute [local go_sem] max2_int min2_int max_two min_two max_three min_three max_four min_four   -- for this text's walks alone
set_option linter.unusedVariables false
set_option linter.unusedSimpArgs false

/-! ### impl_treeOf: function 59 -/
/-- The tree of good cells. -/
def treeL (l : List S78) : Option Tr :=
  if l.length ≤ 40 then (match readT l (l.length + 1) 0 with | some (t, e) => if e = l.length then some t else none | none => none) else none

def TreeOfPost (w w' : World) (e : Ending) : Option Tr → Prop
  | none => e = .returned (.pointer none)
  | some t => ∃ p : Nat, e = .returned (.pointer (some ⟨p, 0, none⟩)) ∧ TreeAt w.heap.size w' p t

set_option maxHeartbeats 8000000 in
theorem impl_treeOf.calls (A0 : Option Addr) (c0 : Nat) (l0 : List (S78)) (w : World) (hr : Kd.C k78 w A0 l0.length l0) (hc0 : l0.length ≤ c0) :
    Calls Try.prog 59 #[.slice A0 l0.length c0] w fun e w' => Below w.heap.size w w' ∧ TreeOfPost w w' e (treeL l0) := by
  by_cases c : l0.length ≤ 40
  · have HC := Aside0.mk (impl_treeFrom.calls A0 c0 l0 hc0 (l0.length + 1) 0 w hr (by omega) (by omega))
    have HL : treeL l0 = (match readT l0 (l0.length + 1) 0 with | some (t, e) => if e = l0.length then some t else none | none => none) := by unfold treeL; rw [if_pos c]
    obtain ⟨rr, hrr⟩ : ∃ rr, treeL l0 = rr := ⟨_, rfl⟩
    rw [hrr]
    have HRR := Aside0.mk (HL.symm.trans hrr)
    clear HL hr hrr
    go_enter Try.func59, Try.ntmps59
    go_wp2_with fail
    refine HC.out.mono ?_
    clear HC
    rintro e w' ⟨hb, hp⟩
    have HB := Aside0.mk hb
    clear hb
    cases hR : readT l0 (l0.length + 1) 0 with
    | none =>
      have hq := HRR.out
      rw [hR] at hp hq
      simp only at hq
      subst hq
      clear hR HRR
      obtain ⟨v, rfl⟩ := hp
      by_cases hv : v = l0.length
      · have hv1 : (v == (l0.length : Int)) = true := beq_iff_eq.2 hv
        have hv2 : (v != (l0.length : Int)) = false := by rw [bne_eq_false_iff_eq]; exact hv
        clear hv
        go_wp2
        go_ret
        exact ⟨HB.out, rfl⟩
      · have hv1 : (v == (l0.length : Int)) = false := beq_eq_false_iff_ne.2 hv
        have hv2 : (v != (l0.length : Int)) = true := bne_iff_ne.2 hv
        clear hv
        go_wp2
        go_ret
        exact ⟨HB.out, rfl⟩
    | some te =>
      obtain ⟨t, n⟩ := te
      have hq := HRR.out
      rw [hR] at hp hq
      simp only at hq
      clear hR HRR
      obtain ⟨p, rfl, ht⟩ := hp
      have HT := Aside0.mk ht
      clear ht
      by_cases hv : n = l0.length
      · rw [if_pos hv] at hq
        subst hq
        subst hv
        go_wp2
        go_ret
        exact ⟨HB.out, p, rfl, HT.out⟩
      · rw [if_neg hv] at hq
        subst hq
        have hv1 : (n == l0.length) = false := beq_eq_false_iff_ne.2 hv
        have hv2 : ((n : Int) == (l0.length : Int)) = false := beq_eq_false_iff_ne.2 (by omega)
        have hv3 : ((n : Int) != (l0.length : Int)) = true := bne_iff_ne.2 (by omega)
        clear hv
        go_wp2
        go_ret
        exact ⟨HB.out, rfl⟩
  · have HL : treeL l0 = none := by unfold treeL; rw [if_neg c]
    rw [HL]
    go_enter Try.func59, Try.ntmps59
    go_wp2
    go_ret
    exact ⟨Below.refl _ _, rfl⟩

end Go.Proofs.Ytclkajdafinccaa.P
