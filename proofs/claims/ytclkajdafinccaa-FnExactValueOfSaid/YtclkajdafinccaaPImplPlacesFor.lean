-- Written by a program of this session (wip/plug.py) out of Lean's print of the translation.
import Derived.Test.YtclkajdafinccaaP0
import Derived.Test.YtclkajdafinccaaPImplTreeFrom
import Derived.Test.YtclkajdafinccaaPImplTreeOf
import Derived.Test.YtclkajdafinccaaPImplTreePlaces
namespace Go.Proofs.Ytclkajdafinccaa.P
open Go.RowKit Go.Proofs.YtclkajdafinccaaW.PrintWords Go.Proofs.YtclkajdafinccaaW.PrintLast Go.Proofs.YtclkajdafinccaaW.PrintMore
attribute [local go_sem] max2_int min2_int max_two min_two max_three min_three max_four min_four   -- for this text's walks alone
set_option linter.unusedVariables false
set_option linter.unusedSimpArgs false

/-! ### impl_PlacesFor: function 27 -/
theorem readT_size {l : List S78} : ∀ {k i : Nat} {t : Tr} {e : Nat}, readT l k i = some (t, e) → i + t.size = e
  | 0, _, _, _, h => by simp [readT] at h
  | k + 1, i, t, e, h => by
    unfold readT at h
    split at h
    · split at h
      · simp only [Option.some.injEq, Prod.mk.injEq] at h
        obtain ⟨rfl, rfl⟩ := h
        rfl
      · split at h
        · split at h
          · simp at h
          · rename_i a e1 h1
            split at h
            · simp at h
            · rename_i b e2 h2
              simp only [Option.some.injEq, Prod.mk.injEq] at h
              obtain ⟨rfl, rfl⟩ := h
              have := readT_size h1
              have := readT_size h2
              simp only [Tr.size]
              omega
        · simp at h
    · simp at h

theorem treeL_size {l : List S78} {t : Tr} (h : treeL l = some t) : t.size ≤ 40 := by
  unfold treeL at h
  split at h
  · split at h
    · rename_i t1 e h1
      split at h
      · simp only [Option.some.injEq] at h
        subst h
        have := readT_size h1
        omega
      · simp at h
    · simp at h
  · simp at h

def impl_PlacesFor.f (l0 : List (S78)) : Option (Int × Bool) := match treeL l0 with
  | none => some (0, false)
  | some t => some (t.places, true)
set_option maxHeartbeats 8000000 in
theorem impl_PlacesFor.calls (A0 : Option Addr) (c0 : Nat) (l0 : List (S78)) (r1 : Int) (r2 : Bool) (w : World) (hr0 : Kd.C k78 w A0 l0.length l0) (hc0 : l0.length ≤ c0) (h : impl_PlacesFor.f l0 = some (r1, r2)) :
    Calls Try.prog 27 #[.slice A0 l0.length c0] w fun e w' => e = .returned (.tuple #[.int .i64 r1, .bool r2]) ∧ Below w.heap.size w w' := by
  have HC := Aside0.mk (impl_treeOf.calls A0 c0 l0 w hr0 hc0)
  clear hr0
  unfold impl_PlacesFor.f at h
  cases ht : treeL l0 with
  | none =>
    rw [ht] at HC h
    simp only [Option.some.injEq, Prod.mk.injEq] at h
    obtain ⟨rfl, rfl⟩ := h
    clear ht
    go_enter Try.func27, Try.ntmps27
    go_wp2_with fail
    refine HC.out.mono ?_
    clear HC
    rintro e w' ⟨hb, hp⟩
    have HB := Aside0.mk hb
    clear hb
    cases hp
    go_wp2
    go_ret2
    exact ⟨rfl, HB.out⟩
  | some t =>
    have hs := treeL_size ht
    rw [ht] at HC h
    simp only [Option.some.injEq, Prod.mk.injEq] at h
    obtain ⟨rfl, rfl⟩ := h
    clear ht
    go_enter Try.func27, Try.ntmps27
    go_wp2_with fail
    refine HC.out.mono ?_
    clear HC
    rintro e w' ⟨hb, p, rfl, ht⟩
    have HB := Aside0.mk hb
    have HP := Aside0.mk (impl_tree_places.calls t _ p w' ht (by omega))
    clear hb ht
    go_wp2_with fail
    refine HP.out.mono ?_
    rintro e w1 ⟨rfl, hd⟩
    have HB1 := Aside0.mk (HB.out.trans ((Drawn0.below hd).mono HB.out.size))
    clear hd HP HB
    go_wp2
    go_ret2
    exact ⟨rfl, HB1.out⟩

end Go.Proofs.Ytclkajdafinccaa.P
