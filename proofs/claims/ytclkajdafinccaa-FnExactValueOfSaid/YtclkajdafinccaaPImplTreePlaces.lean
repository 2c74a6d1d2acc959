-- Written by a program of this session (wip/plug.py) out of Lean's print of the translation.
import Derived.Test.YtclkajdafinccaaP0
import Derived.Test.YtclkajdafinccaaPImplTreeFrom
namespace Go.Proofs.Ytclkajdafinccaa.P
open Go.RowKit Go.Proofs.YtclkajdafinccaaW.PrintWords Go.Proofs.YtclkajdafinccaaW.PrintLast Go.Proofs.YtclkajdafinccaaW.PrintMore
attribute [local go_sem] max2_int min2_int max_two min_two max_three min_three max_four min_four   -- for this text's walks alone
set_option linter.unusedVariables false
set_option linter.unusedSimpArgs false

/-! ### impl_tree_places: function 62 -/
def Tr.size : Tr → Nat
  | .leaf .. => 1
  | .node _ _ _ a b => 1 + a.size + b.size

/-- How many places a tree needs. -/
def Tr.places : Tr → Int
  | .leaf .. => 1
  | .node _ _ _ a b => if a.places = b.places then a.places + 1 else mx a.places b.places

theorem Tr.size_pos : ∀ t : Tr, 0 < t.size
  | .leaf .. => by simp [Tr.size]
  | .node .. => by simp only [Tr.size]; omega

theorem Tr.places_le : ∀ t : Tr, 1 ≤ t.places ∧ t.places ≤ t.size
  | .leaf .. => by simp [Tr.places, Tr.size]
  | .node _ _ _ a b => by
    have ha := a.places_le
    have hb := b.places_le
    have := a.size_pos
    have := b.size_pos
    simp only [Tr.places, Tr.size, mx]
    split <;> (try split) <;> omega

set_option maxHeartbeats 8000000 in
set_option maxRecDepth 100000 in
theorem impl_tree_places.calls : ∀ (t : Tr) (B p : Nat) (w : World) (_ : TreeAt B w p t) (_ : t.size ≤ 1000000),
    Calls Try.prog 62 #[.pointer (some ⟨p, 0, none⟩)] w fun e w' => e = .returned (.int .i64 t.places) ∧ Drawn0 w w'
  | .leaf op num at_, B, p, w, h, hs => by
    have h3 : w.cell? ⟨p, 3, none⟩ = some (.pointer none) := (blk_cell h.2 3).trans rfl
    clear h
    go_enter Try.func62, Try.ntmps62
    go_wp2
    go_ret
    exact ⟨rfl, Drawn0.refl _⟩
  | .node op num at_ a b, B, p, w, h, hs => by
    obtain ⟨pa, pb, _, h, ha, hb⟩ := h
    have h3 : w.cell? ⟨p, 3, none⟩ = some (.pointer (some ⟨pa, 0, none⟩)) := (blk_cell h 3).trans rfl
    have h4 : w.cell? ⟨p, 4, none⟩ = some (.pointer (some ⟨pb, 0, none⟩)) := (blk_cell h 4).trans rfl
    simp only [Tr.size] at hs
    have CA : Aside0 (∀ n, Calls Try.prog 62 #[.pointer (some ⟨pa, 0, none⟩)] (w.drewN n) fun e w' => e = .returned (.int .i64 a.places) ∧ ∃ m, w' = w.drewN m) :=
      ⟨fun n => (impl_tree_places.calls a B pa _ (ha.below (Drawn0.below (Drawn0.step (Drawn0.refl w) n))) (by omega)).mono fun e w' ⟨he, hd⟩ => ⟨he, (H.drawn_drewN n hd)⟩⟩
    have CB : Aside0 (∀ n, Calls Try.prog 62 #[.pointer (some ⟨pb, 0, none⟩)] (w.drewN n) fun e w' => e = .returned (.int .i64 b.places) ∧ ∃ m, w' = w.drewN m) :=
      ⟨fun n => (impl_tree_places.calls b B pb _ (hb.below (Drawn0.below (Drawn0.step (Drawn0.refl w) n))) (by omega)).mono fun e w' ⟨he, hd⟩ => ⟨he, (H.drawn_drewN n hd)⟩⟩
    clear h ha hb
    have la := a.places_le
    have lb := b.places_le
    obtain ⟨rr, hrr⟩ : ∃ rr, Tr.places (.node op num at_ a b) = rr := ⟨_, rfl⟩
    rw [hrr]
    simp only [Tr.places] at hrr
    generalize a.places = x at CA hrr la
    generalize b.places = y at CB hrr lb
    by_cases e : x = y
    · rw [if_pos e] at hrr
      subst hrr
      subst e
      go_enter Try.func62, Try.ntmps62
      go_wp2
      go_quiet (first | (with_reducible exact CA.out _) | (with_reducible exact CB.out _))
      go_wp2
      go_ret
      exact ⟨rfl, ⟨_, rfl⟩⟩
    · rw [if_neg e] at hrr
      subst hrr
      have e1 : (x == y) = false := beq_eq_false_iff_ne.2 e
      clear e
      go_enter Try.func62, Try.ntmps62
      go_wp2
      go_quiet (first | (with_reducible exact CA.out _) | (with_reducible exact CB.out _))
      go_wp2
      all_goals
        go_ret
        exact ⟨H.ret_int (by unfold mx; split <;> omega), ⟨_, rfl⟩⟩

end Go.Proofs.Ytclkajdafinccaa.P
