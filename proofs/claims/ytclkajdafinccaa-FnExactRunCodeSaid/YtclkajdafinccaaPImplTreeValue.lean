-- Written by a program of this session (wip/plug.py) out of Lean's print of the translation.
import Derived.Test.YtclkajdafinccaaP0
import Derived.Test.YtclkajdafinccaaPImplTreeFrom
import Derived.Test.YtclkajdafinccaaPImplMod
import Derived.Test.YtclkajdafinccaaPImplCombine
namespace Go.Proofs.Ytclkajdafinccaa.P
open Go.RowKit Go.Proofs.YtclkajdafinccaaW.PrintWords Go.Proofs.YtclkajdafinccaaW.PrintLast Go.Proofs.YtclkajdafinccaaW.PrintMore
attribute [local go_sem] max2_int min2_int max_two min_two max_three min_three max_four min_four   -- for this text's walks alone
set_option linter.unusedVariables false
set_option linter.unusedSimpArgs false

/-! ### impl_tree_value: function 73 -/
def modF (n : Int) : Int := Int.tmod (wrap64 ((Int.tmod n 1000003) + 1000003)) 1000003
def doF (op a b : Int) : Int := if op = 2 then modF (wrap64 (a + b)) else if op = 3 then modF (wrap64 (a - b)) else modF (wrap64 (a * b))

theorem impl_mod_f (n : Int) : impl_mod.f n = some (modF n) := rfl
theorem impl_combine_f (op a b : Int) : impl_combine.f op a b = some (doF op a b) := by
  unfold impl_combine.f doF
  simp only [impl_mod_f, Option.bind_some]
  split
  · rfl
  · split <;> rfl

def Tr.value : Tr → Int
  | .leaf _ num _ => modF num
  | .node op _ _ a b => doF op a.value b.value

set_option maxHeartbeats 8000000 in
set_option maxRecDepth 100000 in
theorem impl_tree_value.calls : ∀ (t : Tr) (B p : Nat) (w : World) (_ : TreeAt B w p t),
    Calls Try.prog 73 #[.pointer (some ⟨p, 0, none⟩)] w fun e w' => e = .returned (.int .i64 t.value) ∧ Drawn0 w w'
  | .leaf op num at_, B, p, w, h => by
    have h3 : w.cell? ⟨p, 3, none⟩ = some (.pointer none) := (blk_cell h.2 3).trans rfl
    have h1 : w.cell? ⟨p, 1, none⟩ = some (.int .i64 num) := (blk_cell h.2 1).trans rfl
    clear h
    have HM : Aside0 (∀ W, Calls Try.prog 68 #[.int .i64 num] W fun e w' => e = .returned (.int .i64 (modF num)) ∧ Drawn0 W w') := ⟨fun W => impl_mod.calls num _ W rfl⟩
    simp only [Tr.value]
    generalize modF num = v at HM ⊢
    go_enter Try.func73, Try.ntmps73
    go_wp2_with fail
    refine (HM.out _).mono ?_
    rintro e w' ⟨rfl, hd⟩
    have HD := Aside0.mk hd
    clear hd
    go_wp2
    go_ret
    exact ⟨rfl, HD.out⟩
  | .node op num at_ a b, B, p, w, h => by
    obtain ⟨pa, pb, _, h, ha, hb⟩ := h
    have h0 : w.cell? ⟨p, 0, none⟩ = some (.int .i64 op) := (blk_cell h 0).trans rfl
    have h3 : w.cell? ⟨p, 3, none⟩ = some (.pointer (some ⟨pa, 0, none⟩)) := (blk_cell h 3).trans rfl
    have h4 : w.cell? ⟨p, 4, none⟩ = some (.pointer (some ⟨pb, 0, none⟩)) := (blk_cell h 4).trans rfl
    have CA : Aside0 (∀ n, Calls Try.prog 73 #[.pointer (some ⟨pa, 0, none⟩)] (w.drewN n) fun e w' => e = .returned (.int .i64 a.value) ∧ ∃ m, w' = w.drewN m) :=
      ⟨fun n => (impl_tree_value.calls a B pa _ (ha.below (Drawn0.below (Drawn0.step (Drawn0.refl w) n)))).mono fun e w' ⟨he, hd⟩ => ⟨he, (H.drawn_drewN n hd)⟩⟩
    have CB : Aside0 (∀ n, Calls Try.prog 73 #[.pointer (some ⟨pb, 0, none⟩)] (w.drewN n) fun e w' => e = .returned (.int .i64 b.value) ∧ ∃ m, w' = w.drewN m) :=
      ⟨fun n => (impl_tree_value.calls b B pb _ (hb.below (Drawn0.below (Drawn0.step (Drawn0.refl w) n)))).mono fun e w' ⟨he, hd⟩ => ⟨he, (H.drawn_drewN n hd)⟩⟩
    have CC : Aside0 (∀ n, Calls Try.prog 69 #[.int .i64 op, .int .i64 a.value, .int .i64 b.value] (w.drewN n) fun e w' => e = .returned (.int .i64 (doF op a.value b.value)) ∧ ∃ m, w' = w.drewN m) :=
      ⟨fun n => (impl_combine.calls op a.value b.value _ _ (impl_combine_f _ _ _)).mono fun e w' ⟨he, hd⟩ => ⟨he, (H.drawn_drewN n hd)⟩⟩
    clear h ha hb
    simp only [Tr.value]
    generalize doF op a.value b.value = r at CC ⊢
    generalize a.value = x at CA CC
    generalize b.value = y at CB CC
    go_enter Try.func73, Try.ntmps73
    go_wp2
    go_quiet (first | (with_reducible exact CA.out _) | (with_reducible exact CB.out _) | (with_reducible exact CC.out _))
    go_wp2
    go_ret
    exact ⟨rfl, ⟨_, rfl⟩⟩

end Go.Proofs.Ytclkajdafinccaa.P
