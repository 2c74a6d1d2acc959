-- Written by a program of this session (wip/plug.py) out of Lean's print of the translation.
import Derived.Test.YtclkajdafinccaaP0
namespace Go.Proofs.Ytclkajdafinccaa.P
open Go.RowKit Go.Proofs.YtclkajdafinccaaW.PrintWords Go.Proofs.YtclkajdafinccaaW.PrintLast Go.Proofs.YtclkajdafinccaaW.PrintMore
attribute [local go_sem] max2_int min2_int max_two min_two max_three min_three max_four min_four   -- for this text's walks alone
set_option linter.unusedVariables false
set_option linter.unusedSimpArgs false

/-! ### impl_Span_85: function 85 -/
set_option maxHeartbeats 8000000 in
theorem slices_IndexFunc_Span.calls (F : Nat) (p : S65 → Bool) (A0 : Option Addr) (c0 : Nat) (l0 : List (S65)) (w : World) (hr0 : Kd.C k65 w A0 l0.length l0) (hc0 : l0.length ≤ c0)
    (hE : ∀ (args : Array Value) (W : World), (callFunc F args).run Try.prog W = .ok (.enter F args) W)
    (hF : ∀ (x : S65) (W : World), Calls Try.prog F #[.agg #[.int .i64 x.f0, .int .i64 x.f1]] W fun e w' => e = .returned (.bool (p x)) ∧ Below W.heap.size W w') :
    Calls Try.prog 85 #[.slice A0 l0.length c0, .func (.func F) #[] #[]] w fun e w' => e = .returned (.int .i64 (H.idxB p l0)) ∧ Below w.heap.size w w' := by
  have HR := Aside0.mk hr0
  have HF := Aside0.mk hF
  have hn := hr0.2.1
  clear hr0 hF
  go_enter Try.func85, Try.ntmps85
  go_wp2
  go_loopw [8] (fun v8 wr => ∃ i : Nat, v8 = .int .i64 i ∧ i ≤ l0.length ∧ Aside0 (∀ j, j < i → p (l0.getD j z65) = false) ∧ Aside0 (Below w.heap.size w wr)) (fun v8 _ => l0.length - (intOf v8).toNat)
  case atStart => exact ⟨0, rfl, Nat.zero_le _, ⟨by intro j h; omega⟩, ⟨Below.refl _ _⟩⟩
  case round =>
    obtain ⟨i, rfl, hi, HA, HB⟩ := hrel
    by_cases hlt : i < l0.length
    · obtain ⟨ad, e, h0, h1⟩ := at_T65 HR.out (i : Int) (by omega) (by omega)
      cases e
      replace h0 := (HB.out.cell (World.block_lt_of_cell? w _ h0)).trans h0
      replace h1 := (HB.out.cell (World.block_lt_of_cell? w _ h1)).trans h1
      rw [Int.toNat_natCast] at h0 h1
      go_wp2_with fail
      refine (HF.out (rd_T65 l0 (i : Int)) _).mono ?_
      rintro e w' ⟨rfl, hb⟩
      have HB' := Aside0.mk (HB.out.trans (hb.mono HB.out.size))
      clear hb HB h0 h1
      cases hp : p (rd_T65 l0 (i : Int)) with
      | true =>
        have HP := Aside0.mk hp
        clear hp
        go_wp2
        go_ret
        exact ⟨H.ret_int (H.idxB_at z65 hlt HP.out HA.out), HB'.out⟩
      | false =>
        have HP := Aside0.mk hp
        clear hp
        go_wp2
        go_roundw
        case rel => exact ⟨i + 1, by go_num, by omega, ⟨fun j hj => by rcases Nat.lt_succ_iff_lt_or_eq.1 hj with h | rfl; exact HA.out j h; exact HP.out⟩, HB'⟩
        case measure => simp [intOf]; omega
    · go_wp2
      go_ret
      exact ⟨H.ret_int (H.idxB_none z65 (fun j hj => HA.out j (by omega))), HB.out⟩

end Go.Proofs.Ytclkajdafinccaa.P
