-- Written by a program of this session (wip/plug.py) out of Lean's print of the translation.
import Derived.Test.YtplcipjlkogadaaP0
namespace Go.Proofs.Ytplcipjlkogadaa.P
open Go.RowKit Go.Proofs.YtplcipjlkogadaaW.PrintWords Go.Proofs.YtplcipjlkogadaaW.PrintLast Go.Proofs.YtplcipjlkogadaaW.PrintMore
attribute [local go_sem] max2_int min2_int max_two min_two max_three min_three max_four min_four   -- for this text's walks alone
set_option linter.unusedVariables false
set_option linter.unusedSimpArgs false

/-! ### slices_IndexFunc_int_int: function 82 -/
set_option maxHeartbeats 8000000 in
theorem slices_IndexFunc_Row.calls (F : Nat) (cv : Value) (p : List Int → Bool) (A0 : Option Addr) (c0 : Nat) (l0 : List (List Int)) (w : World) (hr0 : Kd.C (Kd.slice 3 (Kd.int .i64)) w A0 l0.length l0) (hc0 : l0.length ≤ c0)
    (hE : ∀ (args : Array Value) (W : World), (callFunc F args).run Try.prog W = .ok (.enter F args) W)
    (hF : ∀ (A : Option Addr) (c : Nat) (x : List Int) (W : World), x ∈ l0 → Below w.heap.size w W → x.length ≤ c → (Kd.int .i64).C W A x.length x → Calls Try.prog F #[.slice A x.length c, cv] W fun e w' => e = .returned (.bool (p x)) ∧ Below W.heap.size W w') :
    Calls Try.prog 82 #[.slice A0 l0.length c0, .func (.func F) #[] #[cv]] w fun e w' => e = .returned (.int .i64 (H.idxB p l0)) ∧ Below w.heap.size w w' := by
  have HR := Aside0.mk hr0
  have HF := Aside0.mk hF
  have hn := hr0.2.1
  clear hr0 hF
  go_enter Try.func82, Try.ntmps82
  go_wp2
  go_loopw [8] (fun v8 wr => ∃ i : Nat, v8 = .int .i64 i ∧ i ≤ l0.length ∧ Aside0 (∀ j, j < i → p (l0.getD j []) = false) ∧ Aside0 (Below w.heap.size w wr)) (fun v8 _ => l0.length - (intOf v8).toNat)
  case atStart => exact ⟨0, rfl, Nat.zero_le _, ⟨by intro j h; omega⟩, ⟨Below.refl _ _⟩⟩
  case round =>
    obtain ⟨i, rfl, hi, HA, HB⟩ := hrel
    by_cases hlt : i < l0.length
    · obtain ⟨ad, A1, c1, e, h0, h1, h2⟩ := at_L1 HR.out (i : Int) (by omega) (by omega)
      cases e
      have hm : rd_L1 l0 (i : Int) ∈ l0 := by
        unfold rd_L1
        rw [Int.toNat_natCast, List.getD_eq_getElem?_getD, List.getElem?_eq_getElem hlt]
        exact List.getElem_mem hlt
      replace h0 := (HB.out.cell (World.block_lt_of_cell? w _ h0)).trans h0
      rw [Int.toNat_natCast] at h0
      have H2 := Aside0.mk (Kd.C_below h2 HB.out)
      clear h2
      have HX : ∃ x, rd_L1 l0 (i : Int) = x := ⟨_, rfl⟩
      obtain ⟨x, hx⟩ := HX
      rw [hx] at h0 h1 hm H2
      have hx' : l0.getD i [] = x := by rw [← hx]; rfl
      have HX := Aside0.mk hx'
      clear hx hx'
      go_wp2_with fail
      refine (HF.out A1 c1 x _ hm HB.out h1 H2.out).mono ?_
      rintro e w' ⟨rfl, hb⟩
      have HB' := Aside0.mk (HB.out.trans (hb.mono HB.out.size))
      clear hb HB h0 h1
      cases hp : p x with
      | true =>
        have HP := Aside0.mk hp
        clear hp
        go_wp2
        go_ret
        exact ⟨H.ret_int (H.idxB_at [] hlt (by rw [HX.out]; exact HP.out) HA.out), HB'.out⟩
      | false =>
        have HP := Aside0.mk hp
        clear hp
        go_wp2
        go_roundw
        case rel => exact ⟨i + 1, by go_num, by omega, ⟨fun j hj => by rcases Nat.lt_succ_iff_lt_or_eq.1 hj with h | rfl; exact HA.out j h; rw [HX.out]; exact HP.out⟩, HB'⟩
        case measure => simp [intOf]; omega
    · go_wp2
      go_ret
      exact ⟨H.ret_int (H.idxB_none [] (fun j hj => HA.out j (by omega))), HB.out⟩

end Go.Proofs.Ytplcipjlkogadaa.P
