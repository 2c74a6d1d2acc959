-- Written by a program of this session (wip/plug.py) out of Lean's print of the translation.
import Derived.Test.YtplcipjlkogadaaP0
import Derived.Test.YtplcipjlkogadaaPSlicesIndexFuncIntInt
namespace Go.Proofs.Ytplcipjlkogadaa.P
open Go.RowKit Go.Proofs.YtplcipjlkogadaaW.PrintWords Go.Proofs.YtplcipjlkogadaaW.PrintLast Go.Proofs.YtplcipjlkogadaaW.PrintMore
attribute [local go_sem] max2_int min2_int max_two min_two max_three min_three max_four min_four   -- for this text's walks alone
set_option linter.unusedVariables false
set_option linter.unusedSimpArgs false

/-! ### slices_ContainsFunc_int_int: function 57 -/
theorem slices_ContainsFunc_Row.calls (F : Nat) (cv : Value) (p : List Int → Bool) (A0 : Option Addr) (c0 : Nat) (l0 : List (List Int)) (w : World) (hr0 : Kd.C (Kd.slice 3 (Kd.int .i64)) w A0 l0.length l0) (hc0 : l0.length ≤ c0)
    (hE : ∀ (args : Array Value) (W : World), (callFunc F args).run Try.prog W = .ok (.enter F args) W)
    (hF : ∀ (A : Option Addr) (c : Nat) (x : List Int) (W : World), x ∈ l0 → Below w.heap.size w W → x.length ≤ c → (Kd.int .i64).C W A x.length x → Calls Try.prog F #[.slice A x.length c, cv] W fun e w' => e = .returned (.bool (p x)) ∧ Below W.heap.size W w') :
    Calls Try.prog 57 #[.slice A0 l0.length c0, .func (.func F) #[] #[cv]] w fun e w' => e = .returned (.bool (l0.any p)) ∧ Below w.heap.size w w' := by
  have HC := Aside0.mk (slices_IndexFunc_Row.calls F cv p A0 c0 l0 w hr0 hc0 hE hF)
  clear hr0 hF hE
  go_enter Try.func57, Try.ntmps57
  go_wp2_with fail
  refine HC.out.mono ?_
  rintro e w' ⟨rfl, hb⟩
  have HB := Aside0.mk hb
  clear hb
  go_wp2
  go_ret
  exact ⟨H.ret_bool (H.idxB_any p l0), HB.out⟩

end Go.Proofs.Ytplcipjlkogadaa.P
