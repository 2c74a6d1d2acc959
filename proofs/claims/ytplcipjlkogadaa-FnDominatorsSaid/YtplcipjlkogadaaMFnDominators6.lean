import Derived.Test.YtplcipjlkogadaaMFnDominators1
import Derived.Test.YtplcipjlkogadaaMFnDominators2
import Derived.Test.YtplcipjlkogadaaMFnDominators3
import Derived.Test.YtplcipjlkogadaaMFnDominators4
import Derived.Test.YtplcipjlkogadaaMFnDominators5
set_option linter.unusedVariables false
set_option linter.unusedSimpArgs false
set_option linter.unusedSectionVars false
namespace Go.Proofs.Ytplcipjlkogadaa.P
open Go.RowKit Go.Proofs.YtplcipjlkogadaaW.PrintWords Go.Proofs.YtplcipjlkogadaaW.PrintLast Go.Proofs.YtplcipjlkogadaaW.PrintMore
attribute [local go_sem] max2_int min2_int max_two min_two max_three min_three max_four min_four
mutual
def laws_FnDominators.j0 : Nat → List Int → List (List Int) → List Int → List Int → Bool → List (List Int) → Option (Bool)
  | 0, _, _, _, _, _, _ => none
  | k + 1, x1, x6, x10, x14, x111, x404000 => if x111 = true then (some false) else (laws_FnDominators.l0 k x1 x6 x10 x14 x6 (x6.length : Int) 0 x404000)
def laws_FnDominators.l0 : Nat → List Int → List (List Int) → List Int → List Int → List (List Int) → Int → Int → List (List Int) → Option (Bool)
  | 0, _, _, _, _, _, _, _, _ => none
  | k + 1, x1, x6, x10, x14, x112, x113, x114, x404000 => if x114 < x113 then (if 0 ≤ x114 then (if x114 < (x112.length : Int) then ((laws_has.f k x14 x114).bind fun t433 => ((laws_has.f k (rd_L1 x112 x114) x114).bind fun t434 => (if (t433 != t434) = true then (laws_FnDominators.j2 k x1 x6 x10 x14 x114 x112 x113 x114 true x404000) else ((laws_has.f k x14 x114).bind fun t435 => ((laws_has.f k (rd_L1 x112 x114) 0).bind fun t436 => (laws_FnDominators.j2 k x1 x6 x10 x14 x114 x112 x113 x114 (t435 != t436) x404000)))))) else (none)) else (none)) else ((spec_DrawWithout.f k x1).bind fun bt456 => ((impl_Without.f bt456.1 bt456.2).bind fun bt461 => ((spec_Without.f k bt456.1 bt456.2).bind fun bt465 => (if (bt461.2 == bt465.2) = true then ((laws_sameInts.f k bt461.1 bt465.1).bind fun t469 => (some t469)) else (some false)))))
def laws_FnDominators.j2 : Nat → List Int → List (List Int) → List Int → List Int → Int → List (List Int) → Int → Int → Bool → List (List Int) → Option (Bool)
  | 0, _, _, _, _, _, _, _, _, _, _ => none
  | k + 1, x1, x6, x10, x14, x18, x112, x113, x114, x133, x404000 => if x133 = true then (some false) else (laws_FnDominators.l1 k x1 x6 x10 x14 x18 (rd_L1 x112 x114) x112 x113 x114 x14 (x14.length : Int) 0 x404000)
def laws_FnDominators.l1 : Nat → List Int → List (List Int) → List Int → List Int → Int → List Int → List (List Int) → Int → Int → List Int → Int → Int → List (List Int) → Option (Bool)
  | 0, _, _, _, _, _, _, _, _, _, _, _, _, _ => none
  | k + 1, x1, x6, x10, x14, x18, x19, x112, x113, x114, x134, x135, x136, x404000 => if x136 < x135 then (if 0 ≤ x136 then (if x136 < (x134.length : Int) then ((impl_Without.f x404000 (rd x134 x136)).bind fun bt438 => (if bt438.2 = true then ((laws_has.f k x14 x18).bind fun t442 => (if t442 = true then ((laws_has.f k x19 (rd x134 x136)).bind fun t443 => ((laws_has.f k bt438.1 x18).bind fun t444 => (if (t443 == t444) = true then (some false) else (laws_FnDominators.l1 k x1 x6 x10 x14 x18 x19 x112 x113 x114 x134 x135 (wrap64 (x136 + 1)) x404000)))) else (laws_FnDominators.l1 k x1 x6 x10 x14 x18 x19 x112 x113 x114 x134 x135 (wrap64 (x136 + 1)) x404000))) else (some false))) else (none)) else (none)) else (laws_FnDominators.l2 k x1 x6 x10 x14 x18 x19 x112 x113 x114 x19 (x19.length : Int) 0 x404000)
def laws_FnDominators.l2 : Nat → List Int → List (List Int) → List Int → List Int → Int → List Int → List (List Int) → Int → Int → List Int → Int → Int → List (List Int) → Option (Bool)
  | 0, _, _, _, _, _, _, _, _, _, _, _, _, _ => none
  | k + 1, x1, x6, x10, x14, x18, x19, x112, x113, x114, x163, x164, x165, x404000 => if x165 < x164 then (if 0 ≤ x165 then (if x165 < (x163.length : Int) then (laws_FnDominators.l3 k x1 x6 x10 x14 x18 x19 (rd x163 x165) x112 x113 x114 x163 x164 x165 x19 (x19.length : Int) 0 x404000) else (none)) else (none)) else (if 0 ≤ x18 then (if x18 < (x10.length : Int) then (if (rd x10 x18) ≥ 0 then (laws_FnDominators.l4 k x1 x6 x10 x14 x18 (rd x10 x18) x112 x113 x114 x19 (x19.length : Int) 0 x404000) else ((laws_has.f k x14 x18).bind fun t455 => (if t455 = true then (if x18 > 0 then (some false) else (laws_FnDominators.l0 k x1 x6 x10 x14 x112 x113 (wrap64 (x114 + 1)) x404000)) else (laws_FnDominators.l0 k x1 x6 x10 x14 x112 x113 (wrap64 (x114 + 1)) x404000)))) else (none)) else (none))
def laws_FnDominators.l3 : Nat → List Int → List (List Int) → List Int → List Int → Int → List Int → Int → List (List Int) → Int → Int → List Int → Int → Int → List Int → Int → Int → List (List Int) → Option (Bool)
  | 0, _, _, _, _, _, _, _, _, _, _, _, _, _, _, _, _, _ => none
  | k + 1, x1, x6, x10, x14, x18, x19, x25, x112, x113, x114, x163, x164, x165, x169, x170, x171, x404000 => if x171 < x170 then (if 0 ≤ x171 then (if x171 < (x169.length : Int) then (if 0 ≤ x25 then (if x25 < (x6.length : Int) then ((laws_has.f k (rd_L1 x6 x25) (rd x169 x171)).bind fun t448 => (if t448 = true then (laws_FnDominators.l3 k x1 x6 x10 x14 x18 x19 x25 x112 x113 x114 x163 x164 x165 x169 x170 (wrap64 (x171 + 1)) x404000) else (if 0 ≤ (rd x169 x171) then (if (rd x169 x171) < (x6.length : Int) then ((laws_has.f k (rd_L1 x6 (rd x169 x171)) x25).bind fun t450 => (if t450 = true then (laws_FnDominators.l3 k x1 x6 x10 x14 x18 x19 x25 x112 x113 x114 x163 x164 x165 x169 x170 (wrap64 (x171 + 1)) x404000) else (some false))) else (none)) else (none)))) else (none)) else (none)) else (none)) else (none)) else (laws_FnDominators.l2 k x1 x6 x10 x14 x18 x19 x112 x113 x114 x163 x164 (wrap64 (x165 + 1)) x404000)
def laws_FnDominators.l4 : Nat → List Int → List (List Int) → List Int → List Int → Int → Int → List (List Int) → Int → Int → List Int → Int → Int → List (List Int) → Option (Bool)
  | 0, _, _, _, _, _, _, _, _, _, _, _, _, _ => none
  | k + 1, x1, x6, x10, x14, x18, x28, x112, x113, x114, x199, x200, x201, x404000 => if x201 < x200 then (if 0 ≤ x201 then (if x201 < (x199.length : Int) then (if (rd x199 x201) = x18 then (laws_FnDominators.l4 k x1 x6 x10 x14 x18 x28 x112 x113 x114 x199 x200 (wrap64 (x201 + 1)) x404000) else (if 0 ≤ x28 then (if x28 < (x6.length : Int) then ((laws_has.f k (rd_L1 x6 x28) (rd x199 x201)).bind fun t454 => (if t454 = true then (laws_FnDominators.l4 k x1 x6 x10 x14 x18 x28 x112 x113 x114 x199 x200 (wrap64 (x201 + 1)) x404000) else (some false))) else (none)) else (none))) else (none)) else (none)) else (laws_FnDominators.l0 k x1 x6 x10 x14 x112 x113 (wrap64 (x114 + 1)) x404000)
end
def laws_FnDominators.f (k : Nat) (l0 : List Int) (l1 : List Int) : Option (Bool) := if (wrap64 ((l0.length : Int) + (l1.length : Int))) > 1048576 then (some true) else ((spec_DrawDominatorsOf.f k l0).bind fun t400 => ((impl_DominatorsOf.f t400).bind fun bt404 => ((spec_DominatorsOf.f k t400).bind fun bt408 => ((impl_NearestOf.f t400).bind fun bt412 => ((spec_NearestOf.f k t400).bind fun bt416 => ((impl_ReachedOf.f t400).bind fun bt420 => ((spec_ReachedOf.f k t400).bind fun bt424 => (if (bt404.2 != bt408.2) = true then (laws_FnDominators.j0 k l1 bt404.1 bt412.1 bt420.1 true t400) else ((laws_sameLists.f k bt404.1 bt408.1).bind fun t428 => (if t428 = true then (if (bt412.2 != bt416.2) = true then (laws_FnDominators.j0 k l1 bt404.1 bt412.1 bt420.1 true t400) else ((laws_sameInts.f k bt412.1 bt416.1).bind fun t429 => (if t429 = true then (if (bt420.2 != bt424.2) = true then (laws_FnDominators.j0 k l1 bt404.1 bt412.1 bt420.1 true t400) else ((laws_sameInts.f k bt420.1 bt424.1).bind fun t430 => (if t430 = true then ((impl_GoodGraph.f t400).bind fun t431 => (laws_FnDominators.j0 k l1 bt404.1 bt412.1 bt420.1 (t431 != bt408.2) t400)) else (laws_FnDominators.j0 k l1 bt404.1 bt412.1 bt420.1 true t400)))) else (laws_FnDominators.j0 k l1 bt404.1 bt412.1 bt420.1 true t400)))) else (laws_FnDominators.j0 k l1 bt404.1 bt412.1 bt420.1 true t400)))))))))))
set_option maxHeartbeats 8000000 in
set_option maxRecDepth 100000 in
theorem laws_FnDominators.calls (k : Nat) (A0 : Option Addr) (c0 : Nat) (l0 : List Int) (A1 : Option Addr) (c1 : Nat) (l1 : List Int) (r : Bool) (w : World) (hr0 : Kd.C (Kd.int .u8) w A0 l0.length l0) (hc0 : l0.length ≤ c0) (hr1 : Kd.C (Kd.int .u8) w A1 l1.length l1) (hc1 : l1.length ≤ c1) (h : laws_FnDominators.f k l0 l1 = some r) (hrt : Aside0 (r = true)) :
    Calls Try.prog 12 #[.slice A0 l0.length c0, .slice A1 l1.length c1] w fun e w' => e = .returned (.bool r) ∧ Below w.heap.size w w' := by
  have hu27 := Try.underlying27
  have HR0 := Aside0.mk hr0
  have HC0 := Aside0.mk hc0
  clear hr0 hc0
  have HR1 := Aside0.mk hr1
  have HC1 := Aside0.mk hc1
  clear hr1 hc1
  have HB := Aside0.mk (Below.refl w.heap.size w)
  have H : (if (wrap64 ((l0.length : Int) + (l1.length : Int))) > 1048576 then (some true) else ((spec_DrawDominatorsOf.f k l0).bind fun t400 => ((impl_DominatorsOf.f t400).bind fun bt404 => ((spec_DominatorsOf.f k t400).bind fun bt408 => ((impl_NearestOf.f t400).bind fun bt412 => ((spec_NearestOf.f k t400).bind fun bt416 => ((impl_ReachedOf.f t400).bind fun bt420 => ((spec_ReachedOf.f k t400).bind fun bt424 => (if (bt404.2 != bt408.2) = true then (laws_FnDominators.j0 k l1 bt404.1 bt412.1 bt420.1 true t400) else ((laws_sameLists.f k bt404.1 bt408.1).bind fun t428 => (if t428 = true then (if (bt412.2 != bt416.2) = true then (laws_FnDominators.j0 k l1 bt404.1 bt412.1 bt420.1 true t400) else ((laws_sameInts.f k bt412.1 bt416.1).bind fun t429 => (if t429 = true then (if (bt420.2 != bt424.2) = true then (laws_FnDominators.j0 k l1 bt404.1 bt412.1 bt420.1 true t400) else ((laws_sameInts.f k bt420.1 bt424.1).bind fun t430 => (if t430 = true then ((impl_GoodGraph.f t400).bind fun t431 => (laws_FnDominators.j0 k l1 bt404.1 bt412.1 bt420.1 (t431 != bt408.2) t400)) else (laws_FnDominators.j0 k l1 bt404.1 bt412.1 bt420.1 true t400)))) else (laws_FnDominators.j0 k l1 bt404.1 bt412.1 bt420.1 true t400)))) else (laws_FnDominators.j0 k l1 bt404.1 bt412.1 bt420.1 true t400)))))))))))) = some r := h
  clear h
  by_cases c3 : (wrap64 ((l0.length : Int) + (l1.length : Int))) > 1048576
  · rw [if_pos c3] at H
    have c3b0 : decide (1048576 < (wrap64 ((l0.length : Int) + (l1.length : Int)))) = true := decide_eq_true c3
    clear c3
    as_aux_lemma =>
      obtain rfl := Option.some.inj H
      go_enter Try.func12, Try.ntmps12
      go_wp2
      go_ret
      exact ⟨by first | rfl | (simp [errW_none, errW_some] <;> rfl) | (simp [*, errW_none, errW_some] <;> rfl), by repeat (first | (with_reducible first | exact HB.out | apply below_alloc | apply pw_below_drewN | apply below_drew1) | exact HB.out)⟩
  · rw [if_neg c3] at H
    have c3b0 : decide (1048576 < (wrap64 ((l0.length : Int) + (l1.length : Int)))) = false := decide_eq_false c3
    clear c3
    replace H := Option.bind_eq_some_iff.mp H
    obtain ⟨t400, A40, H⟩ := H
    replace H : ((impl_DominatorsOf.f t400).bind fun bt404 => ((spec_DominatorsOf.f k t400).bind fun bt408 => ((impl_NearestOf.f t400).bind fun bt412 => ((spec_NearestOf.f k t400).bind fun bt416 => ((impl_ReachedOf.f t400).bind fun bt420 => ((spec_ReachedOf.f k t400).bind fun bt424 => (if (bt404.2 != bt408.2) = true then (laws_FnDominators.j0 k l1 bt404.1 bt412.1 bt420.1 true t400) else ((laws_sameLists.f k bt404.1 bt408.1).bind fun t428 => (if t428 = true then (if (bt412.2 != bt416.2) = true then (laws_FnDominators.j0 k l1 bt404.1 bt412.1 bt420.1 true t400) else ((laws_sameInts.f k bt412.1 bt416.1).bind fun t429 => (if t429 = true then (if (bt420.2 != bt424.2) = true then (laws_FnDominators.j0 k l1 bt404.1 bt412.1 bt420.1 true t400) else ((laws_sameInts.f k bt420.1 bt424.1).bind fun t430 => (if t430 = true then ((impl_GoodGraph.f t400).bind fun t431 => (laws_FnDominators.j0 k l1 bt404.1 bt412.1 bt420.1 (t431 != bt408.2) t400)) else (laws_FnDominators.j0 k l1 bt404.1 bt412.1 bt420.1 true t400)))) else (laws_FnDominators.j0 k l1 bt404.1 bt412.1 bt420.1 true t400)))) else (laws_FnDominators.j0 k l1 bt404.1 bt412.1 bt420.1 true t400)))))))))) = some r := H
    have A4 := Aside0.mk A40
    clear A40
    replace H := Option.bind_eq_some_iff.mp H
    obtain ⟨⟨t404, t407⟩, A50, H⟩ := H
    replace H : ((spec_DominatorsOf.f k t400).bind fun bt408 => ((impl_NearestOf.f t400).bind fun bt412 => ((spec_NearestOf.f k t400).bind fun bt416 => ((impl_ReachedOf.f t400).bind fun bt420 => ((spec_ReachedOf.f k t400).bind fun bt424 => (if (t407 != bt408.2) = true then (laws_FnDominators.j0 k l1 t404 bt412.1 bt420.1 true t400) else ((laws_sameLists.f k t404 bt408.1).bind fun t428 => (if t428 = true then (if (bt412.2 != bt416.2) = true then (laws_FnDominators.j0 k l1 t404 bt412.1 bt420.1 true t400) else ((laws_sameInts.f k bt412.1 bt416.1).bind fun t429 => (if t429 = true then (if (bt420.2 != bt424.2) = true then (laws_FnDominators.j0 k l1 t404 bt412.1 bt420.1 true t400) else ((laws_sameInts.f k bt420.1 bt424.1).bind fun t430 => (if t430 = true then ((impl_GoodGraph.f t400).bind fun t431 => (laws_FnDominators.j0 k l1 t404 bt412.1 bt420.1 (t431 != bt408.2) t400)) else (laws_FnDominators.j0 k l1 t404 bt412.1 bt420.1 true t400)))) else (laws_FnDominators.j0 k l1 t404 bt412.1 bt420.1 true t400)))) else (laws_FnDominators.j0 k l1 t404 bt412.1 bt420.1 true t400))))))))) = some r := H
    have A5 := Aside0.mk A50
    clear A50
    replace H := Option.bind_eq_some_iff.mp H
    obtain ⟨⟨t408, t411⟩, A60, H⟩ := H
    replace H : ((impl_NearestOf.f t400).bind fun bt412 => ((spec_NearestOf.f k t400).bind fun bt416 => ((impl_ReachedOf.f t400).bind fun bt420 => ((spec_ReachedOf.f k t400).bind fun bt424 => (if (t407 != t411) = true then (laws_FnDominators.j0 k l1 t404 bt412.1 bt420.1 true t400) else ((laws_sameLists.f k t404 t408).bind fun t428 => (if t428 = true then (if (bt412.2 != bt416.2) = true then (laws_FnDominators.j0 k l1 t404 bt412.1 bt420.1 true t400) else ((laws_sameInts.f k bt412.1 bt416.1).bind fun t429 => (if t429 = true then (if (bt420.2 != bt424.2) = true then (laws_FnDominators.j0 k l1 t404 bt412.1 bt420.1 true t400) else ((laws_sameInts.f k bt420.1 bt424.1).bind fun t430 => (if t430 = true then ((impl_GoodGraph.f t400).bind fun t431 => (laws_FnDominators.j0 k l1 t404 bt412.1 bt420.1 (t431 != t411) t400)) else (laws_FnDominators.j0 k l1 t404 bt412.1 bt420.1 true t400)))) else (laws_FnDominators.j0 k l1 t404 bt412.1 bt420.1 true t400)))) else (laws_FnDominators.j0 k l1 t404 bt412.1 bt420.1 true t400)))))))) = some r := H
    have A6 := Aside0.mk A60
    clear A60
    replace H := Option.bind_eq_some_iff.mp H
    obtain ⟨⟨t412, t415⟩, A70, H⟩ := H
    replace H : ((spec_NearestOf.f k t400).bind fun bt416 => ((impl_ReachedOf.f t400).bind fun bt420 => ((spec_ReachedOf.f k t400).bind fun bt424 => (if (t407 != t411) = true then (laws_FnDominators.j0 k l1 t404 t412 bt420.1 true t400) else ((laws_sameLists.f k t404 t408).bind fun t428 => (if t428 = true then (if (t415 != bt416.2) = true then (laws_FnDominators.j0 k l1 t404 t412 bt420.1 true t400) else ((laws_sameInts.f k t412 bt416.1).bind fun t429 => (if t429 = true then (if (bt420.2 != bt424.2) = true then (laws_FnDominators.j0 k l1 t404 t412 bt420.1 true t400) else ((laws_sameInts.f k bt420.1 bt424.1).bind fun t430 => (if t430 = true then ((impl_GoodGraph.f t400).bind fun t431 => (laws_FnDominators.j0 k l1 t404 t412 bt420.1 (t431 != t411) t400)) else (laws_FnDominators.j0 k l1 t404 t412 bt420.1 true t400)))) else (laws_FnDominators.j0 k l1 t404 t412 bt420.1 true t400)))) else (laws_FnDominators.j0 k l1 t404 t412 bt420.1 true t400))))))) = some r := H
    have A7 := Aside0.mk A70
    clear A70
    replace H := Option.bind_eq_some_iff.mp H
    obtain ⟨⟨t416, t419⟩, A80, H⟩ := H
    replace H : ((impl_ReachedOf.f t400).bind fun bt420 => ((spec_ReachedOf.f k t400).bind fun bt424 => (if (t407 != t411) = true then (laws_FnDominators.j0 k l1 t404 t412 bt420.1 true t400) else ((laws_sameLists.f k t404 t408).bind fun t428 => (if t428 = true then (if (t415 != t419) = true then (laws_FnDominators.j0 k l1 t404 t412 bt420.1 true t400) else ((laws_sameInts.f k t412 t416).bind fun t429 => (if t429 = true then (if (bt420.2 != bt424.2) = true then (laws_FnDominators.j0 k l1 t404 t412 bt420.1 true t400) else ((laws_sameInts.f k bt420.1 bt424.1).bind fun t430 => (if t430 = true then ((impl_GoodGraph.f t400).bind fun t431 => (laws_FnDominators.j0 k l1 t404 t412 bt420.1 (t431 != t411) t400)) else (laws_FnDominators.j0 k l1 t404 t412 bt420.1 true t400)))) else (laws_FnDominators.j0 k l1 t404 t412 bt420.1 true t400)))) else (laws_FnDominators.j0 k l1 t404 t412 bt420.1 true t400)))))) = some r := H
    have A8 := Aside0.mk A80
    clear A80
    replace H := Option.bind_eq_some_iff.mp H
    obtain ⟨⟨t420, t423⟩, A90, H⟩ := H
    replace H : ((spec_ReachedOf.f k t400).bind fun bt424 => (if (t407 != t411) = true then (laws_FnDominators.j0 k l1 t404 t412 t420 true t400) else ((laws_sameLists.f k t404 t408).bind fun t428 => (if t428 = true then (if (t415 != t419) = true then (laws_FnDominators.j0 k l1 t404 t412 t420 true t400) else ((laws_sameInts.f k t412 t416).bind fun t429 => (if t429 = true then (if (t423 != bt424.2) = true then (laws_FnDominators.j0 k l1 t404 t412 t420 true t400) else ((laws_sameInts.f k t420 bt424.1).bind fun t430 => (if t430 = true then ((impl_GoodGraph.f t400).bind fun t431 => (laws_FnDominators.j0 k l1 t404 t412 t420 (t431 != t411) t400)) else (laws_FnDominators.j0 k l1 t404 t412 t420 true t400)))) else (laws_FnDominators.j0 k l1 t404 t412 t420 true t400)))) else (laws_FnDominators.j0 k l1 t404 t412 t420 true t400))))) = some r := H
    have A9 := Aside0.mk A90
    clear A90
    replace H := Option.bind_eq_some_iff.mp H
    obtain ⟨⟨t424, t427⟩, A100, H⟩ := H
    replace H : (if (t407 != t411) = true then (laws_FnDominators.j0 k l1 t404 t412 t420 true t400) else ((laws_sameLists.f k t404 t408).bind fun t428 => (if t428 = true then (if (t415 != t419) = true then (laws_FnDominators.j0 k l1 t404 t412 t420 true t400) else ((laws_sameInts.f k t412 t416).bind fun t429 => (if t429 = true then (if (t423 != t427) = true then (laws_FnDominators.j0 k l1 t404 t412 t420 true t400) else ((laws_sameInts.f k t420 t424).bind fun t430 => (if t430 = true then ((impl_GoodGraph.f t400).bind fun t431 => (laws_FnDominators.j0 k l1 t404 t412 t420 (t431 != t411) t400)) else (laws_FnDominators.j0 k l1 t404 t412 t420 true t400)))) else (laws_FnDominators.j0 k l1 t404 t412 t420 true t400)))) else (laws_FnDominators.j0 k l1 t404 t412 t420 true t400)))) = some r := H
    have A10 := Aside0.mk A100
    clear A100
    have HC11 := Aside0.mk H
    clear H
    go_enter Try.func12, Try.ntmps12
    go_upto_region 10 with (first | ((with_reducible refine gate_callee (f := 44) rfl ?_); refine goesL_ (some 44) rfl rfl Try.func44 (by kernel_rfl) rfl #[.slice A0 l0.length c0] rfl (by (try simp only [List.map_toArray, List.map_cons, List.map_nil]); first | done | rfl | (simp only [List.length_drop, List.length_take]; rfl)) ?_; (with_reducible refine (spec_DrawDominatorsOf.calls k _ _ l0 t400 _ ?side1 ?side2 A4.out).mono ?_); (case side1 => repeat (first | exact HR0.out | (with_reducible refine Kd.C_alloc ?_ _) | (with_reducible refine Kd.C_drewN ?_ _) | (with_reducible refine Kd.C_drew ?_))); (case side2 => exact HC0.out); rintro e w12 ⟨v401, rfl, ho0, hb⟩; refine ⟨_, rfl, ?_⟩; have n0_ := Aside0.mk (Kd.S_lower ho0 (below_size (by repeat (first | (with_reducible first | exact HB.out | apply below_alloc | apply pw_below_drewN | apply below_drew1) | exact HB.out)))); have n1_ := Aside0.mk (below_step (by repeat (first | (with_reducible first | exact HB.out | apply below_alloc | apply pw_below_drewN | apply below_drew1) | exact HB.out)) hb); clear HB; have HO402 := n0_; have HB := n1_; clear n0_ n1_; (try clear hb); (try clear hb2); (try clear hk); (try clear hi); (try clear ho0)) | ((with_reducible refine gate_dst (N := 5) rfl ?_); refine box_event ?hg (N := 5) ?hd (cs := #[.slice none 0 0]) (t := 27) ?hr ?_; (case hd => rfl); (case hg => rfl); (case hr => first | (go_simp; done) | (go_simp; rfl)); intro gb403 hg w13 hbox hb; have n0_ := Aside0.mk (Kd.S_below (by (with_reducible repeat (first | apply Kd.S_alloc | apply Kd.S_drewN | apply Kd.S_drew)); exact HO402.out) hb); have n1_ := Aside0.mk (below_step (by repeat (first | (with_reducible first | exact HB.out | apply below_alloc | apply pw_below_drewN | apply below_drew1) | exact HB.out)) hb); have n2_ := Aside0.mk (hbox); have n3_ := Aside0.mk ((by rw [hg]; exact (below_size (by repeat (first | (with_reducible first | exact HB.out | apply below_alloc | apply pw_below_drewN | apply below_drew1) | exact HB.out))) : w.heap.size ≤ gb403)); have n4_ := Aside0.mk ((by rw [hg]; exact (below_size (by repeat (first | (with_reducible first | exact HB.out | apply below_alloc | apply pw_below_drewN | apply below_drew1) | exact HB.out))) : w.heap.size ≤ gb403)); clear HO402; clear HB; have HO402 := n0_; have HB := n1_; have BK403 := n2_; have GW403 := n3_; have GE403 := n4_; clear n0_ n1_ n2_ n3_ n4_; clear hb hbox hg; obtain ⟨Ao14, co14, eo14⟩ := Kd.S_slice HO402.out; subst eo14; have hcz15_0 : w13.cell? ⟨gb403, 0, none⟩ = some (.slice none 0 0) := (blk_cell BK403.out 0).trans rfl; have hfz15_0 := blk_frozen BK403.out 0) | ((with_reducible refine gate_callee (f := 37) rfl ?_); refine goesL_ (some 47) rfl rfl Try.func37 (by kernel_rfl) rfl #[.agg #[.slice Ao14 t400.length co14]] rfl (by (try simp only [List.map_toArray, List.map_cons, List.map_nil]); first | done | rfl | (simp only [List.length_drop, List.length_take]; rfl)) ?_; (with_reducible refine (impl_DominatorsOf.calls _ _ t400 t404 t407 _ ?side1 ?side2 A5.out).mono ?_); (case side1 => refine (Kd.S_reads' (e := 31) (base := w.heap.size) (ok := fun k_ => True) (n := t400.length) (c := co14) ?_).2.2; exact (by (with_reducible repeat (first | apply Kd.S_alloc | apply Kd.S_drewN | apply Kd.S_drew)); exact (Kd.S_mono (Kd.S_far (p := ⟨gb403, 0, none⟩) (Kd.S_types HO402.out BK403.out (by decide)) (fun _ hk => hk.2) (.slice Ao14 t400.length co14)) (fun _ h_ => h_.1)))); (case side2 => exact (Kd.S_reads' HO402.out).2.1); rintro e w16 ⟨v405, rfl, ho0, hb⟩; refine ⟨_, rfl, ?_⟩; have n0_ := Aside0.mk (Kd.S_elder' (by (with_reducible repeat (first | apply Kd.S_alloc | apply Kd.S_drewN | apply Kd.S_drew)); exact (Kd.S_mono (Kd.S_far (p := ⟨gb403, 0, none⟩) (Kd.S_types HO402.out BK403.out (by decide)) (fun _ hk => hk.2) (.slice Ao14 t400.length co14)) (fun _ h_ => h_.1))) (Kd.S_base ho0) hb); have n1_ := Aside0.mk (Kd.S_lower (Kd.S_new' ho0 (Kd.S_lt (by (with_reducible repeat (first | apply Kd.S_alloc | apply Kd.S_drewN | apply Kd.S_drew)); exact (Kd.S_mono (Kd.S_far (p := ⟨gb403, 0, none⟩) (Kd.S_types HO402.out BK403.out (by decide)) (fun _ hk => hk.2) (.slice Ao14 t400.length co14)) (fun _ h_ => h_.1))))) (below_size (by repeat (first | (with_reducible first | exact HB.out | apply below_alloc | apply pw_below_drewN | apply below_drew1 | refine below_set ?_ GE403.out) | exact HB.out)))); have n2_ := Aside0.mk (blk_below (g := gb403) (o := .cells #[.slice Ao14 t400.length co14] 27 (0, 0)) (by (with_reducible repeat (first | refine blk_drewN ?_ _ | refine blk_drew ?_ | refine blk_alloc ?_ _)); refine blk_put (cs := #[.slice none 0 0]) ?_ 0 _ rfl; (with_reducible repeat (first | refine blk_drewN ?_ _ | refine blk_drew ?_ | refine blk_alloc ?_ _)); exact BK403.out) hb); have n3_ := Aside0.mk (below_step (by repeat (first | (with_reducible first | exact HB.out | apply below_alloc | apply pw_below_drewN | apply below_drew1 | refine below_set ?_ GE403.out) | exact HB.out)) hb); clear HO402; clear BK403; clear HB; have HO402 := n0_; have HO406 := n1_; have BK403 := n2_; have HB := n3_; clear n0_ n1_ n2_ n3_; (try clear hb); (try clear hb2); (try clear hk); (try clear hi); (try clear ho0); have hcz17_0 : w16.cell? ⟨gb403, 0, none⟩ = some (.slice Ao14 t400.length co14) := (blk_cell BK403.out 0).trans rfl; have hfz17_0 := blk_frozen BK403.out 0) | ((with_reducible refine gate_callee (f := 36) rfl ?_); refine goesL_ (some 52) rfl rfl Try.func36 (by kernel_rfl) rfl #[.agg #[.slice Ao14 t400.length co14]] rfl (by (try simp only [List.map_toArray, List.map_cons, List.map_nil]); first | done | rfl | (simp only [List.length_drop, List.length_take]; rfl)) ?_; (with_reducible refine (spec_DominatorsOf.calls k _ _ t400 t408 t411 _ ?side1 ?side2 A6.out).mono ?_); (case side1 => repeat (first | exact (Kd.S_reads' HO402.out).2.2 | (with_reducible refine Kd.C_alloc ?_ _) | (with_reducible refine Kd.C_drewN ?_ _) | (with_reducible refine Kd.C_drew ?_))); (case side2 => exact (Kd.S_reads' HO402.out).2.1); rintro e w18 ⟨v409, rfl, ho0, hb⟩; refine ⟨_, rfl, ?_⟩; have n0_ := Aside0.mk (Kd.S_elder' (by (with_reducible repeat (first | apply Kd.S_alloc | apply Kd.S_drewN | apply Kd.S_drew)); exact HO402.out) (Kd.S_base ho0) hb); have n1_ := Aside0.mk (Kd.S_elder' (by (with_reducible repeat (first | apply Kd.S_alloc | apply Kd.S_drewN | apply Kd.S_drew)); exact HO406.out) (Kd.S_base ho0) hb); have n2_ := Aside0.mk (Kd.S_lower (Kd.S_new' (Kd.S_new' ho0 (Kd.S_lt (by (with_reducible repeat (first | apply Kd.S_alloc | apply Kd.S_drewN | apply Kd.S_drew)); exact HO402.out))) (Kd.S_lt (by (with_reducible repeat (first | apply Kd.S_alloc | apply Kd.S_drewN | apply Kd.S_drew)); exact HO406.out))) (below_size (by repeat (first | (with_reducible first | exact HB.out | apply below_alloc | apply pw_below_drewN | apply below_drew1 | refine below_set ?_ GE403.out) | exact HB.out)))); have n3_ := Aside0.mk (blk_below (g := gb403) (o := .cells #[.slice Ao14 t400.length co14] 27 (0, 0)) (by (with_reducible repeat (first | refine blk_drewN ?_ _ | refine blk_drew ?_ | refine blk_alloc ?_ _)); exact BK403.out) hb); have n4_ := Aside0.mk (below_step (by repeat (first | (with_reducible first | exact HB.out | apply below_alloc | apply pw_below_drewN | apply below_drew1 | refine below_set ?_ GE403.out) | exact HB.out)) hb); clear HO402; clear HO406; clear BK403; clear HB; have HO402 := n0_; have HO406 := n1_; have HO410 := n2_; have BK403 := n3_; have HB := n4_; clear n0_ n1_ n2_ n3_ n4_; (try clear hb); (try clear hb2); (try clear hk); (try clear hi); (try clear ho0); have hcz19_0 : w18.cell? ⟨gb403, 0, none⟩ = some (.slice Ao14 t400.length co14) := (blk_cell BK403.out 0).trans rfl; have hfz19_0 := blk_frozen BK403.out 0) | ((with_reducible refine gate_callee (f := 41) rfl ?_); refine goesL_ (some 57) rfl rfl Try.func41 (by kernel_rfl) rfl #[.agg #[.slice Ao14 t400.length co14]] rfl (by (try simp only [List.map_toArray, List.map_cons, List.map_nil]); first | done | rfl | (simp only [List.length_drop, List.length_take]; rfl)) ?_; (with_reducible refine (impl_NearestOf.calls _ _ t400 t412 t415 _ ?side1 ?side2 A7.out).mono ?_); (case side1 => repeat (first | exact (Kd.S_reads' HO402.out).2.2 | (with_reducible refine Kd.C_alloc ?_ _) | (with_reducible refine Kd.C_drewN ?_ _) | (with_reducible refine Kd.C_drew ?_))); (case side2 => exact (Kd.S_reads' HO402.out).2.1); rintro e w20 ⟨v413, rfl, ho0, hb⟩; refine ⟨_, rfl, ?_⟩; have n0_ := Aside0.mk (Kd.S_elder' (by (with_reducible repeat (first | apply Kd.S_alloc | apply Kd.S_drewN | apply Kd.S_drew)); exact HO402.out) (Kd.R_base ho0) hb); have n1_ := Aside0.mk (Kd.S_elder' (by (with_reducible repeat (first | apply Kd.S_alloc | apply Kd.S_drewN | apply Kd.S_drew)); exact HO406.out) (Kd.R_base ho0) hb); have n2_ := Aside0.mk (Kd.S_elder' (by (with_reducible repeat (first | apply Kd.S_alloc | apply Kd.S_drewN | apply Kd.S_drew)); exact HO410.out) (Kd.R_base ho0) hb); have n3_ := Aside0.mk (Kd.R_lower ho0 (below_size (by repeat (first | (with_reducible first | exact HB.out | apply below_alloc | apply pw_below_drewN | apply below_drew1 | refine below_set ?_ GE403.out) | exact HB.out)))); have n4_ := Aside0.mk (blk_below (g := gb403) (o := .cells #[.slice Ao14 t400.length co14] 27 (0, 0)) (by (with_reducible repeat (first | refine blk_drewN ?_ _ | refine blk_drew ?_ | refine blk_alloc ?_ _)); exact BK403.out) hb); have n5_ := Aside0.mk (below_step (by repeat (first | (with_reducible first | exact HB.out | apply below_alloc | apply pw_below_drewN | apply below_drew1 | refine below_set ?_ GE403.out) | exact HB.out)) hb); clear HO402; clear HO406; clear HO410; clear BK403; clear HB; have HO402 := n0_; have HO406 := n1_; have HO410 := n2_; have HO414 := n3_; have BK403 := n4_; have HB := n5_; clear n0_ n1_ n2_ n3_ n4_ n5_; (try clear hb); (try clear hb2); (try clear hk); (try clear hi); (try clear ho0); have hcz21_0 : w20.cell? ⟨gb403, 0, none⟩ = some (.slice Ao14 t400.length co14) := (blk_cell BK403.out 0).trans rfl; have hfz21_0 := blk_frozen BK403.out 0) | ((with_reducible refine gate_callee (f := 40) rfl ?_); refine goesL_ (some 62) rfl rfl Try.func40 (by kernel_rfl) rfl #[.agg #[.slice Ao14 t400.length co14]] rfl (by (try simp only [List.map_toArray, List.map_cons, List.map_nil]); first | done | rfl | (simp only [List.length_drop, List.length_take]; rfl)) ?_; (with_reducible refine (spec_NearestOf.calls k _ _ t400 t416 t419 _ ?side1 ?side2 A8.out).mono ?_); (case side1 => repeat (first | exact (Kd.S_reads' HO402.out).2.2 | (with_reducible refine Kd.C_alloc ?_ _) | (with_reducible refine Kd.C_drewN ?_ _) | (with_reducible refine Kd.C_drew ?_))); (case side2 => exact (Kd.S_reads' HO402.out).2.1); rintro e w22 ⟨v417, rfl, ho0, hb⟩; refine ⟨_, rfl, ?_⟩; have n0_ := Aside0.mk (Kd.S_elder' (by (with_reducible repeat (first | apply Kd.S_alloc | apply Kd.S_drewN | apply Kd.S_drew)); exact HO402.out) (Kd.R_base ho0) hb); have n1_ := Aside0.mk (Kd.S_elder' (by (with_reducible repeat (first | apply Kd.S_alloc | apply Kd.S_drewN | apply Kd.S_drew)); exact HO406.out) (Kd.R_base ho0) hb); have n2_ := Aside0.mk (Kd.S_elder' (by (with_reducible repeat (first | apply Kd.S_alloc | apply Kd.S_drewN | apply Kd.S_drew)); exact HO410.out) (Kd.R_base ho0) hb); have n3_ := Aside0.mk (Kd.R_elder' (by (with_reducible repeat (first | apply Kd.R_alloc | apply Kd.R_drewN | apply Kd.R_drew)); exact HO414.out) (Kd.R_base ho0) hb); have n4_ := Aside0.mk (Kd.R_lower (Kd.R_new' ho0 (Kd.R_lt (by (with_reducible repeat (first | apply Kd.R_alloc | apply Kd.R_drewN | apply Kd.R_drew)); exact HO414.out))) (below_size (by repeat (first | (with_reducible first | exact HB.out | apply below_alloc | apply pw_below_drewN | apply below_drew1 | refine below_set ?_ GE403.out) | exact HB.out)))); have n5_ := Aside0.mk (blk_below (g := gb403) (o := .cells #[.slice Ao14 t400.length co14] 27 (0, 0)) (by (with_reducible repeat (first | refine blk_drewN ?_ _ | refine blk_drew ?_ | refine blk_alloc ?_ _)); exact BK403.out) hb); have n6_ := Aside0.mk (below_step (by repeat (first | (with_reducible first | exact HB.out | apply below_alloc | apply pw_below_drewN | apply below_drew1 | refine below_set ?_ GE403.out) | exact HB.out)) hb); clear HO402; clear HO406; clear HO410; clear HO414; clear BK403; clear HB; have HO402 := n0_; have HO406 := n1_; have HO410 := n2_; have HO414 := n3_; have HO418 := n4_; have BK403 := n5_; have HB := n6_; clear n0_ n1_ n2_ n3_ n4_ n5_ n6_; (try clear hb); (try clear hb2); (try clear hk); (try clear hi); (try clear ho0); have hcz23_0 : w22.cell? ⟨gb403, 0, none⟩ = some (.slice Ao14 t400.length co14) := (blk_cell BK403.out 0).trans rfl; have hfz23_0 := blk_frozen BK403.out 0) | ((with_reducible refine gate_callee (f := 21) rfl ?_); refine goesL_ (some 67) rfl rfl Try.func21 (by kernel_rfl) rfl #[.agg #[.slice Ao14 t400.length co14]] rfl (by (try simp only [List.map_toArray, List.map_cons, List.map_nil]); first | done | rfl | (simp only [List.length_drop, List.length_take]; rfl)) ?_; (with_reducible refine (impl_ReachedOf.calls _ _ t400 t420 t423 _ ?side1 ?side2 A9.out).mono ?_); (case side1 => repeat (first | exact (Kd.S_reads' HO402.out).2.2 | (with_reducible refine Kd.C_alloc ?_ _) | (with_reducible refine Kd.C_drewN ?_ _) | (with_reducible refine Kd.C_drew ?_))); (case side2 => exact (Kd.S_reads' HO402.out).2.1); rintro e w24 ⟨v421, rfl, ho0, hb⟩; refine ⟨_, rfl, ?_⟩; have n0_ := Aside0.mk (Kd.S_elder' (by (with_reducible repeat (first | apply Kd.S_alloc | apply Kd.S_drewN | apply Kd.S_drew)); exact HO402.out) (Kd.R_base ho0) hb); have n1_ := Aside0.mk (Kd.S_elder' (by (with_reducible repeat (first | apply Kd.S_alloc | apply Kd.S_drewN | apply Kd.S_drew)); exact HO406.out) (Kd.R_base ho0) hb); have n2_ := Aside0.mk (Kd.S_elder' (by (with_reducible repeat (first | apply Kd.S_alloc | apply Kd.S_drewN | apply Kd.S_drew)); exact HO410.out) (Kd.R_base ho0) hb); have n3_ := Aside0.mk (Kd.R_elder' (by (with_reducible repeat (first | apply Kd.R_alloc | apply Kd.R_drewN | apply Kd.R_drew)); exact HO414.out) (Kd.R_base ho0) hb); have n4_ := Aside0.mk (Kd.R_elder' (by (with_reducible repeat (first | apply Kd.R_alloc | apply Kd.R_drewN | apply Kd.R_drew)); exact HO418.out) (Kd.R_base ho0) hb); have n5_ := Aside0.mk (Kd.R_lower (Kd.R_new' (Kd.R_new' ho0 (Kd.R_lt (by (with_reducible repeat (first | apply Kd.R_alloc | apply Kd.R_drewN | apply Kd.R_drew)); exact HO414.out))) (Kd.R_lt (by (with_reducible repeat (first | apply Kd.R_alloc | apply Kd.R_drewN | apply Kd.R_drew)); exact HO418.out))) (below_size (by repeat (first | (with_reducible first | exact HB.out | apply below_alloc | apply pw_below_drewN | apply below_drew1 | refine below_set ?_ GE403.out) | exact HB.out)))); have n6_ := Aside0.mk (blk_below (g := gb403) (o := .cells #[.slice Ao14 t400.length co14] 27 (0, 0)) (by (with_reducible repeat (first | refine blk_drewN ?_ _ | refine blk_drew ?_ | refine blk_alloc ?_ _)); exact BK403.out) hb); have n7_ := Aside0.mk (below_step (by repeat (first | (with_reducible first | exact HB.out | apply below_alloc | apply pw_below_drewN | apply below_drew1 | refine below_set ?_ GE403.out) | exact HB.out)) hb); clear HO402; clear HO406; clear HO410; clear HO414; clear HO418; clear BK403; clear HB; have HO402 := n0_; have HO406 := n1_; have HO410 := n2_; have HO414 := n3_; have HO418 := n4_; have HO422 := n5_; have BK403 := n6_; have HB := n7_; clear n0_ n1_ n2_ n3_ n4_ n5_ n6_ n7_; (try clear hb); (try clear hb2); (try clear hk); (try clear hi); (try clear ho0); have hcz25_0 : w24.cell? ⟨gb403, 0, none⟩ = some (.slice Ao14 t400.length co14) := (blk_cell BK403.out 0).trans rfl; have hfz25_0 := blk_frozen BK403.out 0) | ((with_reducible refine gate_callee (f := 20) rfl ?_); refine goesL_ (some 72) rfl rfl Try.func20 (by kernel_rfl) rfl #[.agg #[.slice Ao14 t400.length co14]] rfl (by (try simp only [List.map_toArray, List.map_cons, List.map_nil]); first | done | rfl | (simp only [List.length_drop, List.length_take]; rfl)) ?_; (with_reducible refine (spec_ReachedOf.calls k _ _ t400 t424 t427 _ ?side1 ?side2 A10.out).mono ?_); (case side1 => repeat (first | exact (Kd.S_reads' HO402.out).2.2 | (with_reducible refine Kd.C_alloc ?_ _) | (with_reducible refine Kd.C_drewN ?_ _) | (with_reducible refine Kd.C_drew ?_))); (case side2 => exact (Kd.S_reads' HO402.out).2.1); rintro e w26 ⟨v425, rfl, ho0, hb⟩; refine ⟨_, rfl, ?_⟩; have n0_ := Aside0.mk (Kd.S_elder' (by (with_reducible repeat (first | apply Kd.S_alloc | apply Kd.S_drewN | apply Kd.S_drew)); exact HO402.out) (Kd.R_base ho0) hb); have n1_ := Aside0.mk (Kd.S_elder' (by (with_reducible repeat (first | apply Kd.S_alloc | apply Kd.S_drewN | apply Kd.S_drew)); exact HO406.out) (Kd.R_base ho0) hb); have n2_ := Aside0.mk (Kd.S_elder' (by (with_reducible repeat (first | apply Kd.S_alloc | apply Kd.S_drewN | apply Kd.S_drew)); exact HO410.out) (Kd.R_base ho0) hb); have n3_ := Aside0.mk (Kd.R_elder' (by (with_reducible repeat (first | apply Kd.R_alloc | apply Kd.R_drewN | apply Kd.R_drew)); exact HO414.out) (Kd.R_base ho0) hb); have n4_ := Aside0.mk (Kd.R_elder' (by (with_reducible repeat (first | apply Kd.R_alloc | apply Kd.R_drewN | apply Kd.R_drew)); exact HO418.out) (Kd.R_base ho0) hb); have n5_ := Aside0.mk (Kd.R_elder' (by (with_reducible repeat (first | apply Kd.R_alloc | apply Kd.R_drewN | apply Kd.R_drew)); exact HO422.out) (Kd.R_base ho0) hb); have n6_ := Aside0.mk (Kd.R_lower (Kd.R_new' (Kd.R_new' (Kd.R_new' ho0 (Kd.R_lt (by (with_reducible repeat (first | apply Kd.R_alloc | apply Kd.R_drewN | apply Kd.R_drew)); exact HO414.out))) (Kd.R_lt (by (with_reducible repeat (first | apply Kd.R_alloc | apply Kd.R_drewN | apply Kd.R_drew)); exact HO418.out))) (Kd.R_lt (by (with_reducible repeat (first | apply Kd.R_alloc | apply Kd.R_drewN | apply Kd.R_drew)); exact HO422.out))) (below_size (by repeat (first | (with_reducible first | exact HB.out | apply below_alloc | apply pw_below_drewN | apply below_drew1 | refine below_set ?_ GE403.out) | exact HB.out)))); have n7_ := Aside0.mk (blk_below (g := gb403) (o := .cells #[.slice Ao14 t400.length co14] 27 (0, 0)) (by (with_reducible repeat (first | refine blk_drewN ?_ _ | refine blk_drew ?_ | refine blk_alloc ?_ _)); exact BK403.out) hb); have n8_ := Aside0.mk (below_step (by repeat (first | (with_reducible first | exact HB.out | apply below_alloc | apply pw_below_drewN | apply below_drew1 | refine below_set ?_ GE403.out) | exact HB.out)) hb); clear HO402; clear HO406; clear HO410; clear HO414; clear HO418; clear HO422; clear BK403; clear HB; have HO402 := n0_; have HO406 := n1_; have HO410 := n2_; have HO414 := n3_; have HO418 := n4_; have HO422 := n5_; have HO426 := n6_; have BK403 := n7_; have HB := n8_; clear n0_ n1_ n2_ n3_ n4_ n5_ n6_ n7_ n8_; (try clear hb); (try clear hb2); (try clear hk); (try clear hi); (try clear ho0)))
    (try simp only [Act.put, List.setIfInBounds_toArray, List.set_cons_zero, List.set_cons_succ])
    go_cut [111] (fun v111 wc => ∃ (kq : Nat) (x111_10 : Bool), v111 = .bool x111_10 ∧ Aside0 (laws_FnDominators.j0 kq l1 t404 t412 t420 x111_10 t400 = some r) ∧ Aside0 (kq ≤ k) ∧ Aside0 (Kd.S (Kd.slice 3 (Kd.int .i64)) 31 wc w.heap.size (fun k_ => some k_ ≠ (v413 : Value).ownBlock ∧ some k_ ≠ (v421 : Value).ownBlock ∧ some k_ ≠ ((.slice Ao14 t400.length co14) : Value).ownBlock) v405 t404) ∧ Aside0 (Kd.R (Kd.int .i64) 3 wc w.heap.size (fun k_ => some k_ ≠ (v421 : Value).ownBlock) v413 t412) ∧ Aside0 (Kd.R (Kd.int .i64) 3 wc w.heap.size (fun k_ => some k_ ≠ (v413 : Value).ownBlock) v421 t420) ∧ Aside0 (Kd.S (Kd.slice 3 (Kd.int .i64)) 31 wc w.heap.size (fun k_ => some k_ ≠ (v405 : Value).ownBlock ∧ some k_ ≠ (v413 : Value).ownBlock ∧ some k_ ≠ (v421 : Value).ownBlock) (.slice Ao14 t400.length co14) t400) ∧ Aside0 (wc.heap[gb403]? = some (.cells #[(.slice Ao14 t400.length co14)] 27 (0, 0))) ∧ Aside0 (Below w.heap.size w wc))
    case first =>
      have H := HC11.out
      clear HC11
      by_cases c27 : (t407 != t411) = true
      · rw [if_pos c27] at H
        have c27b0 : (t407 != t411) = true := c27
        (try (have c27b1 : decide (t407 = t411) = false := by simpa using c27))
        (try (have c27b2 : (t407 == t411) = false := by simpa using c27))
        (try (have c27b3 : ¬ (t407 = t411) := by simpa using c27))
        clear c27
        (first | rw [c27b0] | (simp only [i64_w, i32_w]; rw [c27b0]) | skip)
        as_aux_lemma =>
          have H' := Aside0.mk H
          clear H
          go_wp2
          go_meet
          case rel => exact ⟨_, (true), (by first | rfl | (simp; done) | (simp [*]; done)), H', ⟨by first | omega | exact Nat.le_refl _⟩, ⟨by (with_reducible repeat (first | apply Kd.S_alloc | apply Kd.S_drewN | apply Kd.S_drew)); exact Kd.S_mono HO406.out (fun _ hk => ⟨hk.1.1.1.2, ⟨hk.1.2, hk.1.1.1.1.1.2⟩⟩)⟩, ⟨by (with_reducible repeat (first | apply Kd.R_alloc | apply Kd.R_drewN | apply Kd.R_drew)); exact Kd.R_mono HO414.out (fun _ hk => hk.1.2)⟩, ⟨by (with_reducible repeat (first | apply Kd.R_alloc | apply Kd.R_drewN | apply Kd.R_drew)); exact Kd.R_mono HO422.out (fun _ hk => hk.1.1.2)⟩, ⟨by (with_reducible repeat (first | apply Kd.S_alloc | apply Kd.S_drewN | apply Kd.S_drew)); exact Kd.S_mono HO402.out (fun _ hk => ⟨hk.1.1.1.1.1.2, ⟨hk.1.1.1.2, hk.1.2⟩⟩)⟩, ⟨by (with_reducible repeat (first | refine blk_drewN ?_ _ | refine blk_drew ?_ | refine blk_alloc ?_ _)); exact BK403.out⟩, ⟨by repeat (first | (with_reducible first | exact HB.out | apply below_alloc | apply pw_below_drewN | apply below_drew1 | refine below_set ?_ GE403.out) | exact HB.out)⟩⟩
      · rw [if_neg c27] at H
        have c27b0 : (t407 != t411) = false := by simpa using c27
        (try (have c27b1 : decide (t407 = t411) = true := by simpa using c27))
        (try (have c27b2 : (t407 == t411) = true := by simpa using c27))
        clear c27
        (first | rw [c27b0] | (simp only [i64_w, i32_w]; rw [c27b0]) | skip)
        replace H := Option.bind_eq_some_iff.mp H
        obtain ⟨t428, A280, H⟩ := H
        replace H : (if t428 = true then (if (t415 != t419) = true then (laws_FnDominators.j0 k l1 t404 t412 t420 true t400) else ((laws_sameInts.f k t412 t416).bind fun t429 => (if t429 = true then (if (t423 != t427) = true then (laws_FnDominators.j0 k l1 t404 t412 t420 true t400) else ((laws_sameInts.f k t420 t424).bind fun t430 => (if t430 = true then ((impl_GoodGraph.f t400).bind fun t431 => (laws_FnDominators.j0 k l1 t404 t412 t420 (t431 != t411) t400)) else (laws_FnDominators.j0 k l1 t404 t412 t420 true t400)))) else (laws_FnDominators.j0 k l1 t404 t412 t420 true t400)))) else (laws_FnDominators.j0 k l1 t404 t412 t420 true t400)) = some r := H
        have A28 := Aside0.mk A280
        clear A280
        by_cases c29 : t428 = true
        · subst c29
          have H1 : (if (t415 != t419) = true then (laws_FnDominators.j0 k l1 t404 t412 t420 true t400) else ((laws_sameInts.f k t412 t416).bind fun t429 => (if t429 = true then (if (t423 != t427) = true then (laws_FnDominators.j0 k l1 t404 t412 t420 true t400) else ((laws_sameInts.f k t420 t424).bind fun t430 => (if t430 = true then ((impl_GoodGraph.f t400).bind fun t431 => (laws_FnDominators.j0 k l1 t404 t412 t420 (t431 != t411) t400)) else (laws_FnDominators.j0 k l1 t404 t412 t420 true t400)))) else (laws_FnDominators.j0 k l1 t404 t412 t420 true t400)))) = some r := by rw [if_pos rfl] at H; exact H
          clear H
          have H := H1
          clear H1
          by_cases c30 : (t415 != t419) = true
          · rw [if_pos c30] at H
            have c30b0 : (t415 != t419) = true := c30
            (try (have c30b1 : decide (t415 = t419) = false := by simpa using c30))
            (try (have c30b2 : (t415 == t419) = false := by simpa using c30))
            (try (have c30b3 : ¬ (t415 = t419) := by simpa using c30))
            clear c30
            as_aux_lemma =>
              have H' := Aside0.mk H
              clear H
              obtain ⟨Ao31, co31, eo31⟩ := Kd.S_slice HO406.out
              (first | subst eo31 | (injection eo31 with ea_ en_ ec_; (replace ea_ := ea_.symm); (replace ec_ := ec_.symm); subst ea_; subst ec_))
              obtain ⟨Ao32, co32, eo32⟩ := Kd.S_slice HO410.out
              (first | subst eo32 | (injection eo32 with ea_ en_ ec_; (replace ea_ := ea_.symm); (replace ec_ := ec_.symm); subst ea_; subst ec_))
              go_wp2_with (first | (go_at_call 45; (with_reducible refine (laws_sameLists.calls k _ _ t404 _ _ t408 true _ ?side1 ?side2 ?side3 ?side4 A28.out).mono ?_); (case side1 => repeat (first | exact (Kd.S_reads' HO406.out).2.2 | (with_reducible refine Kd.C_alloc ?_ _) | (with_reducible refine Kd.C_drewN ?_ _) | (with_reducible refine Kd.C_drew ?_))); (case side2 => exact (Kd.S_reads' HO406.out).2.1); (case side3 => repeat (first | exact (Kd.S_reads' HO410.out).2.2 | (with_reducible refine Kd.C_alloc ?_ _) | (with_reducible refine Kd.C_drewN ?_ _) | (with_reducible refine Kd.C_drew ?_))); (case side4 => exact (Kd.S_reads' HO410.out).2.1); rintro e w' ⟨rfl, ⟨nd, rfl⟩⟩))
              go_meet
              case rel => exact ⟨_, (true), (by first | rfl | (simp; done) | (simp [*]; done)), H', ⟨by first | omega | exact Nat.le_refl _⟩, ⟨by (with_reducible repeat (first | apply Kd.S_alloc | apply Kd.S_drewN | apply Kd.S_drew)); exact Kd.S_mono HO406.out (fun _ hk => ⟨hk.1.1.1.2, ⟨hk.1.2, hk.1.1.1.1.1.2⟩⟩)⟩, ⟨by (with_reducible repeat (first | apply Kd.R_alloc | apply Kd.R_drewN | apply Kd.R_drew)); exact Kd.R_mono HO414.out (fun _ hk => hk.1.2)⟩, ⟨by (with_reducible repeat (first | apply Kd.R_alloc | apply Kd.R_drewN | apply Kd.R_drew)); exact Kd.R_mono HO422.out (fun _ hk => hk.1.1.2)⟩, ⟨by (with_reducible repeat (first | apply Kd.S_alloc | apply Kd.S_drewN | apply Kd.S_drew)); exact Kd.S_mono HO402.out (fun _ hk => ⟨hk.1.1.1.1.1.2, ⟨hk.1.1.1.2, hk.1.2⟩⟩)⟩, ⟨by (with_reducible repeat (first | refine blk_drewN ?_ _ | refine blk_drew ?_ | refine blk_alloc ?_ _)); exact BK403.out⟩, ⟨by repeat (first | (with_reducible first | exact HB.out | apply below_alloc | apply pw_below_drewN | apply below_drew1 | refine below_set ?_ GE403.out) | exact HB.out)⟩⟩
          · rw [if_neg c30] at H
            have c30b0 : (t415 != t419) = false := by simpa using c30
            (try (have c30b1 : decide (t415 = t419) = true := by simpa using c30))
            (try (have c30b2 : (t415 == t419) = true := by simpa using c30))
            clear c30
            replace H := Option.bind_eq_some_iff.mp H
            obtain ⟨t429, A330, H⟩ := H
            replace H : (if t429 = true then (if (t423 != t427) = true then (laws_FnDominators.j0 k l1 t404 t412 t420 true t400) else ((laws_sameInts.f k t420 t424).bind fun t430 => (if t430 = true then ((impl_GoodGraph.f t400).bind fun t431 => (laws_FnDominators.j0 k l1 t404 t412 t420 (t431 != t411) t400)) else (laws_FnDominators.j0 k l1 t404 t412 t420 true t400)))) else (laws_FnDominators.j0 k l1 t404 t412 t420 true t400)) = some r := H
            have A33 := Aside0.mk A330
            clear A330
            by_cases c34 : t429 = true
            · subst c34
              have H1 : (if (t423 != t427) = true then (laws_FnDominators.j0 k l1 t404 t412 t420 true t400) else ((laws_sameInts.f k t420 t424).bind fun t430 => (if t430 = true then ((impl_GoodGraph.f t400).bind fun t431 => (laws_FnDominators.j0 k l1 t404 t412 t420 (t431 != t411) t400)) else (laws_FnDominators.j0 k l1 t404 t412 t420 true t400)))) = some r := by rw [if_pos rfl] at H; exact H
              clear H
              have H := H1
              clear H1
              by_cases c35 : (t423 != t427) = true
              · rw [if_pos c35] at H
                have c35b0 : (t423 != t427) = true := c35
                (try (have c35b1 : decide (t423 = t427) = false := by simpa using c35))
                (try (have c35b2 : (t423 == t427) = false := by simpa using c35))
                (try (have c35b3 : ¬ (t423 = t427) := by simpa using c35))
                clear c35
                as_aux_lemma =>
                  have H' := Aside0.mk H
                  clear H
                  obtain ⟨Ao36, co36, eo36⟩ := Kd.S_slice HO406.out
                  (first | subst eo36 | (injection eo36 with ea_ en_ ec_; (replace ea_ := ea_.symm); (replace ec_ := ec_.symm); subst ea_; subst ec_))
                  obtain ⟨Ao37, co37, eo37⟩ := Kd.S_slice HO410.out
                  (first | subst eo37 | (injection eo37 with ea_ en_ ec_; (replace ea_ := ea_.symm); (replace ec_ := ec_.symm); subst ea_; subst ec_))
                  go_wp2_with (first | (go_at_call 45; (with_reducible refine (laws_sameLists.calls k _ _ t404 _ _ t408 true _ ?side1 ?side2 ?side3 ?side4 A28.out).mono ?_); (case side1 => repeat (first | exact (Kd.S_reads' HO406.out).2.2 | (with_reducible refine Kd.C_alloc ?_ _) | (with_reducible refine Kd.C_drewN ?_ _) | (with_reducible refine Kd.C_drew ?_))); (case side2 => exact (Kd.S_reads' HO406.out).2.1); (case side3 => repeat (first | exact (Kd.S_reads' HO410.out).2.2 | (with_reducible refine Kd.C_alloc ?_ _) | (with_reducible refine Kd.C_drewN ?_ _) | (with_reducible refine Kd.C_drew ?_))); (case side4 => exact (Kd.S_reads' HO410.out).2.1); rintro e w' ⟨rfl, ⟨nd, rfl⟩⟩; obtain ⟨Ao38, co38, eo38⟩ := Kd.R_slice HO414.out; subst eo38; obtain ⟨Ao39, co39, eo39⟩ := Kd.R_slice HO418.out; subst eo39) | (go_at_call 46; (with_reducible refine (laws_sameInts.calls k _ _ t412 _ _ t416 true _ ?side1 ?side2 ?side3 ?side4 A33.out).mono ?_); (case side1 => repeat (first | exact (Kd.R_reads' HO414.out).2.2 | (with_reducible refine Kd.C_alloc ?_ _) | (with_reducible refine Kd.C_drewN ?_ _) | (with_reducible refine Kd.C_drew ?_))); (case side2 => exact (Kd.R_reads' HO414.out).2.1); (case side3 => repeat (first | exact (Kd.R_reads' HO418.out).2.2 | (with_reducible refine Kd.C_alloc ?_ _) | (with_reducible refine Kd.C_drewN ?_ _) | (with_reducible refine Kd.C_drew ?_))); (case side4 => exact (Kd.R_reads' HO418.out).2.1); rintro e w' ⟨rfl, ⟨nd, rfl⟩⟩))
                  go_meet
                  case rel => exact ⟨_, (true), (by first | rfl | (simp; done) | (simp [*]; done)), H', ⟨by first | omega | exact Nat.le_refl _⟩, ⟨by (with_reducible repeat (first | apply Kd.S_alloc | apply Kd.S_drewN | apply Kd.S_drew)); exact Kd.S_mono HO406.out (fun _ hk => ⟨hk.1.1.1.2, ⟨hk.1.2, hk.1.1.1.1.1.2⟩⟩)⟩, ⟨by (with_reducible repeat (first | apply Kd.R_alloc | apply Kd.R_drewN | apply Kd.R_drew)); exact Kd.R_mono HO414.out (fun _ hk => hk.1.2)⟩, ⟨by (with_reducible repeat (first | apply Kd.R_alloc | apply Kd.R_drewN | apply Kd.R_drew)); exact Kd.R_mono HO422.out (fun _ hk => hk.1.1.2)⟩, ⟨by (with_reducible repeat (first | apply Kd.S_alloc | apply Kd.S_drewN | apply Kd.S_drew)); exact Kd.S_mono HO402.out (fun _ hk => ⟨hk.1.1.1.1.1.2, ⟨hk.1.1.1.2, hk.1.2⟩⟩)⟩, ⟨by (with_reducible repeat (first | refine blk_drewN ?_ _ | refine blk_drew ?_ | refine blk_alloc ?_ _)); exact BK403.out⟩, ⟨by repeat (first | (with_reducible first | exact HB.out | apply below_alloc | apply pw_below_drewN | apply below_drew1 | refine below_set ?_ GE403.out) | exact HB.out)⟩⟩
              · rw [if_neg c35] at H
                have c35b0 : (t423 != t427) = false := by simpa using c35
                (try (have c35b1 : decide (t423 = t427) = true := by simpa using c35))
                (try (have c35b2 : (t423 == t427) = true := by simpa using c35))
                clear c35
                replace H := Option.bind_eq_some_iff.mp H
                obtain ⟨t430, A400, H⟩ := H
                replace H : (if t430 = true then ((impl_GoodGraph.f t400).bind fun t431 => (laws_FnDominators.j0 k l1 t404 t412 t420 (t431 != t411) t400)) else (laws_FnDominators.j0 k l1 t404 t412 t420 true t400)) = some r := H
                have A40 := Aside0.mk A400
                clear A400
                by_cases c41 : t430 = true
                · subst c41
                  have H1 : ((impl_GoodGraph.f t400).bind fun t431 => (laws_FnDominators.j0 k l1 t404 t412 t420 (t431 != t411) t400)) = some r := by rw [if_pos rfl] at H; exact H
                  clear H
                  have H := H1
                  clear H1
                  replace H := Option.bind_eq_some_iff.mp H
                  obtain ⟨t431, A420, H⟩ := H
                  replace H : (laws_FnDominators.j0 k l1 t404 t412 t420 (t431 != t411) t400) = some r := H
                  have A42 := Aside0.mk A420
                  clear A420
                  as_aux_lemma =>
                    have H' := Aside0.mk H
                    clear H
                    obtain ⟨Ao43, co43, eo43⟩ := Kd.S_slice HO406.out
                    (first | subst eo43 | (injection eo43 with ea_ en_ ec_; (replace ea_ := ea_.symm); (replace ec_ := ec_.symm); subst ea_; subst ec_))
                    obtain ⟨Ao44, co44, eo44⟩ := Kd.S_slice HO410.out
                    (first | subst eo44 | (injection eo44 with ea_ en_ ec_; (replace ea_ := ea_.symm); (replace ec_ := ec_.symm); subst ea_; subst ec_))
                    go_wp2_with (first | (go_at_call 45; (with_reducible refine (laws_sameLists.calls k _ _ t404 _ _ t408 true _ ?side1 ?side2 ?side3 ?side4 A28.out).mono ?_); (case side1 => repeat (first | exact (Kd.S_reads' HO406.out).2.2 | (with_reducible refine Kd.C_alloc ?_ _) | (with_reducible refine Kd.C_drewN ?_ _) | (with_reducible refine Kd.C_drew ?_))); (case side2 => exact (Kd.S_reads' HO406.out).2.1); (case side3 => repeat (first | exact (Kd.S_reads' HO410.out).2.2 | (with_reducible refine Kd.C_alloc ?_ _) | (with_reducible refine Kd.C_drewN ?_ _) | (with_reducible refine Kd.C_drew ?_))); (case side4 => exact (Kd.S_reads' HO410.out).2.1); rintro e w' ⟨rfl, ⟨nd, rfl⟩⟩; obtain ⟨Ao45, co45, eo45⟩ := Kd.R_slice HO414.out; subst eo45; obtain ⟨Ao46, co46, eo46⟩ := Kd.R_slice HO418.out; subst eo46) | (go_at_call 46; (with_reducible refine (laws_sameInts.calls k _ _ t412 _ _ t416 true _ ?side1 ?side2 ?side3 ?side4 A33.out).mono ?_); (case side1 => repeat (first | exact (Kd.R_reads' HO414.out).2.2 | (with_reducible refine Kd.C_alloc ?_ _) | (with_reducible refine Kd.C_drewN ?_ _) | (with_reducible refine Kd.C_drew ?_))); (case side2 => exact (Kd.R_reads' HO414.out).2.1); (case side3 => repeat (first | exact (Kd.R_reads' HO418.out).2.2 | (with_reducible refine Kd.C_alloc ?_ _) | (with_reducible refine Kd.C_drewN ?_ _) | (with_reducible refine Kd.C_drew ?_))); (case side4 => exact (Kd.R_reads' HO418.out).2.1); rintro e w' ⟨rfl, ⟨nd, rfl⟩⟩; obtain ⟨Ao47, co47, eo47⟩ := Kd.R_slice HO422.out; subst eo47; obtain ⟨Ao48, co48, eo48⟩ := Kd.R_slice HO426.out; subst eo48) | (go_at_call 46; (with_reducible refine (laws_sameInts.calls k _ _ t420 _ _ t424 true _ ?side1 ?side2 ?side3 ?side4 A40.out).mono ?_); (case side1 => repeat (first | exact (Kd.R_reads' HO422.out).2.2 | (with_reducible refine Kd.C_alloc ?_ _) | (with_reducible refine Kd.C_drewN ?_ _) | (with_reducible refine Kd.C_drew ?_))); (case side2 => exact (Kd.R_reads' HO422.out).2.1); (case side3 => repeat (first | exact (Kd.R_reads' HO426.out).2.2 | (with_reducible refine Kd.C_alloc ?_ _) | (with_reducible refine Kd.C_drewN ?_ _) | (with_reducible refine Kd.C_drew ?_))); (case side4 => exact (Kd.R_reads' HO426.out).2.1); rintro e w' ⟨rfl, ⟨nd, rfl⟩⟩; have hcz49_0 : w26.cell? ⟨gb403, 0, none⟩ = some (.slice Ao14 t400.length co14) := (blk_cell BK403.out 0).trans rfl; have hfz49_0 := blk_frozen BK403.out 0) | (go_at_call 18; (with_reducible refine (impl_GoodGraph.calls _ _ t400 t431 _ ?side1 ?side2 A42.out).mono ?_); (case side1 => repeat (first | exact (Kd.S_reads' HO402.out).2.2 | (with_reducible refine Kd.C_alloc ?_ _) | (with_reducible refine Kd.C_drewN ?_ _) | (with_reducible refine Kd.C_drew ?_))); (case side2 => exact (Kd.S_reads' HO402.out).2.1); rintro e w50 ⟨rfl, hb⟩; have n0_ := Aside0.mk (Kd.S_below (by (with_reducible repeat (first | apply Kd.S_alloc | apply Kd.S_drewN | apply Kd.S_drew)); exact HO402.out) hb); have n1_ := Aside0.mk (Kd.S_below (by (with_reducible repeat (first | apply Kd.S_alloc | apply Kd.S_drewN | apply Kd.S_drew)); exact HO406.out) hb); have n2_ := Aside0.mk (Kd.S_below (by (with_reducible repeat (first | apply Kd.S_alloc | apply Kd.S_drewN | apply Kd.S_drew)); exact HO410.out) hb); have n3_ := Aside0.mk (Kd.R_below (by (with_reducible repeat (first | apply Kd.R_alloc | apply Kd.R_drewN | apply Kd.R_drew)); exact HO414.out) hb); have n4_ := Aside0.mk (Kd.R_below (by (with_reducible repeat (first | apply Kd.R_alloc | apply Kd.R_drewN | apply Kd.R_drew)); exact HO418.out) hb); have n5_ := Aside0.mk (Kd.R_below (by (with_reducible repeat (first | apply Kd.R_alloc | apply Kd.R_drewN | apply Kd.R_drew)); exact HO422.out) hb); have n6_ := Aside0.mk (Kd.R_below (by (with_reducible repeat (first | apply Kd.R_alloc | apply Kd.R_drewN | apply Kd.R_drew)); exact HO426.out) hb); have n7_ := Aside0.mk (blk_below (g := gb403) (o := .cells #[.slice Ao14 t400.length co14] 27 (0, 0)) (by (with_reducible repeat (first | refine blk_drewN ?_ _ | refine blk_drew ?_ | refine blk_alloc ?_ _)); exact BK403.out) hb); have n8_ := Aside0.mk (below_step (by repeat (first | (with_reducible first | exact HB.out | apply below_alloc | apply pw_below_drewN | apply below_drew1 | refine below_set ?_ GE403.out) | exact HB.out)) hb); clear HO402; clear HO406; clear HO410; clear HO414; clear HO418; clear HO422; clear HO426; clear BK403; clear HB; have HO402 := n0_; have HO406 := n1_; have HO410 := n2_; have HO414 := n3_; have HO418 := n4_; have HO422 := n5_; have HO426 := n6_; have BK403 := n7_; have HB := n8_; clear n0_ n1_ n2_ n3_ n4_ n5_ n6_ n7_ n8_; (try clear hb); (try clear hb2); (try clear hk); (try clear hi)))
                    go_meet
                    case rel => exact ⟨_, ((t431 != t411)), (by first | rfl | (simp; done) | (simp [*]; done)), H', ⟨by first | omega | exact Nat.le_refl _⟩, ⟨by (with_reducible repeat (first | apply Kd.S_alloc | apply Kd.S_drewN | apply Kd.S_drew)); exact Kd.S_mono HO406.out (fun _ hk => ⟨hk.1.1.1.2, ⟨hk.1.2, hk.1.1.1.1.1.2⟩⟩)⟩, ⟨by (with_reducible repeat (first | apply Kd.R_alloc | apply Kd.R_drewN | apply Kd.R_drew)); exact Kd.R_mono HO414.out (fun _ hk => hk.1.2)⟩, ⟨by (with_reducible repeat (first | apply Kd.R_alloc | apply Kd.R_drewN | apply Kd.R_drew)); exact Kd.R_mono HO422.out (fun _ hk => hk.1.1.2)⟩, ⟨by (with_reducible repeat (first | apply Kd.S_alloc | apply Kd.S_drewN | apply Kd.S_drew)); exact Kd.S_mono HO402.out (fun _ hk => ⟨hk.1.1.1.1.1.2, ⟨hk.1.1.1.2, hk.1.2⟩⟩)⟩, ⟨by (with_reducible repeat (first | refine blk_drewN ?_ _ | refine blk_drew ?_ | refine blk_alloc ?_ _)); exact BK403.out⟩, ⟨by repeat (first | (with_reducible first | exact HB.out | apply below_alloc | apply pw_below_drewN | apply below_drew1 | refine below_set ?_ GE403.out) | exact HB.out)⟩⟩
                · replace c41 := Bool.eq_false_iff.mpr c41
                  subst c41
                  have H1 : (laws_FnDominators.j0 k l1 t404 t412 t420 true t400) = some r := by rw [if_neg (show ¬ (false = true) by decide)] at H; exact H
                  clear H
                  have H := H1
                  clear H1
                  as_aux_lemma =>
                    have H' := Aside0.mk H
                    clear H
                    obtain ⟨Ao51, co51, eo51⟩ := Kd.S_slice HO406.out
                    (first | subst eo51 | (injection eo51 with ea_ en_ ec_; (replace ea_ := ea_.symm); (replace ec_ := ec_.symm); subst ea_; subst ec_))
                    obtain ⟨Ao52, co52, eo52⟩ := Kd.S_slice HO410.out
                    (first | subst eo52 | (injection eo52 with ea_ en_ ec_; (replace ea_ := ea_.symm); (replace ec_ := ec_.symm); subst ea_; subst ec_))
                    go_wp2_with (first | (go_at_call 45; (with_reducible refine (laws_sameLists.calls k _ _ t404 _ _ t408 true _ ?side1 ?side2 ?side3 ?side4 A28.out).mono ?_); (case side1 => repeat (first | exact (Kd.S_reads' HO406.out).2.2 | (with_reducible refine Kd.C_alloc ?_ _) | (with_reducible refine Kd.C_drewN ?_ _) | (with_reducible refine Kd.C_drew ?_))); (case side2 => exact (Kd.S_reads' HO406.out).2.1); (case side3 => repeat (first | exact (Kd.S_reads' HO410.out).2.2 | (with_reducible refine Kd.C_alloc ?_ _) | (with_reducible refine Kd.C_drewN ?_ _) | (with_reducible refine Kd.C_drew ?_))); (case side4 => exact (Kd.S_reads' HO410.out).2.1); rintro e w' ⟨rfl, ⟨nd, rfl⟩⟩; obtain ⟨Ao53, co53, eo53⟩ := Kd.R_slice HO414.out; subst eo53; obtain ⟨Ao54, co54, eo54⟩ := Kd.R_slice HO418.out; subst eo54) | (go_at_call 46; (with_reducible refine (laws_sameInts.calls k _ _ t412 _ _ t416 true _ ?side1 ?side2 ?side3 ?side4 A33.out).mono ?_); (case side1 => repeat (first | exact (Kd.R_reads' HO414.out).2.2 | (with_reducible refine Kd.C_alloc ?_ _) | (with_reducible refine Kd.C_drewN ?_ _) | (with_reducible refine Kd.C_drew ?_))); (case side2 => exact (Kd.R_reads' HO414.out).2.1); (case side3 => repeat (first | exact (Kd.R_reads' HO418.out).2.2 | (with_reducible refine Kd.C_alloc ?_ _) | (with_reducible refine Kd.C_drewN ?_ _) | (with_reducible refine Kd.C_drew ?_))); (case side4 => exact (Kd.R_reads' HO418.out).2.1); rintro e w' ⟨rfl, ⟨nd, rfl⟩⟩; obtain ⟨Ao55, co55, eo55⟩ := Kd.R_slice HO422.out; subst eo55; obtain ⟨Ao56, co56, eo56⟩ := Kd.R_slice HO426.out; subst eo56) | (go_at_call 46; (with_reducible refine (laws_sameInts.calls k _ _ t420 _ _ t424 false _ ?side1 ?side2 ?side3 ?side4 A40.out).mono ?_); (case side1 => repeat (first | exact (Kd.R_reads' HO422.out).2.2 | (with_reducible refine Kd.C_alloc ?_ _) | (with_reducible refine Kd.C_drewN ?_ _) | (with_reducible refine Kd.C_drew ?_))); (case side2 => exact (Kd.R_reads' HO422.out).2.1); (case side3 => repeat (first | exact (Kd.R_reads' HO426.out).2.2 | (with_reducible refine Kd.C_alloc ?_ _) | (with_reducible refine Kd.C_drewN ?_ _) | (with_reducible refine Kd.C_drew ?_))); (case side4 => exact (Kd.R_reads' HO426.out).2.1); rintro e w' ⟨rfl, ⟨nd, rfl⟩⟩))
                    go_meet
                    case rel => exact ⟨_, (true), (by first | rfl | (simp; done) | (simp [*]; done)), H', ⟨by first | omega | exact Nat.le_refl _⟩, ⟨by (with_reducible repeat (first | apply Kd.S_alloc | apply Kd.S_drewN | apply Kd.S_drew)); exact Kd.S_mono HO406.out (fun _ hk => ⟨hk.1.1.1.2, ⟨hk.1.2, hk.1.1.1.1.1.2⟩⟩)⟩, ⟨by (with_reducible repeat (first | apply Kd.R_alloc | apply Kd.R_drewN | apply Kd.R_drew)); exact Kd.R_mono HO414.out (fun _ hk => hk.1.2)⟩, ⟨by (with_reducible repeat (first | apply Kd.R_alloc | apply Kd.R_drewN | apply Kd.R_drew)); exact Kd.R_mono HO422.out (fun _ hk => hk.1.1.2)⟩, ⟨by (with_reducible repeat (first | apply Kd.S_alloc | apply Kd.S_drewN | apply Kd.S_drew)); exact Kd.S_mono HO402.out (fun _ hk => ⟨hk.1.1.1.1.1.2, ⟨hk.1.1.1.2, hk.1.2⟩⟩)⟩, ⟨by (with_reducible repeat (first | refine blk_drewN ?_ _ | refine blk_drew ?_ | refine blk_alloc ?_ _)); exact BK403.out⟩, ⟨by repeat (first | (with_reducible first | exact HB.out | apply below_alloc | apply pw_below_drewN | apply below_drew1 | refine below_set ?_ GE403.out) | exact HB.out)⟩⟩
            · replace c34 := Bool.eq_false_iff.mpr c34
              subst c34
              have H1 : (laws_FnDominators.j0 k l1 t404 t412 t420 true t400) = some r := by rw [if_neg (show ¬ (false = true) by decide)] at H; exact H
              clear H
              have H := H1
              clear H1
              as_aux_lemma =>
                have H' := Aside0.mk H
                clear H
                obtain ⟨Ao57, co57, eo57⟩ := Kd.S_slice HO406.out
                (first | subst eo57 | (injection eo57 with ea_ en_ ec_; (replace ea_ := ea_.symm); (replace ec_ := ec_.symm); subst ea_; subst ec_))
                obtain ⟨Ao58, co58, eo58⟩ := Kd.S_slice HO410.out
                (first | subst eo58 | (injection eo58 with ea_ en_ ec_; (replace ea_ := ea_.symm); (replace ec_ := ec_.symm); subst ea_; subst ec_))
                go_wp2_with (first | (go_at_call 45; (with_reducible refine (laws_sameLists.calls k _ _ t404 _ _ t408 true _ ?side1 ?side2 ?side3 ?side4 A28.out).mono ?_); (case side1 => repeat (first | exact (Kd.S_reads' HO406.out).2.2 | (with_reducible refine Kd.C_alloc ?_ _) | (with_reducible refine Kd.C_drewN ?_ _) | (with_reducible refine Kd.C_drew ?_))); (case side2 => exact (Kd.S_reads' HO406.out).2.1); (case side3 => repeat (first | exact (Kd.S_reads' HO410.out).2.2 | (with_reducible refine Kd.C_alloc ?_ _) | (with_reducible refine Kd.C_drewN ?_ _) | (with_reducible refine Kd.C_drew ?_))); (case side4 => exact (Kd.S_reads' HO410.out).2.1); rintro e w' ⟨rfl, ⟨nd, rfl⟩⟩; obtain ⟨Ao59, co59, eo59⟩ := Kd.R_slice HO414.out; subst eo59; obtain ⟨Ao60, co60, eo60⟩ := Kd.R_slice HO418.out; subst eo60) | (go_at_call 46; (with_reducible refine (laws_sameInts.calls k _ _ t412 _ _ t416 false _ ?side1 ?side2 ?side3 ?side4 A33.out).mono ?_); (case side1 => repeat (first | exact (Kd.R_reads' HO414.out).2.2 | (with_reducible refine Kd.C_alloc ?_ _) | (with_reducible refine Kd.C_drewN ?_ _) | (with_reducible refine Kd.C_drew ?_))); (case side2 => exact (Kd.R_reads' HO414.out).2.1); (case side3 => repeat (first | exact (Kd.R_reads' HO418.out).2.2 | (with_reducible refine Kd.C_alloc ?_ _) | (with_reducible refine Kd.C_drewN ?_ _) | (with_reducible refine Kd.C_drew ?_))); (case side4 => exact (Kd.R_reads' HO418.out).2.1); rintro e w' ⟨rfl, ⟨nd, rfl⟩⟩))
                go_meet
                case rel => exact ⟨_, (true), (by first | rfl | (simp; done) | (simp [*]; done)), H', ⟨by first | omega | exact Nat.le_refl _⟩, ⟨by (with_reducible repeat (first | apply Kd.S_alloc | apply Kd.S_drewN | apply Kd.S_drew)); exact Kd.S_mono HO406.out (fun _ hk => ⟨hk.1.1.1.2, ⟨hk.1.2, hk.1.1.1.1.1.2⟩⟩)⟩, ⟨by (with_reducible repeat (first | apply Kd.R_alloc | apply Kd.R_drewN | apply Kd.R_drew)); exact Kd.R_mono HO414.out (fun _ hk => hk.1.2)⟩, ⟨by (with_reducible repeat (first | apply Kd.R_alloc | apply Kd.R_drewN | apply Kd.R_drew)); exact Kd.R_mono HO422.out (fun _ hk => hk.1.1.2)⟩, ⟨by (with_reducible repeat (first | apply Kd.S_alloc | apply Kd.S_drewN | apply Kd.S_drew)); exact Kd.S_mono HO402.out (fun _ hk => ⟨hk.1.1.1.1.1.2, ⟨hk.1.1.1.2, hk.1.2⟩⟩)⟩, ⟨by (with_reducible repeat (first | refine blk_drewN ?_ _ | refine blk_drew ?_ | refine blk_alloc ?_ _)); exact BK403.out⟩, ⟨by repeat (first | (with_reducible first | exact HB.out | apply below_alloc | apply pw_below_drewN | apply below_drew1 | refine below_set ?_ GE403.out) | exact HB.out)⟩⟩
        · replace c29 := Bool.eq_false_iff.mpr c29
          subst c29
          have H1 : (laws_FnDominators.j0 k l1 t404 t412 t420 true t400) = some r := by rw [if_neg (show ¬ (false = true) by decide)] at H; exact H
          clear H
          have H := H1
          clear H1
          as_aux_lemma =>
            have H' := Aside0.mk H
            clear H
            obtain ⟨Ao61, co61, eo61⟩ := Kd.S_slice HO406.out
            (first | subst eo61 | (injection eo61 with ea_ en_ ec_; (replace ea_ := ea_.symm); (replace ec_ := ec_.symm); subst ea_; subst ec_))
            obtain ⟨Ao62, co62, eo62⟩ := Kd.S_slice HO410.out
            (first | subst eo62 | (injection eo62 with ea_ en_ ec_; (replace ea_ := ea_.symm); (replace ec_ := ec_.symm); subst ea_; subst ec_))
            go_wp2_with (first | (go_at_call 45; (with_reducible refine (laws_sameLists.calls k _ _ t404 _ _ t408 false _ ?side1 ?side2 ?side3 ?side4 A28.out).mono ?_); (case side1 => repeat (first | exact (Kd.S_reads' HO406.out).2.2 | (with_reducible refine Kd.C_alloc ?_ _) | (with_reducible refine Kd.C_drewN ?_ _) | (with_reducible refine Kd.C_drew ?_))); (case side2 => exact (Kd.S_reads' HO406.out).2.1); (case side3 => repeat (first | exact (Kd.S_reads' HO410.out).2.2 | (with_reducible refine Kd.C_alloc ?_ _) | (with_reducible refine Kd.C_drewN ?_ _) | (with_reducible refine Kd.C_drew ?_))); (case side4 => exact (Kd.S_reads' HO410.out).2.1); rintro e w' ⟨rfl, ⟨nd, rfl⟩⟩))
            go_meet
            case rel => exact ⟨_, (true), (by first | rfl | (simp; done) | (simp [*]; done)), H', ⟨by first | omega | exact Nat.le_refl _⟩, ⟨by (with_reducible repeat (first | apply Kd.S_alloc | apply Kd.S_drewN | apply Kd.S_drew)); exact Kd.S_mono HO406.out (fun _ hk => ⟨hk.1.1.1.2, ⟨hk.1.2, hk.1.1.1.1.1.2⟩⟩)⟩, ⟨by (with_reducible repeat (first | apply Kd.R_alloc | apply Kd.R_drewN | apply Kd.R_drew)); exact Kd.R_mono HO414.out (fun _ hk => hk.1.2)⟩, ⟨by (with_reducible repeat (first | apply Kd.R_alloc | apply Kd.R_drewN | apply Kd.R_drew)); exact Kd.R_mono HO422.out (fun _ hk => hk.1.1.2)⟩, ⟨by (with_reducible repeat (first | apply Kd.S_alloc | apply Kd.S_drewN | apply Kd.S_drew)); exact Kd.S_mono HO402.out (fun _ hk => ⟨hk.1.1.1.1.1.2, ⟨hk.1.1.1.2, hk.1.2⟩⟩)⟩, ⟨by (with_reducible repeat (first | refine blk_drewN ?_ _ | refine blk_drew ?_ | refine blk_alloc ?_ _)); exact BK403.out⟩, ⟨by repeat (first | (with_reducible first | exact HB.out | apply below_alloc | apply pw_below_drewN | apply below_drew1 | refine below_set ?_ GE403.out) | exact HB.out)⟩⟩
    case rest => as_aux_lemma =>
      clear HC11
      try clear c1
      try clear c2
      try clear p2
      try clear c3
      try clear c3b0
      try clear c4
      try clear p6
      try clear c12
      try clear c20
      try clear c21
      try clear c27
      try clear c27b0
      try clear c27b1
      try clear c27b2
      try clear c29
      try clear c30
      try clear c30b0
      try clear c30b1
      try clear c30b2
      try clear c34
      try clear c35
      try clear c35b0
      try clear c35b1
      try clear c35b2
      try clear c36
      try clear c37
      try clear c40
      try clear c41
      try clear c44
      try clear hcz15_0
      try clear hcz17_0
      try clear hcz19_0
      try clear hcz21_0
      try clear hcz23_0
      try clear hcz25_0
      try clear hcz49_0
      try clear hfz15_0
      try clear hfz17_0
      try clear hfz19_0
      try clear hfz21_0
      try clear hfz23_0
      try clear hfz25_0
      try clear hfz49_0
      obtain ⟨kq, x111_10, rfl, HA, HJ10, HO_6, HO_10, HO_14, HO_404000, BK403, HB⟩ := hcut
      cases kq with
      | zero => exact absurd HA.out (by simp [laws_FnDominators.j0])
      | succ kj10 =>
        have H := HA.out
        clear HA
        simp only [laws_FnDominators.j0] at H
        by_cases c63 : x111_10 = true
        · subst c63
          have H1 : (some false) = some r := by rw [if_pos rfl] at H; exact H
          clear H
          have H := H1
          clear H1
          as_aux_lemma =>
            obtain rfl := Option.some.inj H
            go_wp2
            go_ret
            exact ⟨by first | rfl | (simp [errW_none, errW_some] <;> rfl) | (simp [*, errW_none, errW_some] <;> rfl), by repeat (first | (with_reducible first | exact HB.out | apply below_alloc | apply pw_below_drewN | apply below_drew1 | refine below_set ?_ GE403.out) | exact HB.out)⟩
        · replace c63 := Bool.eq_false_iff.mpr c63
          subst c63
          have H1 : (laws_FnDominators.l0 kj10 l1 t404 t412 t420 t404 (t404.length : Int) 0 t400) = some r := by rw [if_neg (show ¬ (false = true) by decide)] at H; exact H
          clear H
          have H := H1
          clear H1
          have H' := Aside0.mk H
          clear H
          obtain ⟨Ao64, co64, eo64⟩ := Kd.S_slice HO_6.out
          (first | subst eo64 | (injection eo64 with ea_ en_ ec_; (replace ea_ := ea_.symm); (replace ec_ := ec_.symm); subst ea_; subst ec_))
          go_wp2
          go_loopg [114] kj10 (fun kq v114 w' => ∃ (x114_2 : Int), v114 = .int .i64 x114_2 ∧ Aside0 (laws_FnDominators.l0 kq l1 t404 t412 t420 t404 (t404.length : Int) x114_2 t400 = some r) ∧ Aside0 (kq ≤ kj10) ∧ Aside0 (Kd.S (Kd.slice 3 (Kd.int .i64)) 31 w' w.heap.size (fun k_ => some k_ ≠ (v413 : Value).ownBlock ∧ some k_ ≠ (v421 : Value).ownBlock ∧ some k_ ≠ ((.slice Ao14 t400.length co14) : Value).ownBlock) (.slice Ao64 t404.length co64) t404) ∧ Aside0 (Kd.R (Kd.int .i64) 3 w' w.heap.size (fun k_ => some k_ ≠ (v421 : Value).ownBlock) v413 t412) ∧ Aside0 (Kd.R (Kd.int .i64) 3 w' w.heap.size (fun k_ => some k_ ≠ (v413 : Value).ownBlock) v421 t420) ∧ Aside0 (Kd.S (Kd.slice 3 (Kd.int .i64)) 31 w' w.heap.size (fun k_ => some k_ ≠ (v413 : Value).ownBlock ∧ some k_ ≠ (v421 : Value).ownBlock ∧ some k_ ≠ ((.slice Ao14 t400.length co14) : Value).ownBlock) (.slice Ao64 t404.length co64) t404) ∧ Aside0 (Kd.S (Kd.slice 3 (Kd.int .i64)) 31 w' w.heap.size (fun k_ => some k_ ≠ ((.slice Ao64 t404.length co64) : Value).ownBlock ∧ some k_ ≠ (v413 : Value).ownBlock ∧ some k_ ≠ (v421 : Value).ownBlock ∧ some k_ ≠ ((.slice Ao64 t404.length co64) : Value).ownBlock) (.slice Ao14 t400.length co14) t400) ∧ Aside0 (w'.heap[gb403]? = some (.cells #[(.slice Ao14 t400.length co14)] 27 (0, 0))) ∧ Aside0 (Below w.heap.size w w'))
          case atStart => exact ⟨(0), (by first | rfl | (simp; done) | (simp [*]; done)), H', ⟨Nat.le_refl _⟩, ⟨by (with_reducible repeat (first | apply Kd.S_alloc | apply Kd.S_drewN | apply Kd.S_drew)); exact HO_6.out⟩, ⟨by (with_reducible repeat (first | apply Kd.R_alloc | apply Kd.R_drewN | apply Kd.R_drew)); exact HO_10.out⟩, ⟨by (with_reducible repeat (first | apply Kd.R_alloc | apply Kd.R_drewN | apply Kd.R_drew)); exact HO_14.out⟩, ⟨by (with_reducible repeat (first | apply Kd.S_alloc | apply Kd.S_drewN | apply Kd.S_drew)); exact HO_6.out⟩, ⟨by (with_reducible repeat (first | apply Kd.S_alloc | apply Kd.S_drewN | apply Kd.S_drew)); exact Kd.S_mono HO_404000.out (fun _ hk => ⟨hk.1, ⟨hk.2.1, ⟨hk.2.2, hk.1⟩⟩⟩)⟩, ⟨by (with_reducible repeat (first | refine blk_drewN ?_ _ | refine blk_drew ?_ | refine blk_alloc ?_ _)); exact BK403.out⟩, ⟨by repeat (first | (with_reducible first | exact HB.out | apply below_alloc | apply pw_below_drewN | apply below_drew1 | refine below_set ?_ GE403.out) | exact HB.out)⟩⟩
          case round => as_aux_lemma =>
            clear H'
            try clear c1
            try clear c2
            try clear p2
            try clear c3
            try clear c3b0
            try clear c4
            try clear c6
            try clear p6
            try clear c12
            try clear c20
            try clear c21
            try clear c27
            try clear c27b0
            try clear c27b1
            try clear c27b2
            try clear c29
            try clear c30
            try clear c30b0
            try clear c30b1
            try clear c30b2
            try clear c34
            try clear c35
            try clear c35b0
            try clear c35b1
            try clear c35b2
            try clear c36
            try clear c37
            try clear c40
            try clear c41
            try clear c44
            try clear c63
            try clear p64
            try clear hcz15_0
            try clear hcz17_0
            try clear hcz19_0
            try clear hcz21_0
            try clear hcz23_0
            try clear hcz25_0
            try clear hcz49_0
            try clear hfz15_0
            try clear hfz17_0
            try clear hfz19_0
            try clear hfz21_0
            try clear hfz23_0
            try clear hfz25_0
            try clear hfz49_0
            try clear p2
            try clear p6
            obtain ⟨x114_2, rfl, HA, HK2, HO_6, HO_10, HO_14, HO_112, HO_404000, BK403, HB⟩ := hrel
            cases gk with
            | zero => exact absurd HA.out (by simp [laws_FnDominators.l0])
            | succ k2 =>
              have H := HA.out
              clear HA
              simp only [laws_FnDominators.l0] at H
              by_cases c65 : x114_2 < (t404.length : Int)
              · rw [if_pos c65] at H
                have c65b0 : decide (x114_2 < (t404.length : Int)) = true := decide_eq_true c65
                clear c65
                by_cases c66 : 0 ≤ x114_2
                · rw [if_pos c66] at H
                  have c66b0 : decide (0 ≤ x114_2) = true := decide_eq_true c66
                  clear c66
                  by_cases c67 : x114_2 < (t404.length : Int)
                  · rw [if_pos c67] at H
                    have c67b0 : decide (x114_2 < (t404.length : Int)) = true := decide_eq_true c67
                    clear c67
                    have HC68 := Aside0.mk H
                    clear H
                    have p432 : 0 ≤ (x114_2 : Int) := of_decide_eq_true (by first | (with_reducible assumption) | assumption)
                    have q432 : x114_2 < (t404.length : Int) := of_decide_eq_true (by first | (with_reducible assumption) | assumption)
                    obtain ⟨ad432, A432_0, c432_0, e432, hx432_0, hl432_0, hi432_0⟩ := at_L1 (Kd.S_reads' HO_112.out).2.2 x114_2 p432 q432
                    cases e432
                    obtain ⟨ce432, hce432, hMe432, hcc432⟩ := Kd.S_get HO_112.out [] x114_2 p432 (by first | exact q432 | exact of_decide_eq_true (by first | (with_reducible assumption) | assumption) | (have e_ := (Kd.S_reads' HO_112.out).1; omega))
                    obtain ⟨ve432_0, rfl, ge432_0⟩ := hMe432
                    have hv432_0 := hcc432 0 _ rfl
                    rw [Nat.add_zero, show ((Kd.slice 3 (Kd.int .i64))).sz = 1 from rfl, Nat.mul_one] at hv432_0
                    replace hv432_0 := Option.some.inj (hv432_0.symm.trans hx432_0)
                    rw [hv432_0] at ge432_0
                    have HL432_0 := Aside0.mk (show Kd.R (Kd.int .i64) 3 _ _ _ _ (rd_L1 t404 x114_2) from ge432_0)
                    clear hv432_0 ge432_0
                    clear hcc432 hce432
                    have HR432_0 := Aside0.mk hi432_0
                    have HC432_0 := Aside0.mk hl432_0
                    clear hi432_0 hl432_0
                    replace p432 := eq_true p432
                    replace q432 := eq_true q432
                    go_upto_region 15 with (fail)
                    go_cut [133] (fun v133 wc => ∃ (kq : Nat) (x133_67 : Bool), v133 = .bool x133_67 ∧ Aside0 (laws_FnDominators.j2 kq l1 t404 t412 t420 x114_2 t404 (t404.length : Int) x114_2 x133_67 t400 = some r) ∧ Aside0 (kq ≤ k2) ∧ Aside0 (Kd.S (Kd.slice 3 (Kd.int .i64)) 31 wc w.heap.size (fun k_ => some k_ ≠ (v413 : Value).ownBlock ∧ some k_ ≠ (v421 : Value).ownBlock ∧ some k_ ≠ ((.slice Ao14 t400.length co14) : Value).ownBlock) (.slice (some ad432) t404.length co64) t404) ∧ Aside0 (Kd.R (Kd.int .i64) 3 wc w.heap.size (fun k_ => some k_ ≠ (v421 : Value).ownBlock) v413 t412) ∧ Aside0 (Kd.R (Kd.int .i64) 3 wc w.heap.size (fun k_ => some k_ ≠ (v413 : Value).ownBlock) v421 t420) ∧ Aside0 (Kd.S (Kd.slice 3 (Kd.int .i64)) 31 wc w.heap.size (fun k_ => some k_ ≠ (v413 : Value).ownBlock ∧ some k_ ≠ (v421 : Value).ownBlock ∧ some k_ ≠ ((.slice Ao14 t400.length co14) : Value).ownBlock) (.slice (some ad432) t404.length co64) t404) ∧ Aside0 (Kd.S (Kd.slice 3 (Kd.int .i64)) 31 wc w.heap.size (fun k_ => some k_ ≠ ((.slice (some ad432) t404.length co64) : Value).ownBlock ∧ some k_ ≠ (v413 : Value).ownBlock ∧ some k_ ≠ (v421 : Value).ownBlock ∧ some k_ ≠ ((.slice (some ad432) t404.length co64) : Value).ownBlock) (.slice Ao14 t400.length co14) t400) ∧ Aside0 (wc.heap[gb403]? = some (.cells #[(.slice Ao14 t400.length co14)] 27 (0, 0))) ∧ Aside0 (Kd.C (Kd.int .i64) wc A432_0 (rd_L1 t404 x114_2).length (rd_L1 t404 x114_2)) ∧ Aside0 (Below w.heap.size w wc))
                    case first =>
                      have H := HC68.out
                      clear HC68
                      replace H := Option.bind_eq_some_iff.mp H
                      obtain ⟨t433, A690, H⟩ := H
                      replace H : ((laws_has.f k2 (rd_L1 t404 x114_2) x114_2).bind fun t434 => (if (t433 != t434) = true then (laws_FnDominators.j2 k2 l1 t404 t412 t420 x114_2 t404 (t404.length : Int) x114_2 true t400) else ((laws_has.f k2 t420 x114_2).bind fun t435 => ((laws_has.f k2 (rd_L1 t404 x114_2) 0).bind fun t436 => (laws_FnDominators.j2 k2 l1 t404 t412 t420 x114_2 t404 (t404.length : Int) x114_2 (t435 != t436) t400))))) = some r := H
                      have A69 := Aside0.mk A690
                      clear A690
                      replace H := Option.bind_eq_some_iff.mp H
                      obtain ⟨t434, A700, H⟩ := H
                      replace H : (if (t433 != t434) = true then (laws_FnDominators.j2 k2 l1 t404 t412 t420 x114_2 t404 (t404.length : Int) x114_2 true t400) else ((laws_has.f k2 t420 x114_2).bind fun t435 => ((laws_has.f k2 (rd_L1 t404 x114_2) 0).bind fun t436 => (laws_FnDominators.j2 k2 l1 t404 t412 t420 x114_2 t404 (t404.length : Int) x114_2 (t435 != t436) t400)))) = some r := H
                      have A70 := Aside0.mk A700
                      clear A700
                      by_cases c71 : (t433 != t434) = true
                      · rw [if_pos c71] at H
                        have c71b0 : (t433 != t434) = true := c71
                        (try (have c71b1 : decide (t433 = t434) = false := by simpa using c71))
                        (try (have c71b2 : (t433 == t434) = false := by simpa using c71))
                        (try (have c71b3 : ¬ (t433 = t434) := by simpa using c71))
                        clear c71
                        (first | rw [c71b0] | (simp only [i64_w, i32_w]; rw [c71b0]) | skip)
                        as_aux_lemma =>
                          have H' := Aside0.mk H
                          clear H
                          obtain ⟨Ao72, co72, eo72⟩ := Kd.R_slice HO_14.out
                          (first | subst eo72 | (injection eo72 with ea_ en_ ec_; (replace ea_ := ea_.symm); (replace ec_ := ec_.symm); subst ea_; subst ec_))
                          go_wp2_with (first | ((with_reducible refine gate_callee (f := 47) rfl ?_); refine goesL_ (some 121) rfl rfl Try.func47 (by kernel_rfl) rfl #[.slice Ao72 t420.length co72, .int .i64 x114_2] rfl (by (try simp only [List.map_toArray, List.map_cons, List.map_nil]); first | done | rfl | (simp only [List.length_drop, List.length_take]; rfl)) ?_; (with_reducible refine (laws_has.calls k2 _ _ t420 x114_2 t433 _ ?side1 ?side2 A69.out).mono ?_); (case side1 => repeat (first | exact (Kd.R_reads' HO_14.out).2.2 | (with_reducible refine Kd.C_alloc ?_ _) | (with_reducible refine Kd.C_drewN ?_ _) | (with_reducible refine Kd.C_drew ?_))); (case side2 => exact (Kd.R_reads' HO_14.out).2.1); rintro e w' ⟨rfl, ⟨nd, rfl⟩⟩; refine ⟨_, rfl, ?_⟩) | ((with_reducible refine gate_callee (f := 47) rfl ?_); refine goesL_ (some 124) rfl rfl Try.func47 (by kernel_rfl) rfl #[.slice A432_0 (rd_L1 t404 x114_2).length c432_0, .int .i64 x114_2] rfl (by (try simp only [List.map_toArray, List.map_cons, List.map_nil]); first | done | rfl | (simp only [List.length_drop, List.length_take]; rfl)) ?_; (with_reducible refine (laws_has.calls k2 _ _ (rd_L1 t404 x114_2) x114_2 t434 _ ?side1 ?side2 A70.out).mono ?_); (case side1 => repeat (first | exact (by repeat (first | (with_reducible exact HR432_0.out) | (with_reducible refine Kd.C_alloc ?_ _) | (with_reducible refine Kd.C_drewN ?_ _) | (with_reducible refine Kd.C_drew ?_) | exact HR432_0.out)) | (with_reducible refine Kd.C_alloc ?_ _) | (with_reducible refine Kd.C_drewN ?_ _) | (with_reducible refine Kd.C_drew ?_))); (case side2 => exact HC432_0.out); rintro e w' ⟨rfl, ⟨nd, rfl⟩⟩; refine ⟨_, rfl, ?_⟩))
                          go_meet
                          case rel => exact ⟨_, (true), (by first | rfl | (simp; done) | (simp [*]; done)), H', ⟨by have := HJ10.out; have := HK2.out; first | omega | exact Nat.le_refl _⟩, ⟨by (with_reducible repeat (first | apply Kd.S_alloc | apply Kd.S_drewN | apply Kd.S_drew)); exact HO_6.out⟩, ⟨by (with_reducible repeat (first | apply Kd.R_alloc | apply Kd.R_drewN | apply Kd.R_drew)); exact HO_10.out⟩, ⟨by (with_reducible repeat (first | apply Kd.R_alloc | apply Kd.R_drewN | apply Kd.R_drew)); exact HO_14.out⟩, ⟨by (with_reducible repeat (first | apply Kd.S_alloc | apply Kd.S_drewN | apply Kd.S_drew)); exact HO_112.out⟩, ⟨by (with_reducible repeat (first | apply Kd.S_alloc | apply Kd.S_drewN | apply Kd.S_drew)); exact HO_404000.out⟩, ⟨by (with_reducible repeat (first | refine blk_drewN ?_ _ | refine blk_drew ?_ | refine blk_alloc ?_ _)); exact BK403.out⟩, ⟨by repeat (first | (with_reducible exact HR432_0.out) | (with_reducible refine Kd.C_alloc ?_ _) | (with_reducible refine Kd.C_drewN ?_ _) | (with_reducible refine Kd.C_drew ?_) | exact HR432_0.out)⟩, ⟨by repeat (first | (with_reducible first | exact HB.out | apply below_alloc | apply pw_below_drewN | apply below_drew1 | refine below_set ?_ GE403.out) | exact HB.out)⟩⟩
                      · rw [if_neg c71] at H
                        have c71b0 : (t433 != t434) = false := by simpa using c71
                        (try (have c71b1 : decide (t433 = t434) = true := by simpa using c71))
                        (try (have c71b2 : (t433 == t434) = true := by simpa using c71))
                        clear c71
                        (first | rw [c71b0] | (simp only [i64_w, i32_w]; rw [c71b0]) | skip)
                        replace H := Option.bind_eq_some_iff.mp H
                        obtain ⟨t435, A730, H⟩ := H
                        replace H : ((laws_has.f k2 (rd_L1 t404 x114_2) 0).bind fun t436 => (laws_FnDominators.j2 k2 l1 t404 t412 t420 x114_2 t404 (t404.length : Int) x114_2 (t435 != t436) t400)) = some r := H
                        have A73 := Aside0.mk A730
                        clear A730
                        replace H := Option.bind_eq_some_iff.mp H
                        obtain ⟨t436, A740, H⟩ := H
                        replace H : (laws_FnDominators.j2 k2 l1 t404 t412 t420 x114_2 t404 (t404.length : Int) x114_2 (t435 != t436) t400) = some r := H
                        have A74 := Aside0.mk A740
                        clear A740
                        as_aux_lemma =>
                          have H' := Aside0.mk H
                          clear H
                          obtain ⟨Ao75, co75, eo75⟩ := Kd.R_slice HO_14.out
                          (first | subst eo75 | (injection eo75 with ea_ en_ ec_; (replace ea_ := ea_.symm); (replace ec_ := ec_.symm); subst ea_; subst ec_))
                          go_wp2_with (first | ((with_reducible refine gate_callee (f := 47) rfl ?_); refine goesL_ (some 121) rfl rfl Try.func47 (by kernel_rfl) rfl #[.slice Ao75 t420.length co75, .int .i64 x114_2] rfl (by (try simp only [List.map_toArray, List.map_cons, List.map_nil]); first | done | rfl | (simp only [List.length_drop, List.length_take]; rfl)) ?_; (with_reducible refine (laws_has.calls k2 _ _ t420 x114_2 t433 _ ?side1 ?side2 A69.out).mono ?_); (case side1 => repeat (first | exact (Kd.R_reads' HO_14.out).2.2 | (with_reducible refine Kd.C_alloc ?_ _) | (with_reducible refine Kd.C_drewN ?_ _) | (with_reducible refine Kd.C_drew ?_))); (case side2 => exact (Kd.R_reads' HO_14.out).2.1); rintro e w' ⟨rfl, ⟨nd, rfl⟩⟩; refine ⟨_, rfl, ?_⟩) | ((with_reducible refine gate_callee (f := 47) rfl ?_); refine goesL_ (some 124) rfl rfl Try.func47 (by kernel_rfl) rfl #[.slice A432_0 (rd_L1 t404 x114_2).length c432_0, .int .i64 x114_2] rfl (by (try simp only [List.map_toArray, List.map_cons, List.map_nil]); first | done | rfl | (simp only [List.length_drop, List.length_take]; rfl)) ?_; (with_reducible refine (laws_has.calls k2 _ _ (rd_L1 t404 x114_2) x114_2 t434 _ ?side1 ?side2 A70.out).mono ?_); (case side1 => repeat (first | exact (by repeat (first | (with_reducible exact HR432_0.out) | (with_reducible refine Kd.C_alloc ?_ _) | (with_reducible refine Kd.C_drewN ?_ _) | (with_reducible refine Kd.C_drew ?_) | exact HR432_0.out)) | (with_reducible refine Kd.C_alloc ?_ _) | (with_reducible refine Kd.C_drewN ?_ _) | (with_reducible refine Kd.C_drew ?_))); (case side2 => exact HC432_0.out); rintro e w' ⟨rfl, ⟨nd, rfl⟩⟩; refine ⟨_, rfl, ?_⟩) | (go_at_call 47; (with_reducible refine (laws_has.calls k2 _ _ t420 x114_2 t435 _ ?side1 ?side2 A73.out).mono ?_); (case side1 => repeat (first | exact (Kd.R_reads' HO_14.out).2.2 | (with_reducible refine Kd.C_alloc ?_ _) | (with_reducible refine Kd.C_drewN ?_ _) | (with_reducible refine Kd.C_drew ?_))); (case side2 => exact (Kd.R_reads' HO_14.out).2.1); rintro e w' ⟨rfl, ⟨nd, rfl⟩⟩) | (go_at_call 47; (with_reducible refine (laws_has.calls k2 _ _ (rd_L1 t404 x114_2) 0 t436 _ ?side1 ?side2 A74.out).mono ?_); (case side1 => repeat (first | exact (by repeat (first | (with_reducible exact HR432_0.out) | (with_reducible refine Kd.C_alloc ?_ _) | (with_reducible refine Kd.C_drewN ?_ _) | (with_reducible refine Kd.C_drew ?_) | exact HR432_0.out)) | (with_reducible refine Kd.C_alloc ?_ _) | (with_reducible refine Kd.C_drewN ?_ _) | (with_reducible refine Kd.C_drew ?_))); (case side2 => exact HC432_0.out); rintro e w' ⟨rfl, ⟨nd, rfl⟩⟩))
                          go_meet
                          case rel => exact ⟨_, ((t435 != t436)), (by first | rfl | (simp; done) | (simp [*]; done)), H', ⟨by have := HJ10.out; have := HK2.out; first | omega | exact Nat.le_refl _⟩, ⟨by (with_reducible repeat (first | apply Kd.S_alloc | apply Kd.S_drewN | apply Kd.S_drew)); exact HO_6.out⟩, ⟨by (with_reducible repeat (first | apply Kd.R_alloc | apply Kd.R_drewN | apply Kd.R_drew)); exact HO_10.out⟩, ⟨by (with_reducible repeat (first | apply Kd.R_alloc | apply Kd.R_drewN | apply Kd.R_drew)); exact HO_14.out⟩, ⟨by (with_reducible repeat (first | apply Kd.S_alloc | apply Kd.S_drewN | apply Kd.S_drew)); exact HO_112.out⟩, ⟨by (with_reducible repeat (first | apply Kd.S_alloc | apply Kd.S_drewN | apply Kd.S_drew)); exact HO_404000.out⟩, ⟨by (with_reducible repeat (first | refine blk_drewN ?_ _ | refine blk_drew ?_ | refine blk_alloc ?_ _)); exact BK403.out⟩, ⟨by repeat (first | (with_reducible exact HR432_0.out) | (with_reducible refine Kd.C_alloc ?_ _) | (with_reducible refine Kd.C_drewN ?_ _) | (with_reducible refine Kd.C_drew ?_) | exact HR432_0.out)⟩, ⟨by repeat (first | (with_reducible first | exact HB.out | apply below_alloc | apply pw_below_drewN | apply below_drew1 | refine below_set ?_ GE403.out) | exact HB.out)⟩⟩
                    case rest => as_aux_lemma =>
                      clear HC68
                      try clear c1
                      try clear c2
                      try clear p2
                      try clear c3
                      try clear c3b0
                      try clear c4
                      try clear p4
                      try clear q4
                      try clear hx4
                      try clear c6
                      try clear p6
                      try clear c7
                      try clear c12
                      try clear c20
                      try clear c21
                      try clear c27
                      try clear c27b0
                      try clear c27b1
                      try clear c27b2
                      try clear c29
                      try clear c30
                      try clear c30b0
                      try clear c30b1
                      try clear c30b2
                      try clear c34
                      try clear c35
                      try clear c35b0
                      try clear c35b1
                      try clear c35b2
                      try clear c36
                      try clear c37
                      try clear c40
                      try clear c41
                      try clear c43
                      try clear p43
                      try clear q43
                      try clear hx43
                      try clear c44
                      try clear c47
                      try clear c63
                      try clear p64
                      try clear c65
                      try clear c65b0
                      try clear c66
                      try clear c66b0
                      try clear c67
                      try clear c67b0
                      try clear c71
                      try clear c71b0
                      try clear c71b1
                      try clear c71b2
                      try clear hcz15_0
                      try clear hcz17_0
                      try clear hcz19_0
                      try clear hcz21_0
                      try clear hcz23_0
                      try clear hcz25_0
                      try clear hcz49_0
                      try clear hfz15_0
                      try clear hfz17_0
                      try clear hfz19_0
                      try clear hfz21_0
                      try clear hfz23_0
                      try clear hfz25_0
                      try clear hfz49_0
                      try clear hx432_0
                      try clear p2
                      try clear p432
                      try clear p6
                      try clear p64
                      try clear q432
                      obtain ⟨kq, x133_67, rfl, HA, HJ67, HO_6, HO_10, HO_14, HO_112, HO_404000, BK403, HR432_0, HB⟩ := hcut
                      cases kq with
                      | zero => exact absurd HA.out (by simp [laws_FnDominators.j2])
                      | succ kj67 =>
                        have H := HA.out
                        clear HA
                        simp only [laws_FnDominators.j2] at H
                        by_cases c76 : x133_67 = true
                        · subst c76
                          have H1 : (some false) = some r := by rw [if_pos rfl] at H; exact H
                          clear H
                          have H := H1
                          clear H1
                          as_aux_lemma =>
                            obtain rfl := Option.some.inj H
                            go_wp2
                            go_ret
                            exact ⟨by first | rfl | (simp [errW_none, errW_some] <;> rfl) | (simp [*, errW_none, errW_some] <;> rfl), by repeat (first | (with_reducible first | exact HB.out | apply below_alloc | apply pw_below_drewN | apply below_drew1 | refine below_set ?_ GE403.out) | exact HB.out)⟩
                        · replace c76 := Bool.eq_false_iff.mpr c76
                          subst c76
                          have H1 : (laws_FnDominators.l1 kj67 l1 t404 t412 t420 x114_2 (rd_L1 t404 x114_2) t404 (t404.length : Int) x114_2 t420 (t420.length : Int) 0 t400) = some r := by rw [if_neg (show ¬ (false = true) by decide)] at H; exact H
                          clear H
                          have H := H1
                          clear H1
                          have H' := Aside0.mk H
                          clear H
                          obtain ⟨Ao77, co77, eo77⟩ := Kd.R_slice HO_14.out
                          (first | subst eo77 | (injection eo77 with ea_ en_ ec_; (replace ea_ := ea_.symm); (replace ec_ := ec_.symm); subst ea_; subst ec_))
                          go_wp2
                          go_loopg [136] kj67 (fun kq v136 w' => ∃ (x136_4 : Int), v136 = .int .i64 x136_4 ∧ Aside0 (laws_FnDominators.l1 kq l1 t404 t412 t420 x114_2 (rd_L1 t404 x114_2) t404 (t404.length : Int) x114_2 t420 (t420.length : Int) x136_4 t400 = some r) ∧ Aside0 (kq ≤ kj67) ∧ Aside0 (Kd.S (Kd.slice 3 (Kd.int .i64)) 31 w' w.heap.size (fun k_ => some k_ ≠ (v413 : Value).ownBlock ∧ some k_ ≠ ((.slice Ao77 t420.length co77) : Value).ownBlock ∧ some k_ ≠ ((.slice Ao77 t420.length co77) : Value).ownBlock ∧ some k_ ≠ ((.slice Ao14 t400.length co14) : Value).ownBlock) (.slice (some ad432) t404.length co64) t404) ∧ Aside0 (Kd.R (Kd.int .i64) 3 w' w.heap.size (fun k_ => some k_ ≠ ((.slice Ao77 t420.length co77) : Value).ownBlock ∧ some k_ ≠ ((.slice Ao77 t420.length co77) : Value).ownBlock) v413 t412) ∧ Aside0 (Kd.R (Kd.int .i64) 3 w' w.heap.size (fun k_ => some k_ ≠ (v413 : Value).ownBlock) (.slice Ao77 t420.length co77) t420) ∧ Aside0 (Kd.S (Kd.slice 3 (Kd.int .i64)) 31 w' w.heap.size (fun k_ => some k_ ≠ (v413 : Value).ownBlock ∧ some k_ ≠ ((.slice Ao77 t420.length co77) : Value).ownBlock ∧ some k_ ≠ ((.slice Ao77 t420.length co77) : Value).ownBlock ∧ some k_ ≠ ((.slice Ao14 t400.length co14) : Value).ownBlock) (.slice (some ad432) t404.length co64) t404) ∧ Aside0 (Kd.R (Kd.int .i64) 3 w' w.heap.size (fun k_ => some k_ ≠ (v413 : Value).ownBlock) (.slice Ao77 t420.length co77) t420) ∧ Aside0 (Kd.S (Kd.slice 3 (Kd.int .i64)) 31 w' w.heap.size (fun k_ => some k_ ≠ ((.slice (some ad432) t404.length co64) : Value).ownBlock ∧ some k_ ≠ (v413 : Value).ownBlock ∧ some k_ ≠ ((.slice Ao77 t420.length co77) : Value).ownBlock ∧ some k_ ≠ ((.slice (some ad432) t404.length co64) : Value).ownBlock ∧ some k_ ≠ ((.slice Ao77 t420.length co77) : Value).ownBlock) (.slice Ao14 t400.length co14) t400) ∧ Aside0 (w'.heap[gb403]? = some (.cells #[(.slice Ao14 t400.length co14)] 27 (0, 0))) ∧ Aside0 (Kd.C (Kd.int .i64) w' A432_0 (rd_L1 t404 x114_2).length (rd_L1 t404 x114_2)) ∧ Aside0 (Below w.heap.size w w'))
                          case atStart => exact ⟨(0), (by first | rfl | (simp; done) | (simp [*]; done)), H', ⟨Nat.le_refl _⟩, ⟨by (with_reducible repeat (first | apply Kd.S_alloc | apply Kd.S_drewN | apply Kd.S_drew)); exact Kd.S_mono HO_6.out (fun _ hk => ⟨hk.1, ⟨hk.2.1, ⟨hk.2.1, hk.2.2⟩⟩⟩)⟩, ⟨by (with_reducible repeat (first | apply Kd.R_alloc | apply Kd.R_drewN | apply Kd.R_drew)); exact Kd.R_mono HO_10.out (fun _ hk => ⟨hk, hk⟩)⟩, ⟨by (with_reducible repeat (first | apply Kd.R_alloc | apply Kd.R_drewN | apply Kd.R_drew)); exact HO_14.out⟩, ⟨by (with_reducible repeat (first | apply Kd.S_alloc | apply Kd.S_drewN | apply Kd.S_drew)); exact Kd.S_mono HO_112.out (fun _ hk => ⟨hk.1, ⟨hk.2.1, ⟨hk.2.1, hk.2.2⟩⟩⟩)⟩, ⟨by (with_reducible repeat (first | apply Kd.R_alloc | apply Kd.R_drewN | apply Kd.R_drew)); exact HO_14.out⟩, ⟨by (with_reducible repeat (first | apply Kd.S_alloc | apply Kd.S_drewN | apply Kd.S_drew)); exact Kd.S_mono HO_404000.out (fun _ hk => ⟨hk.1, ⟨hk.2.1, ⟨hk.2.2.1, ⟨hk.2.2.2, hk.2.2.1⟩⟩⟩⟩)⟩, ⟨by (with_reducible repeat (first | refine blk_drewN ?_ _ | refine blk_drew ?_ | refine blk_alloc ?_ _)); exact BK403.out⟩, ⟨by repeat (first | (with_reducible exact HR432_0.out) | (with_reducible refine Kd.C_alloc ?_ _) | (with_reducible refine Kd.C_drewN ?_ _) | (with_reducible refine Kd.C_drew ?_) | exact HR432_0.out)⟩, ⟨by repeat (first | (with_reducible first | exact HB.out | apply below_alloc | apply pw_below_drewN | apply below_drew1 | refine below_set ?_ GE403.out) | exact HB.out)⟩⟩
                          case round => as_aux_lemma =>
                            clear H'
                            try clear c1
                            try clear c2
                            try clear p2
                            try clear c3
                            try clear c3b0
                            try clear c4
                            try clear p4
                            try clear q4
                            try clear hx4
                            try clear c6
                            try clear p6
                            try clear c7
                            try clear c12
                            try clear c20
                            try clear c21
                            try clear c27
                            try clear c27b0
                            try clear c27b1
                            try clear c27b2
                            try clear c29
                            try clear c30
                            try clear c30b0
                            try clear c30b1
                            try clear c30b2
                            try clear c34
                            try clear c35
                            try clear c35b0
                            try clear c35b1
                            try clear c35b2
                            try clear c36
                            try clear c37
                            try clear c40
                            try clear c41
                            try clear c43
                            try clear p43
                            try clear q43
                            try clear hx43
                            try clear c44
                            try clear c47
                            try clear c63
                            try clear p64
                            try clear c65
                            try clear c65b0
                            try clear c66
                            try clear c66b0
                            try clear c67
                            try clear c67b0
                            try clear c71
                            try clear c71b0
                            try clear c71b1
                            try clear c71b2
                            try clear c76
                            try clear hcz15_0
                            try clear hcz17_0
                            try clear hcz19_0
                            try clear hcz21_0
                            try clear hcz23_0
                            try clear hcz25_0
                            try clear hcz49_0
                            try clear hfz15_0
                            try clear hfz17_0
                            try clear hfz19_0
                            try clear hfz21_0
                            try clear hfz23_0
                            try clear hfz25_0
                            try clear hfz49_0
                            try clear hx432_0
                            try clear p2
                            try clear p4
                            try clear p43
                            try clear p432
                            try clear p6
                            try clear p64
                            try clear q4
                            try clear q43
                            try clear q432
                            obtain ⟨x136_4, rfl, HA, HK4, HO_6, HO_10, HO_14, HO_112, HO_134, HO_404000, BK403, HR432_0, HB⟩ := hrel
                            cases gk with
                            | zero => exact absurd HA.out (by simp [laws_FnDominators.l1])
                            | succ k4 =>
                              have H := HA.out
                              clear HA
                              simp only [laws_FnDominators.l1] at H
                              by_cases c78 : x136_4 < (t420.length : Int)
                              · rw [if_pos c78] at H
                                have c78b0 : decide (x136_4 < (t420.length : Int)) = true := decide_eq_true c78
                                clear c78
                                by_cases c79 : 0 ≤ x136_4
                                · rw [if_pos c79] at H
                                  have c79b0 : decide (0 ≤ x136_4) = true := decide_eq_true c79
                                  clear c79
                                  by_cases c80 : x136_4 < (t420.length : Int)
                                  · rw [if_pos c80] at H
                                    have c80b0 : decide (x136_4 < (t420.length : Int)) = true := decide_eq_true c80
                                    clear c80
                                    replace H := Option.bind_eq_some_iff.mp H
                                    obtain ⟨⟨t438, t441⟩, A810, H⟩ := H
                                    replace H : (if t441 = true then ((laws_has.f k4 t420 x114_2).bind fun t442 => (if t442 = true then ((laws_has.f k4 (rd_L1 t404 x114_2) (rd t420 x136_4)).bind fun t443 => ((laws_has.f k4 t438 x114_2).bind fun t444 => (if (t443 == t444) = true then (some false) else (laws_FnDominators.l1 k4 l1 t404 t412 t420 x114_2 (rd_L1 t404 x114_2) t404 (t404.length : Int) x114_2 t420 (t420.length : Int) (wrap64 (x136_4 + 1)) t400)))) else (laws_FnDominators.l1 k4 l1 t404 t412 t420 x114_2 (rd_L1 t404 x114_2) t404 (t404.length : Int) x114_2 t420 (t420.length : Int) (wrap64 (x136_4 + 1)) t400))) else (some false)) = some r := H
                                    have A81 := Aside0.mk A810
                                    clear A810
                                    by_cases c82 : t441 = true
                                    · subst c82
                                      have H1 : ((laws_has.f k4 t420 x114_2).bind fun t442 => (if t442 = true then ((laws_has.f k4 (rd_L1 t404 x114_2) (rd t420 x136_4)).bind fun t443 => ((laws_has.f k4 t438 x114_2).bind fun t444 => (if (t443 == t444) = true then (some false) else (laws_FnDominators.l1 k4 l1 t404 t412 t420 x114_2 (rd_L1 t404 x114_2) t404 (t404.length : Int) x114_2 t420 (t420.length : Int) (wrap64 (x136_4 + 1)) t400)))) else (laws_FnDominators.l1 k4 l1 t404 t412 t420 x114_2 (rd_L1 t404 x114_2) t404 (t404.length : Int) x114_2 t420 (t420.length : Int) (wrap64 (x136_4 + 1)) t400))) = some r := by rw [if_pos rfl] at H; exact H
                                      clear H
                                      have H := H1
                                      clear H1
                                      replace H := Option.bind_eq_some_iff.mp H
                                      obtain ⟨t442, A830, H⟩ := H
                                      replace H : (if t442 = true then ((laws_has.f k4 (rd_L1 t404 x114_2) (rd t420 x136_4)).bind fun t443 => ((laws_has.f k4 t438 x114_2).bind fun t444 => (if (t443 == t444) = true then (some false) else (laws_FnDominators.l1 k4 l1 t404 t412 t420 x114_2 (rd_L1 t404 x114_2) t404 (t404.length : Int) x114_2 t420 (t420.length : Int) (wrap64 (x136_4 + 1)) t400)))) else (laws_FnDominators.l1 k4 l1 t404 t412 t420 x114_2 (rd_L1 t404 x114_2) t404 (t404.length : Int) x114_2 t420 (t420.length : Int) (wrap64 (x136_4 + 1)) t400)) = some r := H
                                      have A83 := Aside0.mk A830
                                      clear A830
                                      by_cases c84 : t442 = true
                                      · subst c84
                                        have H1 : ((laws_has.f k4 (rd_L1 t404 x114_2) (rd t420 x136_4)).bind fun t443 => ((laws_has.f k4 t438 x114_2).bind fun t444 => (if (t443 == t444) = true then (some false) else (laws_FnDominators.l1 k4 l1 t404 t412 t420 x114_2 (rd_L1 t404 x114_2) t404 (t404.length : Int) x114_2 t420 (t420.length : Int) (wrap64 (x136_4 + 1)) t400)))) = some r := by rw [if_pos rfl] at H; exact H
                                        clear H
                                        have H := H1
                                        clear H1
                                        replace H := Option.bind_eq_some_iff.mp H
                                        obtain ⟨t443, A850, H⟩ := H
                                        replace H : ((laws_has.f k4 t438 x114_2).bind fun t444 => (if (t443 == t444) = true then (some false) else (laws_FnDominators.l1 k4 l1 t404 t412 t420 x114_2 (rd_L1 t404 x114_2) t404 (t404.length : Int) x114_2 t420 (t420.length : Int) (wrap64 (x136_4 + 1)) t400))) = some r := H
                                        have A85 := Aside0.mk A850
                                        clear A850
                                        replace H := Option.bind_eq_some_iff.mp H
                                        obtain ⟨t444, A860, H⟩ := H
                                        replace H : (if (t443 == t444) = true then (some false) else (laws_FnDominators.l1 k4 l1 t404 t412 t420 x114_2 (rd_L1 t404 x114_2) t404 (t404.length : Int) x114_2 t420 (t420.length : Int) (wrap64 (x136_4 + 1)) t400)) = some r := H
                                        have A86 := Aside0.mk A860
                                        clear A860
                                        by_cases c87 : (t443 == t444) = true
                                        · rw [if_pos c87] at H
                                          have c87b0 : (t443 == t444) = true := c87
                                          (try (have c87b1 : decide (t443 = t444) = true := by simpa using c87))
                                          (try (have c87b2 : (t443 == t444) = true := by simpa using c87))
                                          clear c87
                                          as_aux_lemma =>
                                            obtain rfl := Option.some.inj H
                                            have p437 : 0 ≤ (x136_4 : Int) := of_decide_eq_true (by first | (with_reducible assumption) | assumption)
                                            have q437 : x136_4 < (t420.length : Int) := of_decide_eq_true (by first | (with_reducible assumption) | assumption)
                                            obtain ⟨ad437, e437, hx437_0⟩ := Kd.at_int (Kd.R_reads' HO_134.out).2.2 x136_4 p437 q437
                                            cases e437
                                            replace p437 := eq_true p437
                                            replace q437 := eq_true q437
                                            have hcz88_0 : wr.cell? ⟨gb403, 0, none⟩ = some (.slice Ao14 t400.length co14) := (blk_cell BK403.out 0).trans rfl
                                            have hfz88_0 := blk_frozen BK403.out 0
                                            go_wp2_with (first | ((with_reducible refine gate_callee (f := 27) rfl ?_); refine goesL_ (some 143) rfl rfl Try.func27 (by kernel_rfl) rfl #[.agg #[.slice Ao14 t400.length co14], .int .i64 (rd t420 x136_4)] rfl (by (try simp only [List.map_toArray, List.map_cons, List.map_nil]); first | done | rfl | (simp only [List.length_drop, List.length_take]; rfl)) ?_; (with_reducible refine (impl_Without.calls _ _ t400 (rd t420 x136_4) t438 true _ ?side1 ?side2 A81.out).mono ?_); (case side1 => repeat (first | exact (Kd.S_reads' HO_404000.out).2.2 | (with_reducible refine Kd.C_alloc ?_ _) | (with_reducible refine Kd.C_drewN ?_ _) | (with_reducible refine Kd.C_drew ?_))); (case side2 => exact (Kd.S_reads' HO_404000.out).2.1); rintro e w89 ⟨v439, rfl, ho0, hb⟩; refine ⟨_, rfl, ?_⟩; have n0_ := Aside0.mk (Kd.S_elder' (by (with_reducible repeat (first | apply Kd.S_alloc | apply Kd.S_drewN | apply Kd.S_drew)); exact HO_6.out) (Kd.R_base ho0) hb); have n1_ := Aside0.mk (Kd.R_elder' (by (with_reducible repeat (first | apply Kd.R_alloc | apply Kd.R_drewN | apply Kd.R_drew)); exact HO_10.out) (Kd.R_base ho0) hb); have n2_ := Aside0.mk (Kd.R_elder' (by (with_reducible repeat (first | apply Kd.R_alloc | apply Kd.R_drewN | apply Kd.R_drew)); exact HO_14.out) (Kd.R_base ho0) hb); have n3_ := Aside0.mk (Kd.S_elder' (by (with_reducible repeat (first | apply Kd.S_alloc | apply Kd.S_drewN | apply Kd.S_drew)); exact HO_112.out) (Kd.R_base ho0) hb); have n4_ := Aside0.mk (Kd.R_elder' (by (with_reducible repeat (first | apply Kd.R_alloc | apply Kd.R_drewN | apply Kd.R_drew)); exact HO_134.out) (Kd.R_base ho0) hb); have n5_ := Aside0.mk (Kd.S_elder' (by (with_reducible repeat (first | apply Kd.S_alloc | apply Kd.S_drewN | apply Kd.S_drew)); exact HO_404000.out) (Kd.R_base ho0) hb); have n6_ := Aside0.mk (Kd.R_lower (Kd.R_new' (Kd.R_new' (Kd.R_new' ho0 (Kd.R_lt (by (with_reducible repeat (first | apply Kd.R_alloc | apply Kd.R_drewN | apply Kd.R_drew)); exact HO_10.out))) (Kd.R_lt (by (with_reducible repeat (first | apply Kd.R_alloc | apply Kd.R_drewN | apply Kd.R_drew)); exact HO_14.out))) (Kd.R_lt (by (with_reducible repeat (first | apply Kd.R_alloc | apply Kd.R_drewN | apply Kd.R_drew)); exact HO_134.out))) (below_size (by repeat (first | (with_reducible first | exact HB.out | apply below_alloc | apply pw_below_drewN | apply below_drew1 | refine below_set ?_ GE403.out) | exact HB.out)))); have n7_ := Aside0.mk (blk_below (g := gb403) (o := .cells #[.slice Ao14 t400.length co14] 27 (0, 0)) (by (with_reducible repeat (first | refine blk_drewN ?_ _ | refine blk_drew ?_ | refine blk_alloc ?_ _)); exact BK403.out) hb); have n8_ := Aside0.mk (Kd.C_below (by repeat (first | (with_reducible exact HR432_0.out) | (with_reducible refine Kd.C_alloc ?_ _) | (with_reducible refine Kd.C_drewN ?_ _) | (with_reducible refine Kd.C_drew ?_) | exact HR432_0.out)) hb); have n9_ := Aside0.mk (below_step (by repeat (first | (with_reducible first | exact HB.out | apply below_alloc | apply pw_below_drewN | apply below_drew1 | refine below_set ?_ GE403.out) | exact HB.out)) hb); clear HO_6; clear HO_10; clear HO_14; clear HO_112; clear HO_134; clear HO_404000; clear BK403; clear HR432_0; clear HB; have HO_6 := n0_; have HO_10 := n1_; have HO_14 := n2_; have HO_112 := n3_; have HO_134 := n4_; have HO_404000 := n5_; have HO440 := n6_; have BK403 := n7_; have HR432_0 := n8_; have HB := n9_; clear n0_ n1_ n2_ n3_ n4_ n5_ n6_ n7_ n8_ n9_; (try clear hb); (try clear hb2); (try clear hk); (try clear hi); (try clear ho0)) | (go_at_call 47; (with_reducible refine (laws_has.calls k4 _ _ t420 x114_2 true _ ?side1 ?side2 A83.out).mono ?_); (case side1 => repeat (first | exact (Kd.R_reads' HO_14.out).2.2 | (with_reducible refine Kd.C_alloc ?_ _) | (with_reducible refine Kd.C_drewN ?_ _) | (with_reducible refine Kd.C_drew ?_))); (case side2 => exact (Kd.R_reads' HO_14.out).2.1); rintro e w' ⟨rfl, ⟨nd, rfl⟩⟩) | (go_at_call 47; (with_reducible refine (laws_has.calls k4 _ _ (rd_L1 t404 x114_2) (rd t420 x136_4) t443 _ ?side1 ?side2 A85.out).mono ?_); (case side1 => repeat (first | exact (Kd.C_below HR432_0.out (by repeat (first | (with_reducible first | exact HB.out | exact Below.refl _ _ | apply below_alloc | apply pw_below_drewN | apply below_drew1 | refine below_set ?_ GE403.out) | exact HB.out))) | (with_reducible refine Kd.C_alloc ?_ _) | (with_reducible refine Kd.C_drewN ?_ _) | (with_reducible refine Kd.C_drew ?_))); (case side2 => exact HC432_0.out); rintro e w' ⟨rfl, ⟨nd, rfl⟩⟩; obtain ⟨Ao90, co90, eo90⟩ := Kd.R_slice HO440.out; subst eo90) | (go_at_call 47; (with_reducible refine (laws_has.calls k4 _ _ t438 x114_2 t444 _ ?side1 ?side2 A86.out).mono ?_); (case side1 => repeat (first | exact (Kd.R_reads' HO440.out).2.2 | (with_reducible refine Kd.C_alloc ?_ _) | (with_reducible refine Kd.C_drewN ?_ _) | (with_reducible refine Kd.C_drew ?_))); (case side2 => exact (Kd.R_reads' HO440.out).2.1); rintro e w' ⟨rfl, ⟨nd, rfl⟩⟩))
                                            go_ret
                                            exact ⟨by first | rfl | (simp [errW_none, errW_some] <;> rfl) | (simp [*, errW_none, errW_some] <;> rfl), by repeat (first | (with_reducible first | exact HB.out | apply below_alloc | apply pw_below_drewN | apply below_drew1 | refine below_set ?_ GE403.out) | exact HB.out)⟩
                                        · rw [if_neg c87] at H
                                          have c87b0 : (t443 == t444) = false := by simpa using c87
                                          (try (have c87b1 : decide (t443 = t444) = false := by simpa using c87))
                                          (try (have c87b2 : (t443 == t444) = false := by simpa using c87))
                                          (try (have c87b3 : ¬ (t443 = t444) := by simpa using c87))
                                          clear c87
                                          as_aux_lemma =>
                                            have H' := Aside0.mk H
                                            clear H
                                            have p437 : 0 ≤ (x136_4 : Int) := of_decide_eq_true (by first | (with_reducible assumption) | assumption)
                                            have q437 : x136_4 < (t420.length : Int) := of_decide_eq_true (by first | (with_reducible assumption) | assumption)
                                            obtain ⟨ad437, e437, hx437_0⟩ := Kd.at_int (Kd.R_reads' HO_134.out).2.2 x136_4 p437 q437
                                            cases e437
                                            replace p437 := eq_true p437
                                            replace q437 := eq_true q437
                                            have hcz91_0 : wr.cell? ⟨gb403, 0, none⟩ = some (.slice Ao14 t400.length co14) := (blk_cell BK403.out 0).trans rfl
                                            have hfz91_0 := blk_frozen BK403.out 0
                                            go_wp2_with (first | ((with_reducible refine gate_callee (f := 27) rfl ?_); refine goesL_ (some 143) rfl rfl Try.func27 (by kernel_rfl) rfl #[.agg #[.slice Ao14 t400.length co14], .int .i64 (rd t420 x136_4)] rfl (by (try simp only [List.map_toArray, List.map_cons, List.map_nil]); first | done | rfl | (simp only [List.length_drop, List.length_take]; rfl)) ?_; (with_reducible refine (impl_Without.calls _ _ t400 (rd t420 x136_4) t438 true _ ?side1 ?side2 A81.out).mono ?_); (case side1 => repeat (first | exact (Kd.S_reads' HO_404000.out).2.2 | (with_reducible refine Kd.C_alloc ?_ _) | (with_reducible refine Kd.C_drewN ?_ _) | (with_reducible refine Kd.C_drew ?_))); (case side2 => exact (Kd.S_reads' HO_404000.out).2.1); rintro e w92 ⟨v439, rfl, ho0, hb⟩; refine ⟨_, rfl, ?_⟩; have n0_ := Aside0.mk (Kd.S_elder' (by (with_reducible repeat (first | apply Kd.S_alloc | apply Kd.S_drewN | apply Kd.S_drew)); exact HO_6.out) (Kd.R_base ho0) hb); have n1_ := Aside0.mk (Kd.R_elder' (by (with_reducible repeat (first | apply Kd.R_alloc | apply Kd.R_drewN | apply Kd.R_drew)); exact HO_10.out) (Kd.R_base ho0) hb); have n2_ := Aside0.mk (Kd.R_elder' (by (with_reducible repeat (first | apply Kd.R_alloc | apply Kd.R_drewN | apply Kd.R_drew)); exact HO_14.out) (Kd.R_base ho0) hb); have n3_ := Aside0.mk (Kd.S_elder' (by (with_reducible repeat (first | apply Kd.S_alloc | apply Kd.S_drewN | apply Kd.S_drew)); exact HO_112.out) (Kd.R_base ho0) hb); have n4_ := Aside0.mk (Kd.R_elder' (by (with_reducible repeat (first | apply Kd.R_alloc | apply Kd.R_drewN | apply Kd.R_drew)); exact HO_134.out) (Kd.R_base ho0) hb); have n5_ := Aside0.mk (Kd.S_elder' (by (with_reducible repeat (first | apply Kd.S_alloc | apply Kd.S_drewN | apply Kd.S_drew)); exact HO_404000.out) (Kd.R_base ho0) hb); have n6_ := Aside0.mk (Kd.R_lower (Kd.R_new' (Kd.R_new' (Kd.R_new' ho0 (Kd.R_lt (by (with_reducible repeat (first | apply Kd.R_alloc | apply Kd.R_drewN | apply Kd.R_drew)); exact HO_10.out))) (Kd.R_lt (by (with_reducible repeat (first | apply Kd.R_alloc | apply Kd.R_drewN | apply Kd.R_drew)); exact HO_14.out))) (Kd.R_lt (by (with_reducible repeat (first | apply Kd.R_alloc | apply Kd.R_drewN | apply Kd.R_drew)); exact HO_134.out))) (below_size (by repeat (first | (with_reducible first | exact HB.out | apply below_alloc | apply pw_below_drewN | apply below_drew1 | refine below_set ?_ GE403.out) | exact HB.out)))); have n7_ := Aside0.mk (blk_below (g := gb403) (o := .cells #[.slice Ao14 t400.length co14] 27 (0, 0)) (by (with_reducible repeat (first | refine blk_drewN ?_ _ | refine blk_drew ?_ | refine blk_alloc ?_ _)); exact BK403.out) hb); have n8_ := Aside0.mk (Kd.C_below (by repeat (first | (with_reducible exact HR432_0.out) | (with_reducible refine Kd.C_alloc ?_ _) | (with_reducible refine Kd.C_drewN ?_ _) | (with_reducible refine Kd.C_drew ?_) | exact HR432_0.out)) hb); have n9_ := Aside0.mk (below_step (by repeat (first | (with_reducible first | exact HB.out | apply below_alloc | apply pw_below_drewN | apply below_drew1 | refine below_set ?_ GE403.out) | exact HB.out)) hb); clear HO_6; clear HO_10; clear HO_14; clear HO_112; clear HO_134; clear HO_404000; clear BK403; clear HR432_0; clear HB; have HO_6 := n0_; have HO_10 := n1_; have HO_14 := n2_; have HO_112 := n3_; have HO_134 := n4_; have HO_404000 := n5_; have HO440 := n6_; have BK403 := n7_; have HR432_0 := n8_; have HB := n9_; clear n0_ n1_ n2_ n3_ n4_ n5_ n6_ n7_ n8_ n9_; (try clear hb); (try clear hb2); (try clear hk); (try clear hi); (try clear ho0)) | (go_at_call 47; (with_reducible refine (laws_has.calls k4 _ _ t420 x114_2 true _ ?side1 ?side2 A83.out).mono ?_); (case side1 => repeat (first | exact (Kd.R_reads' HO_14.out).2.2 | (with_reducible refine Kd.C_alloc ?_ _) | (with_reducible refine Kd.C_drewN ?_ _) | (with_reducible refine Kd.C_drew ?_))); (case side2 => exact (Kd.R_reads' HO_14.out).2.1); rintro e w' ⟨rfl, ⟨nd, rfl⟩⟩) | (go_at_call 47; (with_reducible refine (laws_has.calls k4 _ _ (rd_L1 t404 x114_2) (rd t420 x136_4) t443 _ ?side1 ?side2 A85.out).mono ?_); (case side1 => repeat (first | exact (Kd.C_below HR432_0.out (by repeat (first | (with_reducible first | exact HB.out | exact Below.refl _ _ | apply below_alloc | apply pw_below_drewN | apply below_drew1 | refine below_set ?_ GE403.out) | exact HB.out))) | (with_reducible refine Kd.C_alloc ?_ _) | (with_reducible refine Kd.C_drewN ?_ _) | (with_reducible refine Kd.C_drew ?_))); (case side2 => exact HC432_0.out); rintro e w' ⟨rfl, ⟨nd, rfl⟩⟩; obtain ⟨Ao93, co93, eo93⟩ := Kd.R_slice HO440.out; subst eo93) | (go_at_call 47; (with_reducible refine (laws_has.calls k4 _ _ t438 x114_2 t444 _ ?side1 ?side2 A86.out).mono ?_); (case side1 => repeat (first | exact (Kd.R_reads' HO440.out).2.2 | (with_reducible refine Kd.C_alloc ?_ _) | (with_reducible refine Kd.C_drewN ?_ _) | (with_reducible refine Kd.C_drew ?_))); (case side2 => exact (Kd.R_reads' HO440.out).2.1); rintro e w' ⟨rfl, ⟨nd, rfl⟩⟩))
                                            go_roundg k4
                                            case measure => have := HJ10.out; have := HK2.out; have := HJ67.out; have := HK4.out; omega
                                            case rel => exact ⟨(wrap64 (x136_4 + 1)), (by first | rfl | (simp; done) | (simp [*]; done)), H', ⟨by have := HJ10.out; have := HK2.out; have := HJ67.out; have := HK4.out; omega⟩, ⟨by (with_reducible repeat (first | apply Kd.S_alloc | apply Kd.S_drewN | apply Kd.S_drew)); exact Kd.S_mono HO_6.out (fun _ hk => ⟨hk.1.1, ⟨hk.1.2.1, ⟨hk.1.2.2.1, hk.1.2.2.2⟩⟩⟩)⟩, ⟨by (with_reducible repeat (first | apply Kd.R_alloc | apply Kd.R_drewN | apply Kd.R_drew)); exact Kd.R_mono HO_10.out (fun _ hk => ⟨hk.1.1, hk.1.2⟩)⟩, ⟨by (with_reducible repeat (first | apply Kd.R_alloc | apply Kd.R_drewN | apply Kd.R_drew)); exact Kd.R_mono HO_14.out (fun _ hk => hk.1)⟩, ⟨by (with_reducible repeat (first | apply Kd.S_alloc | apply Kd.S_drewN | apply Kd.S_drew)); exact Kd.S_mono HO_112.out (fun _ hk => ⟨hk.1.1, ⟨hk.1.2.1, ⟨hk.1.2.2.1, hk.1.2.2.2⟩⟩⟩)⟩, ⟨by (with_reducible repeat (first | apply Kd.R_alloc | apply Kd.R_drewN | apply Kd.R_drew)); exact Kd.R_mono HO_134.out (fun _ hk => hk.1)⟩, ⟨by (with_reducible repeat (first | apply Kd.S_alloc | apply Kd.S_drewN | apply Kd.S_drew)); exact Kd.S_mono HO_404000.out (fun _ hk => ⟨hk.1.1, ⟨hk.1.2.1, ⟨hk.1.2.2.1, ⟨hk.1.2.2.2.1, hk.1.2.2.2.2⟩⟩⟩⟩)⟩, ⟨by (with_reducible repeat (first | refine blk_drewN ?_ _ | refine blk_drew ?_ | refine blk_alloc ?_ _)); exact BK403.out⟩, ⟨by repeat (first | (with_reducible exact HR432_0.out) | (with_reducible refine Kd.C_alloc ?_ _) | (with_reducible refine Kd.C_drewN ?_ _) | (with_reducible refine Kd.C_drew ?_) | exact HR432_0.out)⟩, ⟨by repeat (first | (with_reducible first | exact HB.out | apply below_alloc | apply pw_below_drewN | apply below_drew1 | refine below_set ?_ GE403.out) | exact HB.out)⟩⟩
                                      · replace c84 := Bool.eq_false_iff.mpr c84
                                        subst c84
                                        have H1 : (laws_FnDominators.l1 k4 l1 t404 t412 t420 x114_2 (rd_L1 t404 x114_2) t404 (t404.length : Int) x114_2 t420 (t420.length : Int) (wrap64 (x136_4 + 1)) t400) = some r := by rw [if_neg (show ¬ (false = true) by decide)] at H; exact H
                                        clear H
                                        have H := H1
                                        clear H1
                                        as_aux_lemma =>
                                          have H' := Aside0.mk H
                                          clear H
                                          have p437 : 0 ≤ (x136_4 : Int) := of_decide_eq_true (by first | (with_reducible assumption) | assumption)
                                          have q437 : x136_4 < (t420.length : Int) := of_decide_eq_true (by first | (with_reducible assumption) | assumption)
                                          obtain ⟨ad437, e437, hx437_0⟩ := Kd.at_int (Kd.R_reads' HO_134.out).2.2 x136_4 p437 q437
                                          cases e437
                                          replace p437 := eq_true p437
                                          replace q437 := eq_true q437
                                          have hcz94_0 : wr.cell? ⟨gb403, 0, none⟩ = some (.slice Ao14 t400.length co14) := (blk_cell BK403.out 0).trans rfl
                                          have hfz94_0 := blk_frozen BK403.out 0
                                          go_wp2_with (first | ((with_reducible refine gate_callee (f := 27) rfl ?_); refine goesL_ (some 143) rfl rfl Try.func27 (by kernel_rfl) rfl #[.agg #[.slice Ao14 t400.length co14], .int .i64 (rd t420 x136_4)] rfl (by (try simp only [List.map_toArray, List.map_cons, List.map_nil]); first | done | rfl | (simp only [List.length_drop, List.length_take]; rfl)) ?_; (with_reducible refine (impl_Without.calls _ _ t400 (rd t420 x136_4) t438 true _ ?side1 ?side2 A81.out).mono ?_); (case side1 => repeat (first | exact (Kd.S_reads' HO_404000.out).2.2 | (with_reducible refine Kd.C_alloc ?_ _) | (with_reducible refine Kd.C_drewN ?_ _) | (with_reducible refine Kd.C_drew ?_))); (case side2 => exact (Kd.S_reads' HO_404000.out).2.1); rintro e w95 ⟨v439, rfl, ho0, hb⟩; refine ⟨_, rfl, ?_⟩; have n0_ := Aside0.mk (Kd.S_elder' (by (with_reducible repeat (first | apply Kd.S_alloc | apply Kd.S_drewN | apply Kd.S_drew)); exact HO_6.out) (Kd.R_base ho0) hb); have n1_ := Aside0.mk (Kd.R_elder' (by (with_reducible repeat (first | apply Kd.R_alloc | apply Kd.R_drewN | apply Kd.R_drew)); exact HO_10.out) (Kd.R_base ho0) hb); have n2_ := Aside0.mk (Kd.R_elder' (by (with_reducible repeat (first | apply Kd.R_alloc | apply Kd.R_drewN | apply Kd.R_drew)); exact HO_14.out) (Kd.R_base ho0) hb); have n3_ := Aside0.mk (Kd.S_elder' (by (with_reducible repeat (first | apply Kd.S_alloc | apply Kd.S_drewN | apply Kd.S_drew)); exact HO_112.out) (Kd.R_base ho0) hb); have n4_ := Aside0.mk (Kd.R_elder' (by (with_reducible repeat (first | apply Kd.R_alloc | apply Kd.R_drewN | apply Kd.R_drew)); exact HO_134.out) (Kd.R_base ho0) hb); have n5_ := Aside0.mk (Kd.S_elder' (by (with_reducible repeat (first | apply Kd.S_alloc | apply Kd.S_drewN | apply Kd.S_drew)); exact HO_404000.out) (Kd.R_base ho0) hb); have n6_ := Aside0.mk (Kd.R_lower (Kd.R_new' (Kd.R_new' (Kd.R_new' ho0 (Kd.R_lt (by (with_reducible repeat (first | apply Kd.R_alloc | apply Kd.R_drewN | apply Kd.R_drew)); exact HO_10.out))) (Kd.R_lt (by (with_reducible repeat (first | apply Kd.R_alloc | apply Kd.R_drewN | apply Kd.R_drew)); exact HO_14.out))) (Kd.R_lt (by (with_reducible repeat (first | apply Kd.R_alloc | apply Kd.R_drewN | apply Kd.R_drew)); exact HO_134.out))) (below_size (by repeat (first | (with_reducible first | exact HB.out | apply below_alloc | apply pw_below_drewN | apply below_drew1 | refine below_set ?_ GE403.out) | exact HB.out)))); have n7_ := Aside0.mk (blk_below (g := gb403) (o := .cells #[.slice Ao14 t400.length co14] 27 (0, 0)) (by (with_reducible repeat (first | refine blk_drewN ?_ _ | refine blk_drew ?_ | refine blk_alloc ?_ _)); exact BK403.out) hb); have n8_ := Aside0.mk (Kd.C_below (by repeat (first | (with_reducible exact HR432_0.out) | (with_reducible refine Kd.C_alloc ?_ _) | (with_reducible refine Kd.C_drewN ?_ _) | (with_reducible refine Kd.C_drew ?_) | exact HR432_0.out)) hb); have n9_ := Aside0.mk (below_step (by repeat (first | (with_reducible first | exact HB.out | apply below_alloc | apply pw_below_drewN | apply below_drew1 | refine below_set ?_ GE403.out) | exact HB.out)) hb); clear HO_6; clear HO_10; clear HO_14; clear HO_112; clear HO_134; clear HO_404000; clear BK403; clear HR432_0; clear HB; have HO_6 := n0_; have HO_10 := n1_; have HO_14 := n2_; have HO_112 := n3_; have HO_134 := n4_; have HO_404000 := n5_; have HO440 := n6_; have BK403 := n7_; have HR432_0 := n8_; have HB := n9_; clear n0_ n1_ n2_ n3_ n4_ n5_ n6_ n7_ n8_ n9_; (try clear hb); (try clear hb2); (try clear hk); (try clear hi); (try clear ho0)) | (go_at_call 47; (with_reducible refine (laws_has.calls k4 _ _ t420 x114_2 false _ ?side1 ?side2 A83.out).mono ?_); (case side1 => repeat (first | exact (Kd.R_reads' HO_14.out).2.2 | (with_reducible refine Kd.C_alloc ?_ _) | (with_reducible refine Kd.C_drewN ?_ _) | (with_reducible refine Kd.C_drew ?_))); (case side2 => exact (Kd.R_reads' HO_14.out).2.1); rintro e w' ⟨rfl, ⟨nd, rfl⟩⟩))
                                          go_roundg k4
                                          case measure => have := HJ10.out; have := HK2.out; have := HJ67.out; have := HK4.out; omega
                                          case rel => exact ⟨(wrap64 (x136_4 + 1)), (by first | rfl | (simp; done) | (simp [*]; done)), H', ⟨by have := HJ10.out; have := HK2.out; have := HJ67.out; have := HK4.out; omega⟩, ⟨by (with_reducible repeat (first | apply Kd.S_alloc | apply Kd.S_drewN | apply Kd.S_drew)); exact Kd.S_mono HO_6.out (fun _ hk => ⟨hk.1.1, ⟨hk.1.2.1, ⟨hk.1.2.2.1, hk.1.2.2.2⟩⟩⟩)⟩, ⟨by (with_reducible repeat (first | apply Kd.R_alloc | apply Kd.R_drewN | apply Kd.R_drew)); exact Kd.R_mono HO_10.out (fun _ hk => ⟨hk.1.1, hk.1.2⟩)⟩, ⟨by (with_reducible repeat (first | apply Kd.R_alloc | apply Kd.R_drewN | apply Kd.R_drew)); exact Kd.R_mono HO_14.out (fun _ hk => hk.1)⟩, ⟨by (with_reducible repeat (first | apply Kd.S_alloc | apply Kd.S_drewN | apply Kd.S_drew)); exact Kd.S_mono HO_112.out (fun _ hk => ⟨hk.1.1, ⟨hk.1.2.1, ⟨hk.1.2.2.1, hk.1.2.2.2⟩⟩⟩)⟩, ⟨by (with_reducible repeat (first | apply Kd.R_alloc | apply Kd.R_drewN | apply Kd.R_drew)); exact Kd.R_mono HO_134.out (fun _ hk => hk.1)⟩, ⟨by (with_reducible repeat (first | apply Kd.S_alloc | apply Kd.S_drewN | apply Kd.S_drew)); exact Kd.S_mono HO_404000.out (fun _ hk => ⟨hk.1.1, ⟨hk.1.2.1, ⟨hk.1.2.2.1, ⟨hk.1.2.2.2.1, hk.1.2.2.2.2⟩⟩⟩⟩)⟩, ⟨by (with_reducible repeat (first | refine blk_drewN ?_ _ | refine blk_drew ?_ | refine blk_alloc ?_ _)); exact BK403.out⟩, ⟨by repeat (first | (with_reducible exact HR432_0.out) | (with_reducible refine Kd.C_alloc ?_ _) | (with_reducible refine Kd.C_drewN ?_ _) | (with_reducible refine Kd.C_drew ?_) | exact HR432_0.out)⟩, ⟨by repeat (first | (with_reducible first | exact HB.out | apply below_alloc | apply pw_below_drewN | apply below_drew1 | refine below_set ?_ GE403.out) | exact HB.out)⟩⟩
                                    · replace c82 := Bool.eq_false_iff.mpr c82
                                      subst c82
                                      have H1 : (some false) = some r := by rw [if_neg (show ¬ (false = true) by decide)] at H; exact H
                                      clear H
                                      have H := H1
                                      clear H1
                                      as_aux_lemma =>
                                        obtain rfl := Option.some.inj H
                                        have p437 : 0 ≤ (x136_4 : Int) := of_decide_eq_true (by first | (with_reducible assumption) | assumption)
                                        have q437 : x136_4 < (t420.length : Int) := of_decide_eq_true (by first | (with_reducible assumption) | assumption)
                                        obtain ⟨ad437, e437, hx437_0⟩ := Kd.at_int (Kd.R_reads' HO_134.out).2.2 x136_4 p437 q437
                                        cases e437
                                        replace p437 := eq_true p437
                                        replace q437 := eq_true q437
                                        have hcz96_0 : wr.cell? ⟨gb403, 0, none⟩ = some (.slice Ao14 t400.length co14) := (blk_cell BK403.out 0).trans rfl
                                        have hfz96_0 := blk_frozen BK403.out 0
                                        go_wp2_with (first | ((with_reducible refine gate_callee (f := 27) rfl ?_); refine goesL_ (some 143) rfl rfl Try.func27 (by kernel_rfl) rfl #[.agg #[.slice Ao14 t400.length co14], .int .i64 (rd t420 x136_4)] rfl (by (try simp only [List.map_toArray, List.map_cons, List.map_nil]); first | done | rfl | (simp only [List.length_drop, List.length_take]; rfl)) ?_; (with_reducible refine (impl_Without.calls _ _ t400 (rd t420 x136_4) t438 false _ ?side1 ?side2 A81.out).mono ?_); (case side1 => repeat (first | exact (Kd.S_reads' HO_404000.out).2.2 | (with_reducible refine Kd.C_alloc ?_ _) | (with_reducible refine Kd.C_drewN ?_ _) | (with_reducible refine Kd.C_drew ?_))); (case side2 => exact (Kd.S_reads' HO_404000.out).2.1); rintro e w97 ⟨v439, rfl, ho0, hb⟩; refine ⟨_, rfl, ?_⟩; have n0_ := Aside0.mk (Kd.S_elder' (by (with_reducible repeat (first | apply Kd.S_alloc | apply Kd.S_drewN | apply Kd.S_drew)); exact HO_6.out) (Kd.R_base ho0) hb); have n1_ := Aside0.mk (Kd.R_elder' (by (with_reducible repeat (first | apply Kd.R_alloc | apply Kd.R_drewN | apply Kd.R_drew)); exact HO_10.out) (Kd.R_base ho0) hb); have n2_ := Aside0.mk (Kd.R_elder' (by (with_reducible repeat (first | apply Kd.R_alloc | apply Kd.R_drewN | apply Kd.R_drew)); exact HO_14.out) (Kd.R_base ho0) hb); have n3_ := Aside0.mk (Kd.S_elder' (by (with_reducible repeat (first | apply Kd.S_alloc | apply Kd.S_drewN | apply Kd.S_drew)); exact HO_112.out) (Kd.R_base ho0) hb); have n4_ := Aside0.mk (Kd.R_elder' (by (with_reducible repeat (first | apply Kd.R_alloc | apply Kd.R_drewN | apply Kd.R_drew)); exact HO_134.out) (Kd.R_base ho0) hb); have n5_ := Aside0.mk (Kd.S_elder' (by (with_reducible repeat (first | apply Kd.S_alloc | apply Kd.S_drewN | apply Kd.S_drew)); exact HO_404000.out) (Kd.R_base ho0) hb); have n6_ := Aside0.mk (Kd.R_lower (Kd.R_new' (Kd.R_new' (Kd.R_new' ho0 (Kd.R_lt (by (with_reducible repeat (first | apply Kd.R_alloc | apply Kd.R_drewN | apply Kd.R_drew)); exact HO_10.out))) (Kd.R_lt (by (with_reducible repeat (first | apply Kd.R_alloc | apply Kd.R_drewN | apply Kd.R_drew)); exact HO_14.out))) (Kd.R_lt (by (with_reducible repeat (first | apply Kd.R_alloc | apply Kd.R_drewN | apply Kd.R_drew)); exact HO_134.out))) (below_size (by repeat (first | (with_reducible first | exact HB.out | apply below_alloc | apply pw_below_drewN | apply below_drew1 | refine below_set ?_ GE403.out) | exact HB.out)))); have n7_ := Aside0.mk (blk_below (g := gb403) (o := .cells #[.slice Ao14 t400.length co14] 27 (0, 0)) (by (with_reducible repeat (first | refine blk_drewN ?_ _ | refine blk_drew ?_ | refine blk_alloc ?_ _)); exact BK403.out) hb); have n8_ := Aside0.mk (Kd.C_below (by repeat (first | (with_reducible exact HR432_0.out) | (with_reducible refine Kd.C_alloc ?_ _) | (with_reducible refine Kd.C_drewN ?_ _) | (with_reducible refine Kd.C_drew ?_) | exact HR432_0.out)) hb); have n9_ := Aside0.mk (below_step (by repeat (first | (with_reducible first | exact HB.out | apply below_alloc | apply pw_below_drewN | apply below_drew1 | refine below_set ?_ GE403.out) | exact HB.out)) hb); clear HO_6; clear HO_10; clear HO_14; clear HO_112; clear HO_134; clear HO_404000; clear BK403; clear HR432_0; clear HB; have HO_6 := n0_; have HO_10 := n1_; have HO_14 := n2_; have HO_112 := n3_; have HO_134 := n4_; have HO_404000 := n5_; have HO440 := n6_; have BK403 := n7_; have HR432_0 := n8_; have HB := n9_; clear n0_ n1_ n2_ n3_ n4_ n5_ n6_ n7_ n8_ n9_; (try clear hb); (try clear hb2); (try clear hk); (try clear hi); (try clear ho0)))
                                        go_ret
                                        exact ⟨by first | rfl | (simp [errW_none, errW_some] <;> rfl) | (simp [*, errW_none, errW_some] <;> rfl), by repeat (first | (with_reducible first | exact HB.out | apply below_alloc | apply pw_below_drewN | apply below_drew1 | refine below_set ?_ GE403.out) | exact HB.out)⟩
                                  · rw [if_neg c80] at H
                                    exact absurd H (by simp)
                                · rw [if_neg c79] at H
                                  exact absurd H (by simp)
                              · rw [if_neg c78] at H
                                have c78b0 : decide (x136_4 < (t420.length : Int)) = false := decide_eq_false c78
                                clear c78
                                have H' := Aside0.mk H
                                clear H
                                go_wp2
                                go_loopg [165] k4 (fun kq v165 w' => ∃ (x165_5 : Int), v165 = .int .i64 x165_5 ∧ Aside0 (laws_FnDominators.l2 kq l1 t404 t412 t420 x114_2 (rd_L1 t404 x114_2) t404 (t404.length : Int) x114_2 (rd_L1 t404 x114_2) ((rd_L1 t404 x114_2).length : Int) x165_5 t400 = some r) ∧ Aside0 (kq ≤ k4) ∧ Aside0 (Kd.S (Kd.slice 3 (Kd.int .i64)) 31 w' w.heap.size (fun k_ => some k_ ≠ (v413 : Value).ownBlock ∧ some k_ ≠ ((.slice Ao77 t420.length co77) : Value).ownBlock ∧ some k_ ≠ ((.slice Ao14 t400.length co14) : Value).ownBlock) (.slice (some ad432) t404.length co64) t404) ∧ Aside0 (Kd.R (Kd.int .i64) 3 w' w.heap.size (fun k_ => some k_ ≠ ((.slice Ao77 t420.length co77) : Value).ownBlock) v413 t412) ∧ Aside0 (Kd.R (Kd.int .i64) 3 w' w.heap.size (fun k_ => some k_ ≠ (v413 : Value).ownBlock) (.slice Ao77 t420.length co77) t420) ∧ Aside0 (Kd.S (Kd.slice 3 (Kd.int .i64)) 31 w' w.heap.size (fun k_ => some k_ ≠ (v413 : Value).ownBlock ∧ some k_ ≠ ((.slice Ao77 t420.length co77) : Value).ownBlock ∧ some k_ ≠ ((.slice Ao14 t400.length co14) : Value).ownBlock) (.slice (some ad432) t404.length co64) t404) ∧ Aside0 (Kd.S (Kd.slice 3 (Kd.int .i64)) 31 w' w.heap.size (fun k_ => some k_ ≠ ((.slice (some ad432) t404.length co64) : Value).ownBlock ∧ some k_ ≠ (v413 : Value).ownBlock ∧ some k_ ≠ ((.slice Ao77 t420.length co77) : Value).ownBlock ∧ some k_ ≠ ((.slice (some ad432) t404.length co64) : Value).ownBlock) (.slice Ao14 t400.length co14) t400) ∧ Aside0 (w'.heap[gb403]? = some (.cells #[(.slice Ao14 t400.length co14)] 27 (0, 0))) ∧ Aside0 (Kd.C (Kd.int .i64) w' A432_0 (rd_L1 t404 x114_2).length (rd_L1 t404 x114_2)) ∧ Aside0 (Below w.heap.size w w'))
                                case atStart => exact ⟨(0), (by first | rfl | (simp; done) | (simp [*]; done)), H', ⟨Nat.le_refl _⟩, ⟨by (with_reducible repeat (first | apply Kd.S_alloc | apply Kd.S_drewN | apply Kd.S_drew)); exact Kd.S_mono HO_6.out (fun _ hk => ⟨hk.1, ⟨hk.2.1, hk.2.2.2⟩⟩)⟩, ⟨by (with_reducible repeat (first | apply Kd.R_alloc | apply Kd.R_drewN | apply Kd.R_drew)); exact Kd.R_mono HO_10.out (fun _ hk => hk.1)⟩, ⟨by (with_reducible repeat (first | apply Kd.R_alloc | apply Kd.R_drewN | apply Kd.R_drew)); exact HO_14.out⟩, ⟨by (with_reducible repeat (first | apply Kd.S_alloc | apply Kd.S_drewN | apply Kd.S_drew)); exact Kd.S_mono HO_112.out (fun _ hk => ⟨hk.1, ⟨hk.2.1, hk.2.2.2⟩⟩)⟩, ⟨by (with_reducible repeat (first | apply Kd.S_alloc | apply Kd.S_drewN | apply Kd.S_drew)); exact Kd.S_mono HO_404000.out (fun _ hk => ⟨hk.1, ⟨hk.2.1, ⟨hk.2.2.1, hk.2.2.2.1⟩⟩⟩)⟩, ⟨by (with_reducible repeat (first | refine blk_drewN ?_ _ | refine blk_drew ?_ | refine blk_alloc ?_ _)); exact BK403.out⟩, ⟨by repeat (first | (with_reducible exact HR432_0.out) | (with_reducible refine Kd.C_alloc ?_ _) | (with_reducible refine Kd.C_drewN ?_ _) | (with_reducible refine Kd.C_drew ?_) | exact HR432_0.out)⟩, ⟨by repeat (first | (with_reducible first | exact HB.out | apply below_alloc | apply pw_below_drewN | apply below_drew1 | refine below_set ?_ GE403.out) | exact HB.out)⟩⟩
                                case round => as_aux_lemma =>
                                  clear H'
                                  try clear c1
                                  try clear c2
                                  try clear p2
                                  try clear c3
                                  try clear c3b0
                                  try clear c4
                                  try clear p4
                                  try clear q4
                                  try clear hx4
                                  try clear c6
                                  try clear p6
                                  try clear c7
                                  try clear c8
                                  try clear c12
                                  try clear c20
                                  try clear c21
                                  try clear c27
                                  try clear c27b0
                                  try clear c27b1
                                  try clear c27b2
                                  try clear c29
                                  try clear c30
                                  try clear c30b0
                                  try clear c30b1
                                  try clear c30b2
                                  try clear c34
                                  try clear c35
                                  try clear c35b0
                                  try clear c35b1
                                  try clear c35b2
                                  try clear c36
                                  try clear c37
                                  try clear c40
                                  try clear c41
                                  try clear c43
                                  try clear p43
                                  try clear q43
                                  try clear hx43
                                  try clear c44
                                  try clear c47
                                  try clear c63
                                  try clear p64
                                  try clear c65
                                  try clear c65b0
                                  try clear c66
                                  try clear c66b0
                                  try clear c67
                                  try clear c67b0
                                  try clear c71
                                  try clear c71b0
                                  try clear c71b1
                                  try clear c71b2
                                  try clear c76
                                  try clear c78
                                  try clear c78b0
                                  try clear c79
                                  try clear c79b0
                                  try clear c80
                                  try clear c80b0
                                  try clear c82
                                  try clear c84
                                  try clear c87
                                  try clear c87b0
                                  try clear c87b1
                                  try clear c87b2
                                  try clear hcz15_0
                                  try clear hcz17_0
                                  try clear hcz19_0
                                  try clear hcz21_0
                                  try clear hcz23_0
                                  try clear hcz25_0
                                  try clear hcz49_0
                                  try clear hcz88_0
                                  try clear hcz91_0
                                  try clear hcz94_0
                                  try clear hcz96_0
                                  try clear hfz15_0
                                  try clear hfz17_0
                                  try clear hfz19_0
                                  try clear hfz21_0
                                  try clear hfz23_0
                                  try clear hfz25_0
                                  try clear hfz49_0
                                  try clear hfz88_0
                                  try clear hfz91_0
                                  try clear hfz94_0
                                  try clear hfz96_0
                                  try clear hx432_0
                                  try clear hx437_0
                                  try clear p2
                                  try clear p4
                                  try clear p43
                                  try clear p432
                                  try clear p437
                                  try clear p6
                                  try clear p64
                                  try clear q4
                                  try clear q43
                                  try clear q432
                                  try clear q437
                                  obtain ⟨x165_5, rfl, HA, HK5, HO_6, HO_10, HO_14, HO_112, HO_404000, BK403, HR432_0, HB⟩ := hrel
                                  cases gk with
                                  | zero => exact absurd HA.out (by simp [laws_FnDominators.l2])
                                  | succ k5 =>
                                    have H := HA.out
                                    clear HA
                                    simp only [laws_FnDominators.l2] at H
                                    by_cases c98 : x165_5 < ((rd_L1 t404 x114_2).length : Int)
                                    · rw [if_pos c98] at H
                                      have c98b0 : decide (x165_5 < ((rd_L1 t404 x114_2).length : Int)) = true := decide_eq_true c98
                                      clear c98
                                      by_cases c99 : 0 ≤ x165_5
                                      · rw [if_pos c99] at H
                                        have c99b0 : decide (0 ≤ x165_5) = true := decide_eq_true c99
                                        clear c99
                                        by_cases c100 : x165_5 < ((rd_L1 t404 x114_2).length : Int)
                                        · rw [if_pos c100] at H
                                          have c100b0 : decide (x165_5 < ((rd_L1 t404 x114_2).length : Int)) = true := decide_eq_true c100
                                          clear c100
                                          have H' := Aside0.mk H
                                          clear H
                                          have p445 : 0 ≤ (x165_5 : Int) := of_decide_eq_true (by first | (with_reducible assumption) | assumption)
                                          have q445 : x165_5 < ((rd_L1 t404 x114_2).length : Int) := of_decide_eq_true (by first | (with_reducible assumption) | assumption)
                                          obtain ⟨ad445, e445, hx445_0⟩ := Kd.at_int HR432_0.out x165_5 p445 q445
                                          cases e445
                                          try with_reducible replace hx445_0 := (HB.out.cell (World.block_lt_of_cell? w _ hx445_0)).trans hx445_0
                                          replace p445 := eq_true p445
                                          replace q445 := eq_true q445
                                          go_wp2
                                          go_loopg [171] k5 (fun kq v171 w' => ∃ (x171_6 : Int), v171 = .int .i64 x171_6 ∧ Aside0 (laws_FnDominators.l3 kq l1 t404 t412 t420 x114_2 (rd_L1 t404 x114_2) (rd (rd_L1 t404 x114_2) x165_5) t404 (t404.length : Int) x114_2 (rd_L1 t404 x114_2) ((rd_L1 t404 x114_2).length : Int) x165_5 (rd_L1 t404 x114_2) ((rd_L1 t404 x114_2).length : Int) x171_6 t400 = some r) ∧ Aside0 (kq ≤ k5) ∧ Aside0 (Kd.S (Kd.slice 3 (Kd.int .i64)) 31 w' w.heap.size (fun k_ => some k_ ≠ (v413 : Value).ownBlock ∧ some k_ ≠ ((.slice Ao77 t420.length co77) : Value).ownBlock ∧ some k_ ≠ ((.slice Ao14 t400.length co14) : Value).ownBlock) (.slice (some ad432) t404.length co64) t404) ∧ Aside0 (Kd.R (Kd.int .i64) 3 w' w.heap.size (fun k_ => some k_ ≠ ((.slice Ao77 t420.length co77) : Value).ownBlock) v413 t412) ∧ Aside0 (Kd.R (Kd.int .i64) 3 w' w.heap.size (fun k_ => some k_ ≠ (v413 : Value).ownBlock) (.slice Ao77 t420.length co77) t420) ∧ Aside0 (Kd.S (Kd.slice 3 (Kd.int .i64)) 31 w' w.heap.size (fun k_ => some k_ ≠ (v413 : Value).ownBlock ∧ some k_ ≠ ((.slice Ao77 t420.length co77) : Value).ownBlock ∧ some k_ ≠ ((.slice Ao14 t400.length co14) : Value).ownBlock) (.slice (some ad432) t404.length co64) t404) ∧ Aside0 (Kd.S (Kd.slice 3 (Kd.int .i64)) 31 w' w.heap.size (fun k_ => some k_ ≠ ((.slice (some ad432) t404.length co64) : Value).ownBlock ∧ some k_ ≠ (v413 : Value).ownBlock ∧ some k_ ≠ ((.slice Ao77 t420.length co77) : Value).ownBlock ∧ some k_ ≠ ((.slice (some ad432) t404.length co64) : Value).ownBlock) (.slice Ao14 t400.length co14) t400) ∧ Aside0 (w'.heap[gb403]? = some (.cells #[(.slice Ao14 t400.length co14)] 27 (0, 0))) ∧ Aside0 (Kd.C (Kd.int .i64) w' (some ad445) (rd_L1 t404 x114_2).length (rd_L1 t404 x114_2)) ∧ Aside0 (Below w.heap.size w w'))
                                          case atStart => exact ⟨(0), (by first | rfl | (simp; done) | (simp [*]; done)), H', ⟨Nat.le_refl _⟩, ⟨by (with_reducible repeat (first | apply Kd.S_alloc | apply Kd.S_drewN | apply Kd.S_drew)); exact HO_6.out⟩, ⟨by (with_reducible repeat (first | apply Kd.R_alloc | apply Kd.R_drewN | apply Kd.R_drew)); exact HO_10.out⟩, ⟨by (with_reducible repeat (first | apply Kd.R_alloc | apply Kd.R_drewN | apply Kd.R_drew)); exact HO_14.out⟩, ⟨by (with_reducible repeat (first | apply Kd.S_alloc | apply Kd.S_drewN | apply Kd.S_drew)); exact HO_112.out⟩, ⟨by (with_reducible repeat (first | apply Kd.S_alloc | apply Kd.S_drewN | apply Kd.S_drew)); exact HO_404000.out⟩, ⟨by (with_reducible repeat (first | refine blk_drewN ?_ _ | refine blk_drew ?_ | refine blk_alloc ?_ _)); exact BK403.out⟩, ⟨by repeat (first | (with_reducible exact HR432_0.out) | (with_reducible refine Kd.C_alloc ?_ _) | (with_reducible refine Kd.C_drewN ?_ _) | (with_reducible refine Kd.C_drew ?_) | exact HR432_0.out)⟩, ⟨by repeat (first | (with_reducible first | exact HB.out | apply below_alloc | apply pw_below_drewN | apply below_drew1 | refine below_set ?_ GE403.out) | exact HB.out)⟩⟩
                                          case round => as_aux_lemma =>
                                            clear H'
                                            try clear c1
                                            try clear c2
                                            try clear p2
                                            try clear c3
                                            try clear c3b0
                                            try clear c4
                                            try clear p4
                                            try clear q4
                                            try clear hx4
                                            try clear c6
                                            try clear p6
                                            try clear c7
                                            try clear c8
                                            try clear c9
                                            try clear c10
                                            try clear c12
                                            try clear c20
                                            try clear c21
                                            try clear c27
                                            try clear c27b0
                                            try clear c27b1
                                            try clear c27b2
                                            try clear c29
                                            try clear c30
                                            try clear c30b0
                                            try clear c30b1
                                            try clear c30b2
                                            try clear c34
                                            try clear c35
                                            try clear c35b0
                                            try clear c35b1
                                            try clear c35b2
                                            try clear c36
                                            try clear c37
                                            try clear c40
                                            try clear c41
                                            try clear c43
                                            try clear p43
                                            try clear q43
                                            try clear hx43
                                            try clear c44
                                            try clear p44
                                            try clear q44
                                            try clear hx44
                                            try clear c47
                                            try clear c63
                                            try clear p64
                                            try clear c65
                                            try clear c65b0
                                            try clear c66
                                            try clear c66b0
                                            try clear c67
                                            try clear c67b0
                                            try clear c71
                                            try clear c71b0
                                            try clear c71b1
                                            try clear c71b2
                                            try clear c76
                                            try clear c78
                                            try clear c78b0
                                            try clear c79
                                            try clear c79b0
                                            try clear c80
                                            try clear c80b0
                                            try clear c82
                                            try clear c84
                                            try clear c87
                                            try clear c87b0
                                            try clear c87b1
                                            try clear c87b2
                                            try clear c98
                                            try clear c98b0
                                            try clear c99
                                            try clear c99b0
                                            try clear c100
                                            try clear c100b0
                                            try clear hcz15_0
                                            try clear hcz17_0
                                            try clear hcz19_0
                                            try clear hcz21_0
                                            try clear hcz23_0
                                            try clear hcz25_0
                                            try clear hcz49_0
                                            try clear hcz88_0
                                            try clear hcz91_0
                                            try clear hcz94_0
                                            try clear hcz96_0
                                            try clear hfz15_0
                                            try clear hfz17_0
                                            try clear hfz19_0
                                            try clear hfz21_0
                                            try clear hfz23_0
                                            try clear hfz25_0
                                            try clear hfz49_0
                                            try clear hfz88_0
                                            try clear hfz91_0
                                            try clear hfz94_0
                                            try clear hfz96_0
                                            try clear hx432_0
                                            try clear hx437_0
                                            try clear hx445_0
                                            try clear p2
                                            try clear p4
                                            try clear p43
                                            try clear p432
                                            try clear p437
                                            try clear p445
                                            try clear p6
                                            try clear p64
                                            try clear q4
                                            try clear q43
                                            try clear q432
                                            try clear q437
                                            try clear q445
                                            obtain ⟨x171_6, rfl, HA, HK6, HO_6, HO_10, HO_14, HO_112, HO_404000, BK403, HR432_0, HB⟩ := hrel
                                            cases gk with
                                            | zero => exact absurd HA.out (by simp [laws_FnDominators.l3])
                                            | succ k6 =>
                                              have H := HA.out
                                              clear HA
                                              simp only [laws_FnDominators.l3] at H
                                              by_cases c101 : x171_6 < ((rd_L1 t404 x114_2).length : Int)
                                              · rw [if_pos c101] at H
                                                have c101b0 : decide (x171_6 < ((rd_L1 t404 x114_2).length : Int)) = true := decide_eq_true c101
                                                clear c101
                                                by_cases c102 : 0 ≤ x171_6
                                                · rw [if_pos c102] at H
                                                  have c102b0 : decide (0 ≤ x171_6) = true := decide_eq_true c102
                                                  clear c102
                                                  by_cases c103 : x171_6 < ((rd_L1 t404 x114_2).length : Int)
                                                  · rw [if_pos c103] at H
                                                    have c103b0 : decide (x171_6 < ((rd_L1 t404 x114_2).length : Int)) = true := decide_eq_true c103
                                                    clear c103
                                                    by_cases c104 : 0 ≤ (rd (rd_L1 t404 x114_2) x165_5)
                                                    · rw [if_pos c104] at H
                                                      have c104b0 : decide (0 ≤ (rd (rd_L1 t404 x114_2) x165_5)) = true := decide_eq_true c104
                                                      clear c104
                                                      by_cases c105 : (rd (rd_L1 t404 x114_2) x165_5) < (t404.length : Int)
                                                      · rw [if_pos c105] at H
                                                        have c105b0 : decide ((rd (rd_L1 t404 x114_2) x165_5) < (t404.length : Int)) = true := decide_eq_true c105
                                                        clear c105
                                                        replace H := Option.bind_eq_some_iff.mp H
                                                        obtain ⟨t448, A1060, H⟩ := H
                                                        replace H : (if t448 = true then (laws_FnDominators.l3 k6 l1 t404 t412 t420 x114_2 (rd_L1 t404 x114_2) (rd (rd_L1 t404 x114_2) x165_5) t404 (t404.length : Int) x114_2 (rd_L1 t404 x114_2) ((rd_L1 t404 x114_2).length : Int) x165_5 (rd_L1 t404 x114_2) ((rd_L1 t404 x114_2).length : Int) (wrap64 (x171_6 + 1)) t400) else (if 0 ≤ (rd (rd_L1 t404 x114_2) x171_6) then (if (rd (rd_L1 t404 x114_2) x171_6) < (t404.length : Int) then ((laws_has.f k6 (rd_L1 t404 (rd (rd_L1 t404 x114_2) x171_6)) (rd (rd_L1 t404 x114_2) x165_5)).bind fun t450 => (if t450 = true then (laws_FnDominators.l3 k6 l1 t404 t412 t420 x114_2 (rd_L1 t404 x114_2) (rd (rd_L1 t404 x114_2) x165_5) t404 (t404.length : Int) x114_2 (rd_L1 t404 x114_2) ((rd_L1 t404 x114_2).length : Int) x165_5 (rd_L1 t404 x114_2) ((rd_L1 t404 x114_2).length : Int) (wrap64 (x171_6 + 1)) t400) else (some false))) else (none)) else (none))) = some r := H
                                                        have A106 := Aside0.mk A1060
                                                        clear A1060
                                                        by_cases c107 : t448 = true
                                                        · subst c107
                                                          have H1 : (laws_FnDominators.l3 k6 l1 t404 t412 t420 x114_2 (rd_L1 t404 x114_2) (rd (rd_L1 t404 x114_2) x165_5) t404 (t404.length : Int) x114_2 (rd_L1 t404 x114_2) ((rd_L1 t404 x114_2).length : Int) x165_5 (rd_L1 t404 x114_2) ((rd_L1 t404 x114_2).length : Int) (wrap64 (x171_6 + 1)) t400) = some r := by rw [if_pos rfl] at H; exact H
                                                          clear H
                                                          have H := H1
                                                          clear H1
                                                          as_aux_lemma =>
                                                            have H' := Aside0.mk H
                                                            clear H
                                                            have p446 : 0 ≤ (x171_6 : Int) := of_decide_eq_true (by first | (with_reducible assumption) | assumption)
                                                            have q446 : x171_6 < ((rd_L1 t404 x114_2).length : Int) := of_decide_eq_true (by first | (with_reducible assumption) | assumption)
                                                            obtain ⟨ad446, e446, hx446_0⟩ := Kd.at_int HR432_0.out x171_6 p446 q446
                                                            obtain rfl : ad445 = ad446 := (by injection e446)
                                                            try with_reducible replace hx446_0 := (HB.out.cell (World.block_lt_of_cell? w _ hx446_0)).trans hx446_0
                                                            replace p446 := eq_true p446
                                                            replace q446 := eq_true q446
                                                            have p447 : 0 ≤ ((rd (rd_L1 t404 x114_2) x165_5) : Int) := of_decide_eq_true (by first | (with_reducible assumption) | assumption)
                                                            have q447 : (rd (rd_L1 t404 x114_2) x165_5) < (t404.length : Int) := of_decide_eq_true (by first | (with_reducible assumption) | assumption)
                                                            obtain ⟨ad447, A447_0, c447_0, e447, hx447_0, hl447_0, hi447_0⟩ := at_L1 (Kd.S_reads' HO_6.out).2.2 (rd (rd_L1 t404 x114_2) x165_5) p447 q447
                                                            obtain rfl : ad432 = ad447 := (by injection e447)
                                                            obtain ⟨ce447, hce447, hMe447, hcc447⟩ := Kd.S_get HO_6.out [] (rd (rd_L1 t404 x114_2) x165_5) p447 (by first | exact q447 | exact of_decide_eq_true (by first | (with_reducible assumption) | assumption) | (have e_ := (Kd.S_reads' HO_6.out).1; omega))
                                                            obtain ⟨ve447_0, rfl, ge447_0⟩ := hMe447
                                                            have hv447_0 := hcc447 0 _ rfl
                                                            rw [Nat.add_zero, show ((Kd.slice 3 (Kd.int .i64))).sz = 1 from rfl, Nat.mul_one] at hv447_0
                                                            replace hv447_0 := Option.some.inj (hv447_0.symm.trans hx447_0)
                                                            rw [hv447_0] at ge447_0
                                                            have HL447_0 := Aside0.mk (show Kd.R (Kd.int .i64) 3 _ _ _ _ (rd_L1 t404 (rd (rd_L1 t404 x114_2) x165_5)) from ge447_0)
                                                            clear hv447_0 ge447_0
                                                            clear hcc447 hce447
                                                            have HR447_0 := Aside0.mk hi447_0
                                                            have HC447_0 := Aside0.mk hl447_0
                                                            clear hi447_0 hl447_0
                                                            replace p447 := eq_true p447
                                                            replace q447 := eq_true q447
                                                            go_wp2_with (first | ((with_reducible refine gate_callee (f := 47) rfl ?_); refine goesL_ (some 180) rfl rfl Try.func47 (by kernel_rfl) rfl #[.slice A447_0 (rd_L1 t404 (rd (rd_L1 t404 x114_2) x165_5)).length c447_0, .int .i64 (rd (rd_L1 t404 x114_2) x171_6)] rfl (by (try simp only [List.map_toArray, List.map_cons, List.map_nil]); first | done | rfl | (simp only [List.length_drop, List.length_take]; rfl)) ?_; (with_reducible refine (laws_has.calls k6 _ _ (rd_L1 t404 (rd (rd_L1 t404 x114_2) x165_5)) (rd (rd_L1 t404 x114_2) x171_6) true _ ?side1 ?side2 A106.out).mono ?_); (case side1 => repeat (first | exact (by repeat (first | (with_reducible exact HR447_0.out) | (with_reducible refine Kd.C_alloc ?_ _) | (with_reducible refine Kd.C_drewN ?_ _) | (with_reducible refine Kd.C_drew ?_) | exact HR447_0.out)) | (with_reducible refine Kd.C_alloc ?_ _) | (with_reducible refine Kd.C_drewN ?_ _) | (with_reducible refine Kd.C_drew ?_))); (case side2 => exact HC447_0.out); rintro e w' ⟨rfl, ⟨nd, rfl⟩⟩; refine ⟨_, rfl, ?_⟩))
                                                            go_roundg k6
                                                            case measure => have := HJ10.out; have := HK2.out; have := HJ67.out; have := HK4.out; have := HK5.out; have := HK6.out; omega
                                                            case rel => exact ⟨(wrap64 (x171_6 + 1)), (by first | rfl | (simp; done) | (simp [*]; done)), H', ⟨by have := HJ10.out; have := HK2.out; have := HJ67.out; have := HK4.out; have := HK5.out; have := HK6.out; omega⟩, ⟨by (with_reducible repeat (first | apply Kd.S_alloc | apply Kd.S_drewN | apply Kd.S_drew)); exact HO_6.out⟩, ⟨by (with_reducible repeat (first | apply Kd.R_alloc | apply Kd.R_drewN | apply Kd.R_drew)); exact HO_10.out⟩, ⟨by (with_reducible repeat (first | apply Kd.R_alloc | apply Kd.R_drewN | apply Kd.R_drew)); exact HO_14.out⟩, ⟨by (with_reducible repeat (first | apply Kd.S_alloc | apply Kd.S_drewN | apply Kd.S_drew)); exact HO_112.out⟩, ⟨by (with_reducible repeat (first | apply Kd.S_alloc | apply Kd.S_drewN | apply Kd.S_drew)); exact HO_404000.out⟩, ⟨by (with_reducible repeat (first | refine blk_drewN ?_ _ | refine blk_drew ?_ | refine blk_alloc ?_ _)); exact BK403.out⟩, ⟨by repeat (first | (with_reducible exact HR432_0.out) | (with_reducible refine Kd.C_alloc ?_ _) | (with_reducible refine Kd.C_drewN ?_ _) | (with_reducible refine Kd.C_drew ?_) | exact HR432_0.out)⟩, ⟨by repeat (first | (with_reducible first | exact HB.out | apply below_alloc | apply pw_below_drewN | apply below_drew1 | refine below_set ?_ GE403.out) | exact HB.out)⟩⟩
                                                        · replace c107 := Bool.eq_false_iff.mpr c107
                                                          subst c107
                                                          have H1 : (if 0 ≤ (rd (rd_L1 t404 x114_2) x171_6) then (if (rd (rd_L1 t404 x114_2) x171_6) < (t404.length : Int) then ((laws_has.f k6 (rd_L1 t404 (rd (rd_L1 t404 x114_2) x171_6)) (rd (rd_L1 t404 x114_2) x165_5)).bind fun t450 => (if t450 = true then (laws_FnDominators.l3 k6 l1 t404 t412 t420 x114_2 (rd_L1 t404 x114_2) (rd (rd_L1 t404 x114_2) x165_5) t404 (t404.length : Int) x114_2 (rd_L1 t404 x114_2) ((rd_L1 t404 x114_2).length : Int) x165_5 (rd_L1 t404 x114_2) ((rd_L1 t404 x114_2).length : Int) (wrap64 (x171_6 + 1)) t400) else (some false))) else (none)) else (none)) = some r := by rw [if_neg (show ¬ (false = true) by decide)] at H; exact H
                                                          clear H
                                                          have H := H1
                                                          clear H1
                                                          by_cases c108 : 0 ≤ (rd (rd_L1 t404 x114_2) x171_6)
                                                          · rw [if_pos c108] at H
                                                            have c108b0 : decide (0 ≤ (rd (rd_L1 t404 x114_2) x171_6)) = true := decide_eq_true c108
                                                            clear c108
                                                            by_cases c109 : (rd (rd_L1 t404 x114_2) x171_6) < (t404.length : Int)
                                                            · rw [if_pos c109] at H
                                                              have c109b0 : decide ((rd (rd_L1 t404 x114_2) x171_6) < (t404.length : Int)) = true := decide_eq_true c109
                                                              clear c109
                                                              replace H := Option.bind_eq_some_iff.mp H
                                                              obtain ⟨t450, A1100, H⟩ := H
                                                              replace H : (if t450 = true then (laws_FnDominators.l3 k6 l1 t404 t412 t420 x114_2 (rd_L1 t404 x114_2) (rd (rd_L1 t404 x114_2) x165_5) t404 (t404.length : Int) x114_2 (rd_L1 t404 x114_2) ((rd_L1 t404 x114_2).length : Int) x165_5 (rd_L1 t404 x114_2) ((rd_L1 t404 x114_2).length : Int) (wrap64 (x171_6 + 1)) t400) else (some false)) = some r := H
                                                              have A110 := Aside0.mk A1100
                                                              clear A1100
                                                              by_cases c111 : t450 = true
                                                              · subst c111
                                                                have H1 : (laws_FnDominators.l3 k6 l1 t404 t412 t420 x114_2 (rd_L1 t404 x114_2) (rd (rd_L1 t404 x114_2) x165_5) t404 (t404.length : Int) x114_2 (rd_L1 t404 x114_2) ((rd_L1 t404 x114_2).length : Int) x165_5 (rd_L1 t404 x114_2) ((rd_L1 t404 x114_2).length : Int) (wrap64 (x171_6 + 1)) t400) = some r := by rw [if_pos rfl] at H; exact H
                                                                clear H
                                                                have H := H1
                                                                clear H1
                                                                as_aux_lemma =>
                                                                  have H' := Aside0.mk H
                                                                  clear H
                                                                  have p446 : 0 ≤ (x171_6 : Int) := of_decide_eq_true (by first | (with_reducible assumption) | assumption)
                                                                  have q446 : x171_6 < ((rd_L1 t404 x114_2).length : Int) := of_decide_eq_true (by first | (with_reducible assumption) | assumption)
                                                                  obtain ⟨ad446, e446, hx446_0⟩ := Kd.at_int HR432_0.out x171_6 p446 q446
                                                                  obtain rfl : ad445 = ad446 := (by injection e446)
                                                                  try with_reducible replace hx446_0 := (HB.out.cell (World.block_lt_of_cell? w _ hx446_0)).trans hx446_0
                                                                  replace p446 := eq_true p446
                                                                  replace q446 := eq_true q446
                                                                  have p447 : 0 ≤ ((rd (rd_L1 t404 x114_2) x165_5) : Int) := of_decide_eq_true (by first | (with_reducible assumption) | assumption)
                                                                  have q447 : (rd (rd_L1 t404 x114_2) x165_5) < (t404.length : Int) := of_decide_eq_true (by first | (with_reducible assumption) | assumption)
                                                                  obtain ⟨ad447, A447_0, c447_0, e447, hx447_0, hl447_0, hi447_0⟩ := at_L1 (Kd.S_reads' HO_6.out).2.2 (rd (rd_L1 t404 x114_2) x165_5) p447 q447
                                                                  obtain rfl : ad432 = ad447 := (by injection e447)
                                                                  obtain ⟨ce447, hce447, hMe447, hcc447⟩ := Kd.S_get HO_6.out [] (rd (rd_L1 t404 x114_2) x165_5) p447 (by first | exact q447 | exact of_decide_eq_true (by first | (with_reducible assumption) | assumption) | (have e_ := (Kd.S_reads' HO_6.out).1; omega))
                                                                  obtain ⟨ve447_0, rfl, ge447_0⟩ := hMe447
                                                                  have hv447_0 := hcc447 0 _ rfl
                                                                  rw [Nat.add_zero, show ((Kd.slice 3 (Kd.int .i64))).sz = 1 from rfl, Nat.mul_one] at hv447_0
                                                                  replace hv447_0 := Option.some.inj (hv447_0.symm.trans hx447_0)
                                                                  rw [hv447_0] at ge447_0
                                                                  have HL447_0 := Aside0.mk (show Kd.R (Kd.int .i64) 3 _ _ _ _ (rd_L1 t404 (rd (rd_L1 t404 x114_2) x165_5)) from ge447_0)
                                                                  clear hv447_0 ge447_0
                                                                  clear hcc447 hce447
                                                                  have HR447_0 := Aside0.mk hi447_0
                                                                  have HC447_0 := Aside0.mk hl447_0
                                                                  clear hi447_0 hl447_0
                                                                  replace p447 := eq_true p447
                                                                  replace q447 := eq_true q447
                                                                  go_wp2_with (first | ((with_reducible refine gate_callee (f := 47) rfl ?_); refine goesL_ (some 180) rfl rfl Try.func47 (by kernel_rfl) rfl #[.slice A447_0 (rd_L1 t404 (rd (rd_L1 t404 x114_2) x165_5)).length c447_0, .int .i64 (rd (rd_L1 t404 x114_2) x171_6)] rfl (by (try simp only [List.map_toArray, List.map_cons, List.map_nil]); first | done | rfl | (simp only [List.length_drop, List.length_take]; rfl)) ?_; (with_reducible refine (laws_has.calls k6 _ _ (rd_L1 t404 (rd (rd_L1 t404 x114_2) x165_5)) (rd (rd_L1 t404 x114_2) x171_6) false _ ?side1 ?side2 A106.out).mono ?_); (case side1 => repeat (first | exact (by repeat (first | (with_reducible exact HR447_0.out) | (with_reducible refine Kd.C_alloc ?_ _) | (with_reducible refine Kd.C_drewN ?_ _) | (with_reducible refine Kd.C_drew ?_) | exact HR447_0.out)) | (with_reducible refine Kd.C_alloc ?_ _) | (with_reducible refine Kd.C_drewN ?_ _) | (with_reducible refine Kd.C_drew ?_))); (case side2 => exact HC447_0.out); rintro e w' ⟨rfl, ⟨nd, rfl⟩⟩; refine ⟨_, rfl, ?_⟩; have p449 : 0 ≤ ((rd (rd_L1 t404 x114_2) x171_6) : Int) := of_decide_eq_true (by first | (with_reducible assumption) | assumption); have q449 : (rd (rd_L1 t404 x114_2) x171_6) < (t404.length : Int) := of_decide_eq_true (by first | (with_reducible assumption) | assumption); obtain ⟨ad449, A449_0, c449_0, e449, hx449_0, hl449_0, hi449_0⟩ := at_L1 (Kd.S_reads' HO_6.out).2.2 (rd (rd_L1 t404 x114_2) x171_6) p449 q449; obtain rfl : ad432 = ad449 := (by injection e449); obtain ⟨ce449, hce449, hMe449, hcc449⟩ := Kd.S_get HO_6.out [] (rd (rd_L1 t404 x114_2) x171_6) p449 (by first | exact q449 | exact of_decide_eq_true (by first | (with_reducible assumption) | assumption) | (have e_ := (Kd.S_reads' HO_6.out).1; omega)); obtain ⟨ve449_0, rfl, ge449_0⟩ := hMe449; have hv449_0 := hcc449 0 _ rfl; rw [Nat.add_zero, show ((Kd.slice 3 (Kd.int .i64))).sz = 1 from rfl, Nat.mul_one] at hv449_0; replace hv449_0 := Option.some.inj (hv449_0.symm.trans hx449_0); rw [hv449_0] at ge449_0; have HL449_0 := Aside0.mk (show Kd.R (Kd.int .i64) 3 _ _ _ _ (rd_L1 t404 (rd (rd_L1 t404 x114_2) x171_6)) from ge449_0); clear hv449_0 ge449_0; clear hcc449 hce449; have HR449_0 := Aside0.mk hi449_0; have HC449_0 := Aside0.mk hl449_0; clear hi449_0 hl449_0; replace p449 := eq_true p449; replace q449 := eq_true q449) | (go_at_call 47; (with_reducible refine (laws_has.calls k6 _ _ (rd_L1 t404 (rd (rd_L1 t404 x114_2) x171_6)) (rd (rd_L1 t404 x114_2) x165_5) true _ ?side1 ?side2 A110.out).mono ?_); (case side1 => repeat (first | exact (by repeat (first | (with_reducible exact HR449_0.out) | (with_reducible refine Kd.C_alloc ?_ _) | (with_reducible refine Kd.C_drewN ?_ _) | (with_reducible refine Kd.C_drew ?_) | exact HR449_0.out)) | (with_reducible refine Kd.C_alloc ?_ _) | (with_reducible refine Kd.C_drewN ?_ _) | (with_reducible refine Kd.C_drew ?_))); (case side2 => exact HC449_0.out); rintro e w' ⟨rfl, ⟨nd, rfl⟩⟩))
                                                                  go_roundg k6
                                                                  case measure => have := HJ10.out; have := HK2.out; have := HJ67.out; have := HK4.out; have := HK5.out; have := HK6.out; omega
                                                                  case rel => exact ⟨(wrap64 (x171_6 + 1)), (by first | rfl | (simp; done) | (simp [*]; done)), H', ⟨by have := HJ10.out; have := HK2.out; have := HJ67.out; have := HK4.out; have := HK5.out; have := HK6.out; omega⟩, ⟨by (with_reducible repeat (first | apply Kd.S_alloc | apply Kd.S_drewN | apply Kd.S_drew)); exact HO_6.out⟩, ⟨by (with_reducible repeat (first | apply Kd.R_alloc | apply Kd.R_drewN | apply Kd.R_drew)); exact HO_10.out⟩, ⟨by (with_reducible repeat (first | apply Kd.R_alloc | apply Kd.R_drewN | apply Kd.R_drew)); exact HO_14.out⟩, ⟨by (with_reducible repeat (first | apply Kd.S_alloc | apply Kd.S_drewN | apply Kd.S_drew)); exact HO_112.out⟩, ⟨by (with_reducible repeat (first | apply Kd.S_alloc | apply Kd.S_drewN | apply Kd.S_drew)); exact HO_404000.out⟩, ⟨by (with_reducible repeat (first | refine blk_drewN ?_ _ | refine blk_drew ?_ | refine blk_alloc ?_ _)); exact BK403.out⟩, ⟨by repeat (first | (with_reducible exact HR432_0.out) | (with_reducible refine Kd.C_alloc ?_ _) | (with_reducible refine Kd.C_drewN ?_ _) | (with_reducible refine Kd.C_drew ?_) | exact HR432_0.out)⟩, ⟨by repeat (first | (with_reducible first | exact HB.out | apply below_alloc | apply pw_below_drewN | apply below_drew1 | refine below_set ?_ GE403.out) | exact HB.out)⟩⟩
                                                              · replace c111 := Bool.eq_false_iff.mpr c111
                                                                subst c111
                                                                have H1 : (some false) = some r := by rw [if_neg (show ¬ (false = true) by decide)] at H; exact H
                                                                clear H
                                                                have H := H1
                                                                clear H1
                                                                as_aux_lemma =>
                                                                  obtain rfl := Option.some.inj H
                                                                  have p446 : 0 ≤ (x171_6 : Int) := of_decide_eq_true (by first | (with_reducible assumption) | assumption)
                                                                  have q446 : x171_6 < ((rd_L1 t404 x114_2).length : Int) := of_decide_eq_true (by first | (with_reducible assumption) | assumption)
                                                                  obtain ⟨ad446, e446, hx446_0⟩ := Kd.at_int HR432_0.out x171_6 p446 q446
                                                                  obtain rfl : ad445 = ad446 := (by injection e446)
                                                                  try with_reducible replace hx446_0 := (HB.out.cell (World.block_lt_of_cell? w _ hx446_0)).trans hx446_0
                                                                  replace p446 := eq_true p446
                                                                  replace q446 := eq_true q446
                                                                  have p447 : 0 ≤ ((rd (rd_L1 t404 x114_2) x165_5) : Int) := of_decide_eq_true (by first | (with_reducible assumption) | assumption)
                                                                  have q447 : (rd (rd_L1 t404 x114_2) x165_5) < (t404.length : Int) := of_decide_eq_true (by first | (with_reducible assumption) | assumption)
                                                                  obtain ⟨ad447, A447_0, c447_0, e447, hx447_0, hl447_0, hi447_0⟩ := at_L1 (Kd.S_reads' HO_6.out).2.2 (rd (rd_L1 t404 x114_2) x165_5) p447 q447
                                                                  obtain rfl : ad432 = ad447 := (by injection e447)
                                                                  obtain ⟨ce447, hce447, hMe447, hcc447⟩ := Kd.S_get HO_6.out [] (rd (rd_L1 t404 x114_2) x165_5) p447 (by first | exact q447 | exact of_decide_eq_true (by first | (with_reducible assumption) | assumption) | (have e_ := (Kd.S_reads' HO_6.out).1; omega))
                                                                  obtain ⟨ve447_0, rfl, ge447_0⟩ := hMe447
                                                                  have hv447_0 := hcc447 0 _ rfl
                                                                  rw [Nat.add_zero, show ((Kd.slice 3 (Kd.int .i64))).sz = 1 from rfl, Nat.mul_one] at hv447_0
                                                                  replace hv447_0 := Option.some.inj (hv447_0.symm.trans hx447_0)
                                                                  rw [hv447_0] at ge447_0
                                                                  have HL447_0 := Aside0.mk (show Kd.R (Kd.int .i64) 3 _ _ _ _ (rd_L1 t404 (rd (rd_L1 t404 x114_2) x165_5)) from ge447_0)
                                                                  clear hv447_0 ge447_0
                                                                  clear hcc447 hce447
                                                                  have HR447_0 := Aside0.mk hi447_0
                                                                  have HC447_0 := Aside0.mk hl447_0
                                                                  clear hi447_0 hl447_0
                                                                  replace p447 := eq_true p447
                                                                  replace q447 := eq_true q447
                                                                  go_wp2_with (first | ((with_reducible refine gate_callee (f := 47) rfl ?_); refine goesL_ (some 180) rfl rfl Try.func47 (by kernel_rfl) rfl #[.slice A447_0 (rd_L1 t404 (rd (rd_L1 t404 x114_2) x165_5)).length c447_0, .int .i64 (rd (rd_L1 t404 x114_2) x171_6)] rfl (by (try simp only [List.map_toArray, List.map_cons, List.map_nil]); first | done | rfl | (simp only [List.length_drop, List.length_take]; rfl)) ?_; (with_reducible refine (laws_has.calls k6 _ _ (rd_L1 t404 (rd (rd_L1 t404 x114_2) x165_5)) (rd (rd_L1 t404 x114_2) x171_6) false _ ?side1 ?side2 A106.out).mono ?_); (case side1 => repeat (first | exact (by repeat (first | (with_reducible exact HR447_0.out) | (with_reducible refine Kd.C_alloc ?_ _) | (with_reducible refine Kd.C_drewN ?_ _) | (with_reducible refine Kd.C_drew ?_) | exact HR447_0.out)) | (with_reducible refine Kd.C_alloc ?_ _) | (with_reducible refine Kd.C_drewN ?_ _) | (with_reducible refine Kd.C_drew ?_))); (case side2 => exact HC447_0.out); rintro e w' ⟨rfl, ⟨nd, rfl⟩⟩; refine ⟨_, rfl, ?_⟩; have p449 : 0 ≤ ((rd (rd_L1 t404 x114_2) x171_6) : Int) := of_decide_eq_true (by first | (with_reducible assumption) | assumption); have q449 : (rd (rd_L1 t404 x114_2) x171_6) < (t404.length : Int) := of_decide_eq_true (by first | (with_reducible assumption) | assumption); obtain ⟨ad449, A449_0, c449_0, e449, hx449_0, hl449_0, hi449_0⟩ := at_L1 (Kd.S_reads' HO_6.out).2.2 (rd (rd_L1 t404 x114_2) x171_6) p449 q449; obtain rfl : ad432 = ad449 := (by injection e449); obtain ⟨ce449, hce449, hMe449, hcc449⟩ := Kd.S_get HO_6.out [] (rd (rd_L1 t404 x114_2) x171_6) p449 (by first | exact q449 | exact of_decide_eq_true (by first | (with_reducible assumption) | assumption) | (have e_ := (Kd.S_reads' HO_6.out).1; omega)); obtain ⟨ve449_0, rfl, ge449_0⟩ := hMe449; have hv449_0 := hcc449 0 _ rfl; rw [Nat.add_zero, show ((Kd.slice 3 (Kd.int .i64))).sz = 1 from rfl, Nat.mul_one] at hv449_0; replace hv449_0 := Option.some.inj (hv449_0.symm.trans hx449_0); rw [hv449_0] at ge449_0; have HL449_0 := Aside0.mk (show Kd.R (Kd.int .i64) 3 _ _ _ _ (rd_L1 t404 (rd (rd_L1 t404 x114_2) x171_6)) from ge449_0); clear hv449_0 ge449_0; clear hcc449 hce449; have HR449_0 := Aside0.mk hi449_0; have HC449_0 := Aside0.mk hl449_0; clear hi449_0 hl449_0; replace p449 := eq_true p449; replace q449 := eq_true q449) | (go_at_call 47; (with_reducible refine (laws_has.calls k6 _ _ (rd_L1 t404 (rd (rd_L1 t404 x114_2) x171_6)) (rd (rd_L1 t404 x114_2) x165_5) false _ ?side1 ?side2 A110.out).mono ?_); (case side1 => repeat (first | exact (by repeat (first | (with_reducible exact HR449_0.out) | (with_reducible refine Kd.C_alloc ?_ _) | (with_reducible refine Kd.C_drewN ?_ _) | (with_reducible refine Kd.C_drew ?_) | exact HR449_0.out)) | (with_reducible refine Kd.C_alloc ?_ _) | (with_reducible refine Kd.C_drewN ?_ _) | (with_reducible refine Kd.C_drew ?_))); (case side2 => exact HC449_0.out); rintro e w' ⟨rfl, ⟨nd, rfl⟩⟩))
                                                                  go_ret
                                                                  exact ⟨by first | rfl | (simp [errW_none, errW_some] <;> rfl) | (simp [*, errW_none, errW_some] <;> rfl), by repeat (first | (with_reducible first | exact HB.out | apply below_alloc | apply pw_below_drewN | apply below_drew1 | refine below_set ?_ GE403.out) | exact HB.out)⟩
                                                            · rw [if_neg c109] at H
                                                              exact absurd H (by simp)
                                                          · rw [if_neg c108] at H
                                                            exact absurd H (by simp)
                                                      · rw [if_neg c105] at H
                                                        exact absurd H (by simp)
                                                    · rw [if_neg c104] at H
                                                      exact absurd H (by simp)
                                                  · rw [if_neg c103] at H
                                                    exact absurd H (by simp)
                                                · rw [if_neg c102] at H
                                                  exact absurd H (by simp)
                                              · rw [if_neg c101] at H
                                                have c101b0 : decide (x171_6 < ((rd_L1 t404 x114_2).length : Int)) = false := decide_eq_false c101
                                                clear c101
                                                as_aux_lemma =>
                                                  have H' := Aside0.mk H
                                                  clear H
                                                  go_wp2
                                                  go_roundg k6
                                                  case measure => have := HJ10.out; have := HK2.out; have := HJ67.out; have := HK4.out; have := HK5.out; have := HK6.out; omega
                                                  case rel => exact ⟨(wrap64 (x165_5 + 1)), (by first | rfl | (simp; done) | (simp [*]; done)), H', ⟨by have := HJ10.out; have := HK2.out; have := HJ67.out; have := HK4.out; have := HK5.out; have := HK6.out; omega⟩, ⟨by (with_reducible repeat (first | apply Kd.S_alloc | apply Kd.S_drewN | apply Kd.S_drew)); exact HO_6.out⟩, ⟨by (with_reducible repeat (first | apply Kd.R_alloc | apply Kd.R_drewN | apply Kd.R_drew)); exact HO_10.out⟩, ⟨by (with_reducible repeat (first | apply Kd.R_alloc | apply Kd.R_drewN | apply Kd.R_drew)); exact HO_14.out⟩, ⟨by (with_reducible repeat (first | apply Kd.S_alloc | apply Kd.S_drewN | apply Kd.S_drew)); exact HO_112.out⟩, ⟨by (with_reducible repeat (first | apply Kd.S_alloc | apply Kd.S_drewN | apply Kd.S_drew)); exact HO_404000.out⟩, ⟨by (with_reducible repeat (first | refine blk_drewN ?_ _ | refine blk_drew ?_ | refine blk_alloc ?_ _)); exact BK403.out⟩, ⟨by repeat (first | (with_reducible exact HR432_0.out) | (with_reducible refine Kd.C_alloc ?_ _) | (with_reducible refine Kd.C_drewN ?_ _) | (with_reducible refine Kd.C_drew ?_) | exact HR432_0.out)⟩, ⟨by repeat (first | (with_reducible first | exact HB.out | apply below_alloc | apply pw_below_drewN | apply below_drew1 | refine below_set ?_ GE403.out) | exact HB.out)⟩⟩
                                        · rw [if_neg c100] at H
                                          exact absurd H (by simp)
                                      · rw [if_neg c99] at H
                                        exact absurd H (by simp)
                                    · rw [if_neg c98] at H
                                      have c98b0 : decide (x165_5 < ((rd_L1 t404 x114_2).length : Int)) = false := decide_eq_false c98
                                      clear c98
                                      by_cases c112 : 0 ≤ x114_2
                                      · rw [if_pos c112] at H
                                        have c112b0 : decide (0 ≤ x114_2) = true := decide_eq_true c112
                                        clear c112
                                        by_cases c113 : x114_2 < (t412.length : Int)
                                        · rw [if_pos c113] at H
                                          have c113b0 : decide (x114_2 < (t412.length : Int)) = true := decide_eq_true c113
                                          clear c113
                                          by_cases c114 : (rd t412 x114_2) ≥ 0
                                          · rw [if_pos c114] at H
                                            have c114b0 : decide (0 ≤ (rd t412 x114_2)) = true := decide_eq_true c114
                                            clear c114
                                            have H' := Aside0.mk H
                                            clear H
                                            obtain ⟨Ao115, co115, eo115⟩ := Kd.R_slice HO_10.out
                                            (first | subst eo115 | (injection eo115 with ea_ en_ ec_; (replace ea_ := ea_.symm); (replace ec_ := ec_.symm); subst ea_; subst ec_))
                                            have p451 : 0 ≤ (x114_2 : Int) := of_decide_eq_true (by first | (with_reducible assumption) | assumption)
                                            have q451 : x114_2 < (t412.length : Int) := of_decide_eq_true (by first | (with_reducible assumption) | assumption)
                                            obtain ⟨ad451, e451, hx451_0⟩ := Kd.at_int (Kd.R_reads' HO_10.out).2.2 x114_2 p451 q451
                                            cases e451
                                            replace p451 := eq_true p451
                                            replace q451 := eq_true q451
                                            go_wp2
                                            go_loopg [201] k5 (fun kq v201 w' => ∃ (x201_6 : Int), v201 = .int .i64 x201_6 ∧ Aside0 (laws_FnDominators.l4 kq l1 t404 t412 t420 x114_2 (rd t412 x114_2) t404 (t404.length : Int) x114_2 (rd_L1 t404 x114_2) ((rd_L1 t404 x114_2).length : Int) x201_6 t400 = some r) ∧ Aside0 (kq ≤ k5) ∧ Aside0 (Kd.S (Kd.slice 3 (Kd.int .i64)) 31 w' w.heap.size (fun k_ => some k_ ≠ ((.slice (some ad451) t412.length co115) : Value).ownBlock ∧ some k_ ≠ ((.slice Ao77 t420.length co77) : Value).ownBlock ∧ some k_ ≠ ((.slice Ao14 t400.length co14) : Value).ownBlock) (.slice (some ad432) t404.length co64) t404) ∧ Aside0 (Kd.R (Kd.int .i64) 3 w' w.heap.size (fun k_ => some k_ ≠ ((.slice Ao77 t420.length co77) : Value).ownBlock) (.slice (some ad451) t412.length co115) t412) ∧ Aside0 (Kd.R (Kd.int .i64) 3 w' w.heap.size (fun k_ => some k_ ≠ ((.slice (some ad451) t412.length co115) : Value).ownBlock) (.slice Ao77 t420.length co77) t420) ∧ Aside0 (Kd.S (Kd.slice 3 (Kd.int .i64)) 31 w' w.heap.size (fun k_ => some k_ ≠ ((.slice (some ad451) t412.length co115) : Value).ownBlock ∧ some k_ ≠ ((.slice Ao77 t420.length co77) : Value).ownBlock ∧ some k_ ≠ ((.slice Ao14 t400.length co14) : Value).ownBlock) (.slice (some ad432) t404.length co64) t404) ∧ Aside0 (Kd.S (Kd.slice 3 (Kd.int .i64)) 31 w' w.heap.size (fun k_ => some k_ ≠ ((.slice (some ad432) t404.length co64) : Value).ownBlock ∧ some k_ ≠ ((.slice (some ad451) t412.length co115) : Value).ownBlock ∧ some k_ ≠ ((.slice Ao77 t420.length co77) : Value).ownBlock ∧ some k_ ≠ ((.slice (some ad432) t404.length co64) : Value).ownBlock) (.slice Ao14 t400.length co14) t400) ∧ Aside0 (w'.heap[gb403]? = some (.cells #[(.slice Ao14 t400.length co14)] 27 (0, 0))) ∧ Aside0 (Kd.C (Kd.int .i64) w' A432_0 (rd_L1 t404 x114_2).length (rd_L1 t404 x114_2)) ∧ Aside0 (Below w.heap.size w w'))
                                            case atStart => exact ⟨(0), (by first | rfl | (simp; done) | (simp [*]; done)), H', ⟨Nat.le_refl _⟩, ⟨by (with_reducible repeat (first | apply Kd.S_alloc | apply Kd.S_drewN | apply Kd.S_drew)); exact HO_6.out⟩, ⟨by (with_reducible repeat (first | apply Kd.R_alloc | apply Kd.R_drewN | apply Kd.R_drew)); exact HO_10.out⟩, ⟨by (with_reducible repeat (first | apply Kd.R_alloc | apply Kd.R_drewN | apply Kd.R_drew)); exact HO_14.out⟩, ⟨by (with_reducible repeat (first | apply Kd.S_alloc | apply Kd.S_drewN | apply Kd.S_drew)); exact HO_112.out⟩, ⟨by (with_reducible repeat (first | apply Kd.S_alloc | apply Kd.S_drewN | apply Kd.S_drew)); exact HO_404000.out⟩, ⟨by (with_reducible repeat (first | refine blk_drewN ?_ _ | refine blk_drew ?_ | refine blk_alloc ?_ _)); exact BK403.out⟩, ⟨by repeat (first | (with_reducible exact HR432_0.out) | (with_reducible refine Kd.C_alloc ?_ _) | (with_reducible refine Kd.C_drewN ?_ _) | (with_reducible refine Kd.C_drew ?_) | exact HR432_0.out)⟩, ⟨by repeat (first | (with_reducible first | exact HB.out | apply below_alloc | apply pw_below_drewN | apply below_drew1 | refine below_set ?_ GE403.out) | exact HB.out)⟩⟩
                                            case round => as_aux_lemma =>
                                              clear H'
                                              try clear c1
                                              try clear c2
                                              try clear p2
                                              try clear c3
                                              try clear c3b0
                                              try clear c4
                                              try clear p4
                                              try clear q4
                                              try clear hx4
                                              try clear c6
                                              try clear p6
                                              try clear c7
                                              try clear c8
                                              try clear c9
                                              try clear c10
                                              try clear c11
                                              try clear c12
                                              try clear c20
                                              try clear c21
                                              try clear c27
                                              try clear c27b0
                                              try clear c27b1
                                              try clear c27b2
                                              try clear c29
                                              try clear c30
                                              try clear c30b0
                                              try clear c30b1
                                              try clear c30b2
                                              try clear c34
                                              try clear c35
                                              try clear c35b0
                                              try clear c35b1
                                              try clear c35b2
                                              try clear c36
                                              try clear c37
                                              try clear c40
                                              try clear c41
                                              try clear c43
                                              try clear p43
                                              try clear q43
                                              try clear hx43
                                              try clear c44
                                              try clear p44
                                              try clear q44
                                              try clear hx44
                                              try clear p45
                                              try clear q45
                                              try clear hx45
                                              try clear c47
                                              try clear c63
                                              try clear p64
                                              try clear c65
                                              try clear c65b0
                                              try clear c66
                                              try clear c66b0
                                              try clear c67
                                              try clear c67b0
                                              try clear c71
                                              try clear c71b0
                                              try clear c71b1
                                              try clear c71b2
                                              try clear c76
                                              try clear c78
                                              try clear c78b0
                                              try clear c79
                                              try clear c79b0
                                              try clear c80
                                              try clear c80b0
                                              try clear c82
                                              try clear c84
                                              try clear c87
                                              try clear c87b0
                                              try clear c87b1
                                              try clear c87b2
                                              try clear c98
                                              try clear c98b0
                                              try clear c99
                                              try clear c99b0
                                              try clear c100
                                              try clear c100b0
                                              try clear c101
                                              try clear c101b0
                                              try clear c102
                                              try clear c102b0
                                              try clear c103
                                              try clear c103b0
                                              try clear c104
                                              try clear c104b0
                                              try clear c105
                                              try clear c105b0
                                              try clear c107
                                              try clear c108
                                              try clear c108b0
                                              try clear c109
                                              try clear c109b0
                                              try clear c111
                                              try clear c112
                                              try clear c112b0
                                              try clear c113
                                              try clear c113b0
                                              try clear c114
                                              try clear c114b0
                                              try clear hcz15_0
                                              try clear hcz17_0
                                              try clear hcz19_0
                                              try clear hcz21_0
                                              try clear hcz23_0
                                              try clear hcz25_0
                                              try clear hcz49_0
                                              try clear hcz88_0
                                              try clear hcz91_0
                                              try clear hcz94_0
                                              try clear hcz96_0
                                              try clear hfz15_0
                                              try clear hfz17_0
                                              try clear hfz19_0
                                              try clear hfz21_0
                                              try clear hfz23_0
                                              try clear hfz25_0
                                              try clear hfz49_0
                                              try clear hfz88_0
                                              try clear hfz91_0
                                              try clear hfz94_0
                                              try clear hfz96_0
                                              try clear hx432_0
                                              try clear hx437_0
                                              try clear hx445_0
                                              try clear hx446_0
                                              try clear hx447_0
                                              try clear hx449_0
                                              try clear hx451_0
                                              try clear p2
                                              try clear p4
                                              try clear p43
                                              try clear p432
                                              try clear p437
                                              try clear p44
                                              try clear p445
                                              try clear p446
                                              try clear p447
                                              try clear p449
                                              try clear p451
                                              try clear p6
                                              try clear p64
                                              try clear q4
                                              try clear q43
                                              try clear q432
                                              try clear q437
                                              try clear q44
                                              try clear q445
                                              try clear q446
                                              try clear q447
                                              try clear q449
                                              try clear q451
                                              obtain ⟨x201_6, rfl, HA, HK6, HO_6, HO_10, HO_14, HO_112, HO_404000, BK403, HR432_0, HB⟩ := hrel
                                              cases gk with
                                              | zero => exact absurd HA.out (by simp [laws_FnDominators.l4])
                                              | succ k6 =>
                                                have H := HA.out
                                                clear HA
                                                simp only [laws_FnDominators.l4] at H
                                                by_cases c116 : x201_6 < ((rd_L1 t404 x114_2).length : Int)
                                                · rw [if_pos c116] at H
                                                  have c116b0 : decide (x201_6 < ((rd_L1 t404 x114_2).length : Int)) = true := decide_eq_true c116
                                                  clear c116
                                                  by_cases c117 : 0 ≤ x201_6
                                                  · rw [if_pos c117] at H
                                                    have c117b0 : decide (0 ≤ x201_6) = true := decide_eq_true c117
                                                    clear c117
                                                    by_cases c118 : x201_6 < ((rd_L1 t404 x114_2).length : Int)
                                                    · rw [if_pos c118] at H
                                                      have c118b0 : decide (x201_6 < ((rd_L1 t404 x114_2).length : Int)) = true := decide_eq_true c118
                                                      clear c118
                                                      by_cases c119 : (rd (rd_L1 t404 x114_2) x201_6) = x114_2
                                                      · rw [if_pos c119] at H
                                                        have c119b0 : ((rd (rd_L1 t404 x114_2) x201_6) == x114_2) = true := beq_iff_eq.mpr c119
                                                        have c119b1 : ((rd (rd_L1 t404 x114_2) x201_6) != x114_2) = false := bne_eq_false_iff_eq.mpr c119
                                                        clear c119
                                                        as_aux_lemma =>
                                                          have H' := Aside0.mk H
                                                          clear H
                                                          have p452 : 0 ≤ (x201_6 : Int) := of_decide_eq_true (by first | (with_reducible assumption) | assumption)
                                                          have q452 : x201_6 < ((rd_L1 t404 x114_2).length : Int) := of_decide_eq_true (by first | (with_reducible assumption) | assumption)
                                                          obtain ⟨ad452, e452, hx452_0⟩ := Kd.at_int HR432_0.out x201_6 p452 q452
                                                          cases e452
                                                          try with_reducible replace hx452_0 := (HB.out.cell (World.block_lt_of_cell? w _ hx452_0)).trans hx452_0
                                                          replace p452 := eq_true p452
                                                          replace q452 := eq_true q452
                                                          go_wp2
                                                          go_roundg k6
                                                          case measure => have := HJ10.out; have := HK2.out; have := HJ67.out; have := HK4.out; have := HK5.out; have := HK6.out; omega
                                                          case rel => exact ⟨(wrap64 (x201_6 + 1)), (by first | rfl | (simp; done) | (simp [*]; done)), H', ⟨by have := HJ10.out; have := HK2.out; have := HJ67.out; have := HK4.out; have := HK5.out; have := HK6.out; omega⟩, ⟨by (with_reducible repeat (first | apply Kd.S_alloc | apply Kd.S_drewN | apply Kd.S_drew)); exact HO_6.out⟩, ⟨by (with_reducible repeat (first | apply Kd.R_alloc | apply Kd.R_drewN | apply Kd.R_drew)); exact HO_10.out⟩, ⟨by (with_reducible repeat (first | apply Kd.R_alloc | apply Kd.R_drewN | apply Kd.R_drew)); exact HO_14.out⟩, ⟨by (with_reducible repeat (first | apply Kd.S_alloc | apply Kd.S_drewN | apply Kd.S_drew)); exact HO_112.out⟩, ⟨by (with_reducible repeat (first | apply Kd.S_alloc | apply Kd.S_drewN | apply Kd.S_drew)); exact HO_404000.out⟩, ⟨by (with_reducible repeat (first | refine blk_drewN ?_ _ | refine blk_drew ?_ | refine blk_alloc ?_ _)); exact BK403.out⟩, ⟨by repeat (first | (with_reducible exact HR432_0.out) | (with_reducible refine Kd.C_alloc ?_ _) | (with_reducible refine Kd.C_drewN ?_ _) | (with_reducible refine Kd.C_drew ?_) | exact HR432_0.out)⟩, ⟨by repeat (first | (with_reducible first | exact HB.out | apply below_alloc | apply pw_below_drewN | apply below_drew1 | refine below_set ?_ GE403.out) | exact HB.out)⟩⟩
                                                      · rw [if_neg c119] at H
                                                        have c119b0 : ((rd (rd_L1 t404 x114_2) x201_6) == x114_2) = false := beq_eq_false_iff_ne.mpr c119
                                                        have c119b1 : ((rd (rd_L1 t404 x114_2) x201_6) != x114_2) = true := bne_iff_ne.mpr c119
                                                        by_cases c120 : 0 ≤ (rd t412 x114_2)
                                                        · rw [if_pos c120] at H
                                                          have c120b0 : decide (0 ≤ (rd t412 x114_2)) = true := decide_eq_true c120
                                                          clear c120
                                                          by_cases c121 : (rd t412 x114_2) < (t404.length : Int)
                                                          · rw [if_pos c121] at H
                                                            have c121b0 : decide ((rd t412 x114_2) < (t404.length : Int)) = true := decide_eq_true c121
                                                            clear c121
                                                            replace H := Option.bind_eq_some_iff.mp H
                                                            obtain ⟨t454, A1220, H⟩ := H
                                                            replace H : (if t454 = true then (laws_FnDominators.l4 k6 l1 t404 t412 t420 x114_2 (rd t412 x114_2) t404 (t404.length : Int) x114_2 (rd_L1 t404 x114_2) ((rd_L1 t404 x114_2).length : Int) (wrap64 (x201_6 + 1)) t400) else (some false)) = some r := H
                                                            have A122 := Aside0.mk A1220
                                                            clear A1220
                                                            by_cases c123 : t454 = true
                                                            · subst c123
                                                              have H1 : (laws_FnDominators.l4 k6 l1 t404 t412 t420 x114_2 (rd t412 x114_2) t404 (t404.length : Int) x114_2 (rd_L1 t404 x114_2) ((rd_L1 t404 x114_2).length : Int) (wrap64 (x201_6 + 1)) t400) = some r := by rw [if_pos rfl] at H; exact H
                                                              clear H
                                                              have H := H1
                                                              clear H1
                                                              as_aux_lemma =>
                                                                have H' := Aside0.mk H
                                                                clear H
                                                                have p452 : 0 ≤ (x201_6 : Int) := of_decide_eq_true (by first | (with_reducible assumption) | assumption)
                                                                have q452 : x201_6 < ((rd_L1 t404 x114_2).length : Int) := of_decide_eq_true (by first | (with_reducible assumption) | assumption)
                                                                obtain ⟨ad452, e452, hx452_0⟩ := Kd.at_int HR432_0.out x201_6 p452 q452
                                                                cases e452
                                                                try with_reducible replace hx452_0 := (HB.out.cell (World.block_lt_of_cell? w _ hx452_0)).trans hx452_0
                                                                replace p452 := eq_true p452
                                                                replace q452 := eq_true q452
                                                                have p453 : 0 ≤ ((rd t412 x114_2) : Int) := of_decide_eq_true (by first | (with_reducible assumption) | assumption)
                                                                have q453 : (rd t412 x114_2) < (t404.length : Int) := of_decide_eq_true (by first | (with_reducible assumption) | assumption)
                                                                obtain ⟨ad453, A453_0, c453_0, e453, hx453_0, hl453_0, hi453_0⟩ := at_L1 (Kd.S_reads' HO_6.out).2.2 (rd t412 x114_2) p453 q453
                                                                obtain rfl : ad432 = ad453 := (by injection e453)
                                                                obtain ⟨ce453, hce453, hMe453, hcc453⟩ := Kd.S_get HO_6.out [] (rd t412 x114_2) p453 (by first | exact q453 | exact of_decide_eq_true (by first | (with_reducible assumption) | assumption) | (have e_ := (Kd.S_reads' HO_6.out).1; omega))
                                                                obtain ⟨ve453_0, rfl, ge453_0⟩ := hMe453
                                                                have hv453_0 := hcc453 0 _ rfl
                                                                rw [Nat.add_zero, show ((Kd.slice 3 (Kd.int .i64))).sz = 1 from rfl, Nat.mul_one] at hv453_0
                                                                replace hv453_0 := Option.some.inj (hv453_0.symm.trans hx453_0)
                                                                rw [hv453_0] at ge453_0
                                                                have HL453_0 := Aside0.mk (show Kd.R (Kd.int .i64) 3 _ _ _ _ (rd_L1 t404 (rd t412 x114_2)) from ge453_0)
                                                                clear hv453_0 ge453_0
                                                                clear hcc453 hce453
                                                                have HR453_0 := Aside0.mk hi453_0
                                                                have HC453_0 := Aside0.mk hl453_0
                                                                clear hi453_0 hl453_0
                                                                replace p453 := eq_true p453
                                                                replace q453 := eq_true q453
                                                                go_wp2_with (first | (go_at_call 47; (with_reducible refine (laws_has.calls k6 _ _ (rd_L1 t404 (rd t412 x114_2)) (rd (rd_L1 t404 x114_2) x201_6) true _ ?side1 ?side2 A122.out).mono ?_); (case side1 => repeat (first | exact (by repeat (first | (with_reducible exact HR453_0.out) | (with_reducible refine Kd.C_alloc ?_ _) | (with_reducible refine Kd.C_drewN ?_ _) | (with_reducible refine Kd.C_drew ?_) | exact HR453_0.out)) | (with_reducible refine Kd.C_alloc ?_ _) | (with_reducible refine Kd.C_drewN ?_ _) | (with_reducible refine Kd.C_drew ?_))); (case side2 => exact HC453_0.out); rintro e w' ⟨rfl, ⟨nd, rfl⟩⟩))
                                                                go_roundg k6
                                                                case measure => have := HJ10.out; have := HK2.out; have := HJ67.out; have := HK4.out; have := HK5.out; have := HK6.out; omega
                                                                case rel => exact ⟨(wrap64 (x201_6 + 1)), (by first | rfl | (simp; done) | (simp [*]; done)), H', ⟨by have := HJ10.out; have := HK2.out; have := HJ67.out; have := HK4.out; have := HK5.out; have := HK6.out; omega⟩, ⟨by (with_reducible repeat (first | apply Kd.S_alloc | apply Kd.S_drewN | apply Kd.S_drew)); exact HO_6.out⟩, ⟨by (with_reducible repeat (first | apply Kd.R_alloc | apply Kd.R_drewN | apply Kd.R_drew)); exact HO_10.out⟩, ⟨by (with_reducible repeat (first | apply Kd.R_alloc | apply Kd.R_drewN | apply Kd.R_drew)); exact HO_14.out⟩, ⟨by (with_reducible repeat (first | apply Kd.S_alloc | apply Kd.S_drewN | apply Kd.S_drew)); exact HO_112.out⟩, ⟨by (with_reducible repeat (first | apply Kd.S_alloc | apply Kd.S_drewN | apply Kd.S_drew)); exact HO_404000.out⟩, ⟨by (with_reducible repeat (first | refine blk_drewN ?_ _ | refine blk_drew ?_ | refine blk_alloc ?_ _)); exact BK403.out⟩, ⟨by repeat (first | (with_reducible exact HR432_0.out) | (with_reducible refine Kd.C_alloc ?_ _) | (with_reducible refine Kd.C_drewN ?_ _) | (with_reducible refine Kd.C_drew ?_) | exact HR432_0.out)⟩, ⟨by repeat (first | (with_reducible first | exact HB.out | apply below_alloc | apply pw_below_drewN | apply below_drew1 | refine below_set ?_ GE403.out) | exact HB.out)⟩⟩
                                                            · replace c123 := Bool.eq_false_iff.mpr c123
                                                              subst c123
                                                              have H1 : (some false) = some r := by rw [if_neg (show ¬ (false = true) by decide)] at H; exact H
                                                              clear H
                                                              have H := H1
                                                              clear H1
                                                              as_aux_lemma =>
                                                                obtain rfl := Option.some.inj H
                                                                have p452 : 0 ≤ (x201_6 : Int) := of_decide_eq_true (by first | (with_reducible assumption) | assumption)
                                                                have q452 : x201_6 < ((rd_L1 t404 x114_2).length : Int) := of_decide_eq_true (by first | (with_reducible assumption) | assumption)
                                                                obtain ⟨ad452, e452, hx452_0⟩ := Kd.at_int HR432_0.out x201_6 p452 q452
                                                                cases e452
                                                                try with_reducible replace hx452_0 := (HB.out.cell (World.block_lt_of_cell? w _ hx452_0)).trans hx452_0
                                                                replace p452 := eq_true p452
                                                                replace q452 := eq_true q452
                                                                have p453 : 0 ≤ ((rd t412 x114_2) : Int) := of_decide_eq_true (by first | (with_reducible assumption) | assumption)
                                                                have q453 : (rd t412 x114_2) < (t404.length : Int) := of_decide_eq_true (by first | (with_reducible assumption) | assumption)
                                                                obtain ⟨ad453, A453_0, c453_0, e453, hx453_0, hl453_0, hi453_0⟩ := at_L1 (Kd.S_reads' HO_6.out).2.2 (rd t412 x114_2) p453 q453
                                                                obtain rfl : ad432 = ad453 := (by injection e453)
                                                                obtain ⟨ce453, hce453, hMe453, hcc453⟩ := Kd.S_get HO_6.out [] (rd t412 x114_2) p453 (by first | exact q453 | exact of_decide_eq_true (by first | (with_reducible assumption) | assumption) | (have e_ := (Kd.S_reads' HO_6.out).1; omega))
                                                                obtain ⟨ve453_0, rfl, ge453_0⟩ := hMe453
                                                                have hv453_0 := hcc453 0 _ rfl
                                                                rw [Nat.add_zero, show ((Kd.slice 3 (Kd.int .i64))).sz = 1 from rfl, Nat.mul_one] at hv453_0
                                                                replace hv453_0 := Option.some.inj (hv453_0.symm.trans hx453_0)
                                                                rw [hv453_0] at ge453_0
                                                                have HL453_0 := Aside0.mk (show Kd.R (Kd.int .i64) 3 _ _ _ _ (rd_L1 t404 (rd t412 x114_2)) from ge453_0)
                                                                clear hv453_0 ge453_0
                                                                clear hcc453 hce453
                                                                have HR453_0 := Aside0.mk hi453_0
                                                                have HC453_0 := Aside0.mk hl453_0
                                                                clear hi453_0 hl453_0
                                                                replace p453 := eq_true p453
                                                                replace q453 := eq_true q453
                                                                go_wp2_with (first | (go_at_call 47; (with_reducible refine (laws_has.calls k6 _ _ (rd_L1 t404 (rd t412 x114_2)) (rd (rd_L1 t404 x114_2) x201_6) false _ ?side1 ?side2 A122.out).mono ?_); (case side1 => repeat (first | exact (by repeat (first | (with_reducible exact HR453_0.out) | (with_reducible refine Kd.C_alloc ?_ _) | (with_reducible refine Kd.C_drewN ?_ _) | (with_reducible refine Kd.C_drew ?_) | exact HR453_0.out)) | (with_reducible refine Kd.C_alloc ?_ _) | (with_reducible refine Kd.C_drewN ?_ _) | (with_reducible refine Kd.C_drew ?_))); (case side2 => exact HC453_0.out); rintro e w' ⟨rfl, ⟨nd, rfl⟩⟩))
                                                                go_ret
                                                                exact ⟨by first | rfl | (simp [errW_none, errW_some] <;> rfl) | (simp [*, errW_none, errW_some] <;> rfl), by repeat (first | (with_reducible first | exact HB.out | apply below_alloc | apply pw_below_drewN | apply below_drew1 | refine below_set ?_ GE403.out) | exact HB.out)⟩
                                                          · rw [if_neg c121] at H
                                                            exact absurd H (by simp)
                                                        · rw [if_neg c120] at H
                                                          exact absurd H (by simp)
                                                    · rw [if_neg c118] at H
                                                      exact absurd H (by simp)
                                                  · rw [if_neg c117] at H
                                                    exact absurd H (by simp)
                                                · rw [if_neg c116] at H
                                                  have c116b0 : decide (x201_6 < ((rd_L1 t404 x114_2).length : Int)) = false := decide_eq_false c116
                                                  clear c116
                                                  as_aux_lemma =>
                                                    have H' := Aside0.mk H
                                                    clear H
                                                    go_wp2
                                                    go_roundg k6
                                                    case measure => have := HJ10.out; have := HK2.out; have := HJ67.out; have := HK4.out; have := HK5.out; have := HK6.out; omega
                                                    case rel => exact ⟨(wrap64 (x114_2 + 1)), (by first | rfl | (simp; done) | (simp [*]; done)), H', ⟨by have := HJ10.out; have := HK2.out; have := HJ67.out; have := HK4.out; have := HK5.out; have := HK6.out; omega⟩, ⟨by (with_reducible repeat (first | apply Kd.S_alloc | apply Kd.S_drewN | apply Kd.S_drew)); exact HO_6.out⟩, ⟨by (with_reducible repeat (first | apply Kd.R_alloc | apply Kd.R_drewN | apply Kd.R_drew)); exact HO_10.out⟩, ⟨by (with_reducible repeat (first | apply Kd.R_alloc | apply Kd.R_drewN | apply Kd.R_drew)); exact HO_14.out⟩, ⟨by (with_reducible repeat (first | apply Kd.S_alloc | apply Kd.S_drewN | apply Kd.S_drew)); exact HO_112.out⟩, ⟨by (with_reducible repeat (first | apply Kd.S_alloc | apply Kd.S_drewN | apply Kd.S_drew)); exact HO_404000.out⟩, ⟨by (with_reducible repeat (first | refine blk_drewN ?_ _ | refine blk_drew ?_ | refine blk_alloc ?_ _)); exact BK403.out⟩, ⟨by repeat (first | (with_reducible first | exact HB.out | apply below_alloc | apply pw_below_drewN | apply below_drew1 | refine below_set ?_ GE403.out) | exact HB.out)⟩⟩
                                          · rw [if_neg c114] at H
                                            have c114b0 : decide (0 ≤ (rd t412 x114_2)) = false := decide_eq_false c114
                                            clear c114
                                            replace H := Option.bind_eq_some_iff.mp H
                                            obtain ⟨t455, A1240, H⟩ := H
                                            replace H : (if t455 = true then (if x114_2 > 0 then (some false) else (laws_FnDominators.l0 k5 l1 t404 t412 t420 t404 (t404.length : Int) (wrap64 (x114_2 + 1)) t400)) else (laws_FnDominators.l0 k5 l1 t404 t412 t420 t404 (t404.length : Int) (wrap64 (x114_2 + 1)) t400)) = some r := H
                                            have A124 := Aside0.mk A1240
                                            clear A1240
                                            by_cases c125 : t455 = true
                                            · subst c125
                                              have H1 : (if x114_2 > 0 then (some false) else (laws_FnDominators.l0 k5 l1 t404 t412 t420 t404 (t404.length : Int) (wrap64 (x114_2 + 1)) t400)) = some r := by rw [if_pos rfl] at H; exact H
                                              clear H
                                              have H := H1
                                              clear H1
                                              by_cases c126 : x114_2 > 0
                                              · rw [if_pos c126] at H
                                                have c126b0 : decide (0 < x114_2) = true := decide_eq_true c126
                                                clear c126
                                                as_aux_lemma =>
                                                  obtain rfl := Option.some.inj H
                                                  obtain ⟨Ao127, co127, eo127⟩ := Kd.R_slice HO_10.out
                                                  (first | subst eo127 | (injection eo127 with ea_ en_ ec_; (replace ea_ := ea_.symm); (replace ec_ := ec_.symm); subst ea_; subst ec_))
                                                  have p451 : 0 ≤ (x114_2 : Int) := of_decide_eq_true (by first | (with_reducible assumption) | assumption)
                                                  have q451 : x114_2 < (t412.length : Int) := of_decide_eq_true (by first | (with_reducible assumption) | assumption)
                                                  obtain ⟨ad451, e451, hx451_0⟩ := Kd.at_int (Kd.R_reads' HO_10.out).2.2 x114_2 p451 q451
                                                  cases e451
                                                  replace p451 := eq_true p451
                                                  replace q451 := eq_true q451
                                                  go_wp2_with (first | ((with_reducible refine gate_callee (f := 47) rfl ?_); refine goesL_ (some 220) rfl rfl Try.func47 (by kernel_rfl) rfl #[.slice Ao77 t420.length co77, .int .i64 x114_2] rfl (by (try simp only [List.map_toArray, List.map_cons, List.map_nil]); first | done | rfl | (simp only [List.length_drop, List.length_take]; rfl)) ?_; (with_reducible refine (laws_has.calls k5 _ _ t420 x114_2 true _ ?side1 ?side2 A124.out).mono ?_); (case side1 => repeat (first | exact (Kd.R_reads' HO_14.out).2.2 | (with_reducible refine Kd.C_alloc ?_ _) | (with_reducible refine Kd.C_drewN ?_ _) | (with_reducible refine Kd.C_drew ?_))); (case side2 => exact (Kd.R_reads' HO_14.out).2.1); rintro e w' ⟨rfl, ⟨nd, rfl⟩⟩; refine ⟨_, rfl, ?_⟩))
                                                  go_ret
                                                  exact ⟨by first | rfl | (simp [errW_none, errW_some] <;> rfl) | (simp [*, errW_none, errW_some] <;> rfl), by repeat (first | (with_reducible first | exact HB.out | apply below_alloc | apply pw_below_drewN | apply below_drew1 | refine below_set ?_ GE403.out) | exact HB.out)⟩
                                              · rw [if_neg c126] at H
                                                have c126b0 : decide (0 < x114_2) = false := decide_eq_false c126
                                                clear c126
                                                as_aux_lemma =>
                                                  have H' := Aside0.mk H
                                                  clear H
                                                  obtain ⟨Ao128, co128, eo128⟩ := Kd.R_slice HO_10.out
                                                  (first | subst eo128 | (injection eo128 with ea_ en_ ec_; (replace ea_ := ea_.symm); (replace ec_ := ec_.symm); subst ea_; subst ec_))
                                                  have p451 : 0 ≤ (x114_2 : Int) := of_decide_eq_true (by first | (with_reducible assumption) | assumption)
                                                  have q451 : x114_2 < (t412.length : Int) := of_decide_eq_true (by first | (with_reducible assumption) | assumption)
                                                  obtain ⟨ad451, e451, hx451_0⟩ := Kd.at_int (Kd.R_reads' HO_10.out).2.2 x114_2 p451 q451
                                                  cases e451
                                                  replace p451 := eq_true p451
                                                  replace q451 := eq_true q451
                                                  go_wp2_with (first | ((with_reducible refine gate_callee (f := 47) rfl ?_); refine goesL_ (some 220) rfl rfl Try.func47 (by kernel_rfl) rfl #[.slice Ao77 t420.length co77, .int .i64 x114_2] rfl (by (try simp only [List.map_toArray, List.map_cons, List.map_nil]); first | done | rfl | (simp only [List.length_drop, List.length_take]; rfl)) ?_; (with_reducible refine (laws_has.calls k5 _ _ t420 x114_2 true _ ?side1 ?side2 A124.out).mono ?_); (case side1 => repeat (first | exact (Kd.R_reads' HO_14.out).2.2 | (with_reducible refine Kd.C_alloc ?_ _) | (with_reducible refine Kd.C_drewN ?_ _) | (with_reducible refine Kd.C_drew ?_))); (case side2 => exact (Kd.R_reads' HO_14.out).2.1); rintro e w' ⟨rfl, ⟨nd, rfl⟩⟩; refine ⟨_, rfl, ?_⟩))
                                                  go_roundg k5
                                                  case measure => have := HJ10.out; have := HK2.out; have := HJ67.out; have := HK4.out; have := HK5.out; omega
                                                  case rel => exact ⟨(wrap64 (x114_2 + 1)), (by first | rfl | (simp; done) | (simp [*]; done)), H', ⟨by have := HJ10.out; have := HK2.out; have := HJ67.out; have := HK4.out; have := HK5.out; omega⟩, ⟨by (with_reducible repeat (first | apply Kd.S_alloc | apply Kd.S_drewN | apply Kd.S_drew)); exact HO_6.out⟩, ⟨by (with_reducible repeat (first | apply Kd.R_alloc | apply Kd.R_drewN | apply Kd.R_drew)); exact HO_10.out⟩, ⟨by (with_reducible repeat (first | apply Kd.R_alloc | apply Kd.R_drewN | apply Kd.R_drew)); exact HO_14.out⟩, ⟨by (with_reducible repeat (first | apply Kd.S_alloc | apply Kd.S_drewN | apply Kd.S_drew)); exact HO_112.out⟩, ⟨by (with_reducible repeat (first | apply Kd.S_alloc | apply Kd.S_drewN | apply Kd.S_drew)); exact HO_404000.out⟩, ⟨by (with_reducible repeat (first | refine blk_drewN ?_ _ | refine blk_drew ?_ | refine blk_alloc ?_ _)); exact BK403.out⟩, ⟨by repeat (first | (with_reducible first | exact HB.out | apply below_alloc | apply pw_below_drewN | apply below_drew1 | refine below_set ?_ GE403.out) | exact HB.out)⟩⟩
                                            · replace c125 := Bool.eq_false_iff.mpr c125
                                              subst c125
                                              have H1 : (laws_FnDominators.l0 k5 l1 t404 t412 t420 t404 (t404.length : Int) (wrap64 (x114_2 + 1)) t400) = some r := by rw [if_neg (show ¬ (false = true) by decide)] at H; exact H
                                              clear H
                                              have H := H1
                                              clear H1
                                              as_aux_lemma =>
                                                have H' := Aside0.mk H
                                                clear H
                                                obtain ⟨Ao129, co129, eo129⟩ := Kd.R_slice HO_10.out
                                                (first | subst eo129 | (injection eo129 with ea_ en_ ec_; (replace ea_ := ea_.symm); (replace ec_ := ec_.symm); subst ea_; subst ec_))
                                                have p451 : 0 ≤ (x114_2 : Int) := of_decide_eq_true (by first | (with_reducible assumption) | assumption)
                                                have q451 : x114_2 < (t412.length : Int) := of_decide_eq_true (by first | (with_reducible assumption) | assumption)
                                                obtain ⟨ad451, e451, hx451_0⟩ := Kd.at_int (Kd.R_reads' HO_10.out).2.2 x114_2 p451 q451
                                                cases e451
                                                replace p451 := eq_true p451
                                                replace q451 := eq_true q451
                                                go_wp2_with (first | ((with_reducible refine gate_callee (f := 47) rfl ?_); refine goesL_ (some 220) rfl rfl Try.func47 (by kernel_rfl) rfl #[.slice Ao77 t420.length co77, .int .i64 x114_2] rfl (by (try simp only [List.map_toArray, List.map_cons, List.map_nil]); first | done | rfl | (simp only [List.length_drop, List.length_take]; rfl)) ?_; (with_reducible refine (laws_has.calls k5 _ _ t420 x114_2 false _ ?side1 ?side2 A124.out).mono ?_); (case side1 => repeat (first | exact (Kd.R_reads' HO_14.out).2.2 | (with_reducible refine Kd.C_alloc ?_ _) | (with_reducible refine Kd.C_drewN ?_ _) | (with_reducible refine Kd.C_drew ?_))); (case side2 => exact (Kd.R_reads' HO_14.out).2.1); rintro e w' ⟨rfl, ⟨nd, rfl⟩⟩; refine ⟨_, rfl, ?_⟩))
                                                go_roundg k5
                                                case measure => have := HJ10.out; have := HK2.out; have := HJ67.out; have := HK4.out; have := HK5.out; omega
                                                case rel => exact ⟨(wrap64 (x114_2 + 1)), (by first | rfl | (simp; done) | (simp [*]; done)), H', ⟨by have := HJ10.out; have := HK2.out; have := HJ67.out; have := HK4.out; have := HK5.out; omega⟩, ⟨by (with_reducible repeat (first | apply Kd.S_alloc | apply Kd.S_drewN | apply Kd.S_drew)); exact HO_6.out⟩, ⟨by (with_reducible repeat (first | apply Kd.R_alloc | apply Kd.R_drewN | apply Kd.R_drew)); exact HO_10.out⟩, ⟨by (with_reducible repeat (first | apply Kd.R_alloc | apply Kd.R_drewN | apply Kd.R_drew)); exact HO_14.out⟩, ⟨by (with_reducible repeat (first | apply Kd.S_alloc | apply Kd.S_drewN | apply Kd.S_drew)); exact HO_112.out⟩, ⟨by (with_reducible repeat (first | apply Kd.S_alloc | apply Kd.S_drewN | apply Kd.S_drew)); exact HO_404000.out⟩, ⟨by (with_reducible repeat (first | refine blk_drewN ?_ _ | refine blk_drew ?_ | refine blk_alloc ?_ _)); exact BK403.out⟩, ⟨by repeat (first | (with_reducible first | exact HB.out | apply below_alloc | apply pw_below_drewN | apply below_drew1 | refine below_set ?_ GE403.out) | exact HB.out)⟩⟩
                                        · rw [if_neg c113] at H
                                          exact absurd H (by simp)
                                      · rw [if_neg c112] at H
                                        exact absurd H (by simp)
                  · rw [if_neg c67] at H
                    exact absurd H (by simp)
                · rw [if_neg c66] at H
                  exact absurd H (by simp)
              · rw [if_neg c65] at H
                have c65b0 : decide (x114_2 < (t404.length : Int)) = false := decide_eq_false c65
                clear c65
                replace H := Option.bind_eq_some_iff.mp H
                obtain ⟨⟨t456, t459⟩, A1300, H⟩ := H
                replace H : ((impl_Without.f t456 t459).bind fun bt461 => ((spec_Without.f k2 t456 t459).bind fun bt465 => (if (bt461.2 == bt465.2) = true then ((laws_sameInts.f k2 bt461.1 bt465.1).bind fun t469 => (some t469)) else (some false)))) = some r := H
                have A130 := Aside0.mk A1300
                clear A1300
                replace H := Option.bind_eq_some_iff.mp H
                obtain ⟨⟨t461, t464⟩, A1310, H⟩ := H
                replace H : ((spec_Without.f k2 t456 t459).bind fun bt465 => (if (t464 == bt465.2) = true then ((laws_sameInts.f k2 t461 bt465.1).bind fun t469 => (some t469)) else (some false))) = some r := H
                have A131 := Aside0.mk A1310
                clear A1310
                replace H := Option.bind_eq_some_iff.mp H
                obtain ⟨⟨t465, t468⟩, A1320, H⟩ := H
                replace H : (if (t464 == t468) = true then ((laws_sameInts.f k2 t461 t465).bind fun t469 => (some t469)) else (some false)) = some r := H
                have A132 := Aside0.mk A1320
                clear A1320
                by_cases c133 : (t464 == t468) = true
                · rw [if_pos c133] at H
                  have c133b0 : (t464 == t468) = true := c133
                  (try (have c133b1 : decide (t464 = t468) = true := by simpa using c133))
                  (try (have c133b2 : (t464 == t468) = true := by simpa using c133))
                  clear c133
                  replace H := Option.bind_eq_some_iff.mp H
                  obtain ⟨t469, A1340, H⟩ := H
                  replace H : (some t469) = some r := H
                  have A134 := Aside0.mk A1340
                  clear A1340
                  as_aux_lemma =>
                    obtain rfl := Option.some.inj H
                    go_wp2_with (first | ((with_reducible refine gate_callee (f := 48) rfl ?_); refine goesL_ (some 228) rfl rfl Try.func48 (by kernel_rfl) rfl #[.slice A1 l1.length c1] rfl (by (try simp only [List.map_toArray, List.map_cons, List.map_nil]); first | done | rfl | (simp only [List.length_drop, List.length_take]; rfl)) ?_; (with_reducible refine (spec_DrawWithout.calls k2 _ _ l1 t456 t459 _ ?side1 ?side2 A130.out).mono ?_); (case side1 => repeat (first | exact (Kd.C_below HR1.out HB.out) | (with_reducible refine Kd.C_alloc ?_ _) | (with_reducible refine Kd.C_drewN ?_ _) | (with_reducible refine Kd.C_drew ?_))); (case side2 => exact HC1.out); rintro e w135 ⟨v457, rfl, ho0, hb⟩; refine ⟨_, rfl, ?_⟩; have n0_ := Aside0.mk (Kd.S_elder' (by (with_reducible repeat (first | apply Kd.S_alloc | apply Kd.S_drewN | apply Kd.S_drew)); exact HO_6.out) (Kd.S_base ho0) hb); have n1_ := Aside0.mk (Kd.R_below (by (with_reducible repeat (first | apply Kd.R_alloc | apply Kd.R_drewN | apply Kd.R_drew)); exact HO_10.out) hb); have n2_ := Aside0.mk (Kd.R_below (by (with_reducible repeat (first | apply Kd.R_alloc | apply Kd.R_drewN | apply Kd.R_drew)); exact HO_14.out) hb); have n3_ := Aside0.mk (Kd.S_elder' (by (with_reducible repeat (first | apply Kd.S_alloc | apply Kd.S_drewN | apply Kd.S_drew)); exact HO_112.out) (Kd.S_base ho0) hb); have n4_ := Aside0.mk (Kd.S_elder' (by (with_reducible repeat (first | apply Kd.S_alloc | apply Kd.S_drewN | apply Kd.S_drew)); exact HO_404000.out) (Kd.S_base ho0) hb); have n5_ := Aside0.mk (Kd.S_lower (Kd.S_new' (Kd.S_new' (Kd.S_new' (Kd.S_new' (Kd.S_new' ho0 (Kd.S_lt (by (with_reducible repeat (first | apply Kd.S_alloc | apply Kd.S_drewN | apply Kd.S_drew)); exact HO_6.out))) (Kd.R_lt (by (with_reducible repeat (first | apply Kd.R_alloc | apply Kd.R_drewN | apply Kd.R_drew)); exact HO_10.out))) (Kd.R_lt (by (with_reducible repeat (first | apply Kd.R_alloc | apply Kd.R_drewN | apply Kd.R_drew)); exact HO_14.out))) (Kd.S_lt (by (with_reducible repeat (first | apply Kd.S_alloc | apply Kd.S_drewN | apply Kd.S_drew)); exact HO_112.out))) (Kd.S_lt (by (with_reducible repeat (first | apply Kd.S_alloc | apply Kd.S_drewN | apply Kd.S_drew)); exact HO_404000.out))) (below_size (by repeat (first | (with_reducible first | exact HB.out | apply below_alloc | apply pw_below_drewN | apply below_drew1 | refine below_set ?_ GE403.out) | exact HB.out)))); have n6_ := Aside0.mk (blk_below (g := gb403) (o := .cells #[.slice Ao14 t400.length co14] 27 (0, 0)) (by (with_reducible repeat (first | refine blk_drewN ?_ _ | refine blk_drew ?_ | refine blk_alloc ?_ _)); exact BK403.out) hb); have n7_ := Aside0.mk (below_step (by repeat (first | (with_reducible first | exact HB.out | apply below_alloc | apply pw_below_drewN | apply below_drew1 | refine below_set ?_ GE403.out) | exact HB.out)) hb); clear HO_6; clear HO_10; clear HO_14; clear HO_112; clear HO_404000; clear BK403; clear HB; have HO_6 := n0_; have HO_10 := n1_; have HO_14 := n2_; have HO_112 := n3_; have HO_404000 := n4_; have HO458 := n5_; have BK403 := n6_; have HB := n7_; clear n0_ n1_ n2_ n3_ n4_ n5_ n6_ n7_; (try clear hb); (try clear hb2); (try clear hk); (try clear hi); (try clear ho0)) | ((with_reducible refine gate_dst (N := 31) rfl ?_); refine box_event ?hg (N := 31) ?hd (cs := #[.slice none 0 0]) (t := 27) ?hr ?_; (case hd => rfl); (case hg => rfl); (case hr => first | (go_simp; done) | (go_simp; rfl)); intro gb460 hg w136 hbox hb; have n0_ := Aside0.mk (Kd.S_below (by (with_reducible repeat (first | apply Kd.S_alloc | apply Kd.S_drewN | apply Kd.S_drew)); exact HO_6.out) hb); have n1_ := Aside0.mk (Kd.R_below (by (with_reducible repeat (first | apply Kd.R_alloc | apply Kd.R_drewN | apply Kd.R_drew)); exact HO_10.out) hb); have n2_ := Aside0.mk (Kd.R_below (by (with_reducible repeat (first | apply Kd.R_alloc | apply Kd.R_drewN | apply Kd.R_drew)); exact HO_14.out) hb); have n3_ := Aside0.mk (Kd.S_below (by (with_reducible repeat (first | apply Kd.S_alloc | apply Kd.S_drewN | apply Kd.S_drew)); exact HO_112.out) hb); have n4_ := Aside0.mk (Kd.S_below (by (with_reducible repeat (first | apply Kd.S_alloc | apply Kd.S_drewN | apply Kd.S_drew)); exact HO_404000.out) hb); have n5_ := Aside0.mk (Kd.S_below (by (with_reducible repeat (first | apply Kd.S_alloc | apply Kd.S_drewN | apply Kd.S_drew)); exact HO458.out) hb); have n6_ := Aside0.mk (blk_below (g := gb403) (o := .cells #[.slice Ao14 t400.length co14] 27 (0, 0)) (by (with_reducible repeat (first | refine blk_drewN ?_ _ | refine blk_drew ?_ | refine blk_alloc ?_ _)); exact BK403.out) hb); have n7_ := Aside0.mk (below_step (by repeat (first | (with_reducible first | exact HB.out | apply below_alloc | apply pw_below_drewN | apply below_drew1 | refine below_set ?_ GE403.out) | exact HB.out)) hb); have n8_ := Aside0.mk (hbox); have n9_ := Aside0.mk ((by rw [hg]; exact (below_size (by repeat (first | (with_reducible first | exact HB.out | apply below_alloc | apply pw_below_drewN | apply below_drew1 | refine below_set ?_ GE403.out) | exact HB.out))) : w.heap.size ≤ gb460)); have n10_ := Aside0.mk ((by rw [hg]; exact (below_size (by repeat (first | (with_reducible first | exact HB.out | apply below_alloc | apply pw_below_drewN | apply below_drew1 | refine below_set ?_ GE403.out) | exact HB.out))) : w.heap.size ≤ gb460)); have n11_ := Aside0.mk ((by rw [hg]; exact Nat.ne_of_lt (blk_lt (g := gb403) (o := .cells #[.slice Ao14 t400.length co14] 27 (0, 0)) (by (with_reducible repeat (first | refine blk_drewN ?_ _ | refine blk_drew ?_ | refine blk_alloc ?_ _)); exact BK403.out)) : gb403 ≠ gb460)); have n12_ := Aside0.mk ((by rw [hg]; exact Nat.ne_of_gt (blk_lt (g := gb403) (o := .cells #[.slice Ao14 t400.length co14] 27 (0, 0)) (by (with_reducible repeat (first | refine blk_drewN ?_ _ | refine blk_drew ?_ | refine blk_alloc ?_ _)); exact BK403.out)) : gb460 ≠ gb403)); clear HO_6; clear HO_10; clear HO_14; clear HO_112; clear HO_404000; clear HO458; clear BK403; clear HB; have HO_6 := n0_; have HO_10 := n1_; have HO_14 := n2_; have HO_112 := n3_; have HO_404000 := n4_; have HO458 := n5_; have BK403 := n6_; have HB := n7_; have BK460 := n8_; have GW460 := n9_; have GE460 := n10_; have NB403_460 := n11_; have NB460_403 := n12_; clear n0_ n1_ n2_ n3_ n4_ n5_ n6_ n7_ n8_ n9_ n10_ n11_ n12_; clear hb hbox hg; obtain ⟨Ao137, co137, eo137⟩ := Kd.S_slice HO458.out; subst eo137; have hnb138 := NB460_403.out; have hnc138 := NB403_460.out; have hcz139_0 : w136.cell? ⟨gb460, 0, none⟩ = some (.slice none 0 0) := (blk_cell BK460.out 0).trans rfl; have hfz139_0 := blk_frozen BK460.out 0) | ((with_reducible refine gate_callee (f := 27) rfl ?_); refine goesL_ (some 234) rfl rfl Try.func27 (by kernel_rfl) rfl #[.agg #[.slice Ao137 t456.length co137], .int .i64 t459] rfl (by (try simp only [List.map_toArray, List.map_cons, List.map_nil]); first | done | rfl | (simp only [List.length_drop, List.length_take]; rfl)) ?_; (with_reducible refine (impl_Without.calls _ _ t456 t459 t461 t464 _ ?side1 ?side2 A131.out).mono ?_); (case side1 => refine (Kd.S_reads' (e := 31) (base := w.heap.size) (ok := fun k_ => (((((True ∧ some k_ ≠ (.slice Ao64 t404.length co64 : Value).ownBlock) ∧ some k_ ≠ (v413 : Value).ownBlock) ∧ some k_ ≠ (v421 : Value).ownBlock) ∧ some k_ ≠ (.slice Ao64 t404.length co64 : Value).ownBlock) ∧ some k_ ≠ (.slice Ao14 t400.length co14 : Value).ownBlock)) (n := t456.length) (c := co137) ?_).2.2; exact (by (with_reducible repeat (first | apply Kd.S_alloc | apply Kd.S_drewN | apply Kd.S_drew)); exact (Kd.S_mono (Kd.S_far (p := ⟨gb460, 0, none⟩) (Kd.S_types HO458.out BK460.out (by decide)) (fun _ hk => hk.2) (.slice Ao137 t456.length co137)) (fun _ h_ => h_.1)))); (case side2 => exact (Kd.S_reads' HO458.out).2.1); rintro e w140 ⟨v462, rfl, ho0, hb⟩; refine ⟨_, rfl, ?_⟩; have n0_ := Aside0.mk (Kd.S_elder' (by (with_reducible repeat (first | apply Kd.S_alloc | apply Kd.S_drewN | apply Kd.S_drew)); exact (Kd.S_mono (Kd.S_far (p := ⟨gb460, 0, none⟩) (Kd.S_types HO_6.out BK460.out (by decide)) (fun _ hk => hk.2) (.slice Ao137 t456.length co137)) (fun _ h_ => h_.1))) (Kd.R_base ho0) hb); have n1_ := Aside0.mk (Kd.R_elder' (by (with_reducible repeat (first | apply Kd.R_alloc | apply Kd.R_drewN | apply Kd.R_drew)); exact (Kd.R_mono (Kd.R_far (p := ⟨gb460, 0, none⟩) (Kd.R_types HO_10.out BK460.out (by decide)) (fun _ hk => hk.2) (.slice Ao137 t456.length co137)) (fun _ h_ => h_.1))) (Kd.R_base ho0) hb); have n2_ := Aside0.mk (Kd.R_elder' (by (with_reducible repeat (first | apply Kd.R_alloc | apply Kd.R_drewN | apply Kd.R_drew)); exact (Kd.R_mono (Kd.R_far (p := ⟨gb460, 0, none⟩) (Kd.R_types HO_14.out BK460.out (by decide)) (fun _ hk => hk.2) (.slice Ao137 t456.length co137)) (fun _ h_ => h_.1))) (Kd.R_base ho0) hb); have n3_ := Aside0.mk (Kd.S_elder' (by (with_reducible repeat (first | apply Kd.S_alloc | apply Kd.S_drewN | apply Kd.S_drew)); exact (Kd.S_mono (Kd.S_far (p := ⟨gb460, 0, none⟩) (Kd.S_types HO_112.out BK460.out (by decide)) (fun _ hk => hk.2) (.slice Ao137 t456.length co137)) (fun _ h_ => h_.1))) (Kd.R_base ho0) hb); have n4_ := Aside0.mk (Kd.S_elder' (by (with_reducible repeat (first | apply Kd.S_alloc | apply Kd.S_drewN | apply Kd.S_drew)); exact (Kd.S_mono (Kd.S_far (p := ⟨gb460, 0, none⟩) (Kd.S_types HO_404000.out BK460.out (by decide)) (fun _ hk => hk.2) (.slice Ao137 t456.length co137)) (fun _ h_ => h_.1))) (Kd.R_base ho0) hb); have n5_ := Aside0.mk (Kd.S_elder' (by (with_reducible repeat (first | apply Kd.S_alloc | apply Kd.S_drewN | apply Kd.S_drew)); exact (Kd.S_mono (Kd.S_far (p := ⟨gb460, 0, none⟩) (Kd.S_types HO458.out BK460.out (by decide)) (fun _ hk => hk.2) (.slice Ao137 t456.length co137)) (fun _ h_ => h_.1))) (Kd.R_base ho0) hb); have n6_ := Aside0.mk (Kd.R_lower (Kd.R_new' (Kd.R_new' ho0 (Kd.R_lt (by (with_reducible repeat (first | apply Kd.R_alloc | apply Kd.R_drewN | apply Kd.R_drew)); exact (Kd.R_mono (Kd.R_far (p := ⟨gb460, 0, none⟩) (Kd.R_types HO_10.out BK460.out (by decide)) (fun _ hk => hk.2) (.slice Ao137 t456.length co137)) (fun _ h_ => h_.1))))) (Kd.R_lt (by (with_reducible repeat (first | apply Kd.R_alloc | apply Kd.R_drewN | apply Kd.R_drew)); exact (Kd.R_mono (Kd.R_far (p := ⟨gb460, 0, none⟩) (Kd.R_types HO_14.out BK460.out (by decide)) (fun _ hk => hk.2) (.slice Ao137 t456.length co137)) (fun _ h_ => h_.1))))) (below_size (by repeat (first | (with_reducible first | exact HB.out | apply below_alloc | apply pw_below_drewN | apply below_drew1 | refine below_set ?_ GE403.out | refine below_set ?_ GE460.out) | exact HB.out)))); have n7_ := Aside0.mk (blk_below (g := gb403) (o := .cells #[.slice Ao14 t400.length co14] 27 (0, 0)) (by (with_reducible repeat (first | refine blk_drewN ?_ _ | refine blk_drew ?_ | refine blk_alloc ?_ _)); refine blk_far ?_ NB403_460.out _; (with_reducible repeat (first | refine blk_drewN ?_ _ | refine blk_drew ?_ | refine blk_alloc ?_ _)); exact BK403.out) hb); have n8_ := Aside0.mk (blk_below (g := gb460) (o := .cells #[.slice Ao137 t456.length co137] 27 (0, 0)) (by (with_reducible repeat (first | refine blk_drewN ?_ _ | refine blk_drew ?_ | refine blk_alloc ?_ _)); refine blk_put (cs := #[.slice none 0 0]) ?_ 0 _ rfl; (with_reducible repeat (first | refine blk_drewN ?_ _ | refine blk_drew ?_ | refine blk_alloc ?_ _)); exact BK460.out) hb); have n9_ := Aside0.mk (below_step (by repeat (first | (with_reducible first | exact HB.out | apply below_alloc | apply pw_below_drewN | apply below_drew1 | refine below_set ?_ GE403.out | refine below_set ?_ GE460.out) | exact HB.out)) hb); clear HO_6; clear HO_10; clear HO_14; clear HO_112; clear HO_404000; clear HO458; clear BK403; clear BK460; clear HB; have HO_6 := n0_; have HO_10 := n1_; have HO_14 := n2_; have HO_112 := n3_; have HO_404000 := n4_; have HO458 := n5_; have HO463 := n6_; have BK403 := n7_; have BK460 := n8_; have HB := n9_; clear n0_ n1_ n2_ n3_ n4_ n5_ n6_ n7_ n8_ n9_; (try clear hb); (try clear hb2); (try clear hk); (try clear hi); (try clear ho0); have hcz141_0 : w140.cell? ⟨gb460, 0, none⟩ = some (.slice Ao137 t456.length co137) := (blk_cell BK460.out 0).trans rfl; have hfz141_0 := blk_frozen BK460.out 0) | ((with_reducible refine gate_callee (f := 26) rfl ?_); refine goesL_ (some 240) rfl rfl Try.func26 (by kernel_rfl) rfl #[.agg #[.slice Ao137 t456.length co137], .int .i64 t459] rfl (by (try simp only [List.map_toArray, List.map_cons, List.map_nil]); first | done | rfl | (simp only [List.length_drop, List.length_take]; rfl)) ?_; (with_reducible refine (spec_Without.calls k2 _ _ t456 t459 t465 t468 _ ?side1 ?side2 A132.out).mono ?_); (case side1 => repeat (first | exact (Kd.S_reads' HO458.out).2.2 | (with_reducible refine Kd.C_alloc ?_ _) | (with_reducible refine Kd.C_drewN ?_ _) | (with_reducible refine Kd.C_drew ?_))); (case side2 => exact (Kd.S_reads' HO458.out).2.1); rintro e w142 ⟨v466, rfl, ho0, hb⟩; refine ⟨_, rfl, ?_⟩; have n0_ := Aside0.mk (Kd.S_elder' (by (with_reducible repeat (first | apply Kd.S_alloc | apply Kd.S_drewN | apply Kd.S_drew)); exact HO_6.out) (Kd.R_base ho0) hb); have n1_ := Aside0.mk (Kd.R_elder' (by (with_reducible repeat (first | apply Kd.R_alloc | apply Kd.R_drewN | apply Kd.R_drew)); exact HO_10.out) (Kd.R_base ho0) hb); have n2_ := Aside0.mk (Kd.R_elder' (by (with_reducible repeat (first | apply Kd.R_alloc | apply Kd.R_drewN | apply Kd.R_drew)); exact HO_14.out) (Kd.R_base ho0) hb); have n3_ := Aside0.mk (Kd.S_elder' (by (with_reducible repeat (first | apply Kd.S_alloc | apply Kd.S_drewN | apply Kd.S_drew)); exact HO_112.out) (Kd.R_base ho0) hb); have n4_ := Aside0.mk (Kd.S_elder' (by (with_reducible repeat (first | apply Kd.S_alloc | apply Kd.S_drewN | apply Kd.S_drew)); exact HO_404000.out) (Kd.R_base ho0) hb); have n5_ := Aside0.mk (Kd.S_elder' (by (with_reducible repeat (first | apply Kd.S_alloc | apply Kd.S_drewN | apply Kd.S_drew)); exact HO458.out) (Kd.R_base ho0) hb); have n6_ := Aside0.mk (Kd.R_elder' (by (with_reducible repeat (first | apply Kd.R_alloc | apply Kd.R_drewN | apply Kd.R_drew)); exact HO463.out) (Kd.R_base ho0) hb); have n7_ := Aside0.mk (Kd.R_lower (Kd.R_new' (Kd.R_new' (Kd.R_new' ho0 (Kd.R_lt (by (with_reducible repeat (first | apply Kd.R_alloc | apply Kd.R_drewN | apply Kd.R_drew)); exact HO_10.out))) (Kd.R_lt (by (with_reducible repeat (first | apply Kd.R_alloc | apply Kd.R_drewN | apply Kd.R_drew)); exact HO_14.out))) (Kd.R_lt (by (with_reducible repeat (first | apply Kd.R_alloc | apply Kd.R_drewN | apply Kd.R_drew)); exact HO463.out))) (below_size (by repeat (first | (with_reducible first | exact HB.out | apply below_alloc | apply pw_below_drewN | apply below_drew1 | refine below_set ?_ GE403.out | refine below_set ?_ GE460.out) | exact HB.out)))); have n8_ := Aside0.mk (blk_below (g := gb403) (o := .cells #[.slice Ao14 t400.length co14] 27 (0, 0)) (by (with_reducible repeat (first | refine blk_drewN ?_ _ | refine blk_drew ?_ | refine blk_alloc ?_ _)); exact BK403.out) hb); have n9_ := Aside0.mk (blk_below (g := gb460) (o := .cells #[.slice Ao137 t456.length co137] 27 (0, 0)) (by (with_reducible repeat (first | refine blk_drewN ?_ _ | refine blk_drew ?_ | refine blk_alloc ?_ _)); exact BK460.out) hb); have n10_ := Aside0.mk (below_step (by repeat (first | (with_reducible first | exact HB.out | apply below_alloc | apply pw_below_drewN | apply below_drew1 | refine below_set ?_ GE403.out | refine below_set ?_ GE460.out) | exact HB.out)) hb); clear HO_6; clear HO_10; clear HO_14; clear HO_112; clear HO_404000; clear HO458; clear HO463; clear BK403; clear BK460; clear HB; have HO_6 := n0_; have HO_10 := n1_; have HO_14 := n2_; have HO_112 := n3_; have HO_404000 := n4_; have HO458 := n5_; have HO463 := n6_; have HO467 := n7_; have BK403 := n8_; have BK460 := n9_; have HB := n10_; clear n0_ n1_ n2_ n3_ n4_ n5_ n6_ n7_ n8_ n9_ n10_; (try clear hb); (try clear hb2); (try clear hk); (try clear hi); (try clear ho0); obtain ⟨Ao143, co143, eo143⟩ := Kd.R_slice HO463.out; subst eo143; obtain ⟨Ao144, co144, eo144⟩ := Kd.R_slice HO467.out; subst eo144) | (go_at_call 46; (with_reducible refine (laws_sameInts.calls k2 _ _ t461 _ _ t465 t469 _ ?side1 ?side2 ?side3 ?side4 A134.out).mono ?_); (case side1 => repeat (first | exact (Kd.R_reads' HO463.out).2.2 | (with_reducible refine Kd.C_alloc ?_ _) | (with_reducible refine Kd.C_drewN ?_ _) | (with_reducible refine Kd.C_drew ?_))); (case side2 => exact (Kd.R_reads' HO463.out).2.1); (case side3 => repeat (first | exact (Kd.R_reads' HO467.out).2.2 | (with_reducible refine Kd.C_alloc ?_ _) | (with_reducible refine Kd.C_drewN ?_ _) | (with_reducible refine Kd.C_drew ?_))); (case side4 => exact (Kd.R_reads' HO467.out).2.1); rintro e w' ⟨rfl, ⟨nd, rfl⟩⟩))
                    go_ret
                    exact ⟨by first | rfl | (simp [errW_none, errW_some] <;> rfl) | (simp [*, errW_none, errW_some] <;> rfl), by repeat (first | (with_reducible first | exact HB.out | apply below_alloc | apply pw_below_drewN | apply below_drew1 | refine below_set ?_ GE403.out | refine below_set ?_ GE460.out) | exact HB.out)⟩
                · rw [if_neg c133] at H
                  have c133b0 : (t464 == t468) = false := by simpa using c133
                  (try (have c133b1 : decide (t464 = t468) = false := by simpa using c133))
                  (try (have c133b2 : (t464 == t468) = false := by simpa using c133))
                  (try (have c133b3 : ¬ (t464 = t468) := by simpa using c133))
                  clear c133
                  as_aux_lemma =>
                    obtain rfl := Option.some.inj H
                    go_wp2_with (first | ((with_reducible refine gate_callee (f := 48) rfl ?_); refine goesL_ (some 228) rfl rfl Try.func48 (by kernel_rfl) rfl #[.slice A1 l1.length c1] rfl (by (try simp only [List.map_toArray, List.map_cons, List.map_nil]); first | done | rfl | (simp only [List.length_drop, List.length_take]; rfl)) ?_; (with_reducible refine (spec_DrawWithout.calls k2 _ _ l1 t456 t459 _ ?side1 ?side2 A130.out).mono ?_); (case side1 => repeat (first | exact (Kd.C_below HR1.out HB.out) | (with_reducible refine Kd.C_alloc ?_ _) | (with_reducible refine Kd.C_drewN ?_ _) | (with_reducible refine Kd.C_drew ?_))); (case side2 => exact HC1.out); rintro e w145 ⟨v457, rfl, ho0, hb⟩; refine ⟨_, rfl, ?_⟩; have n0_ := Aside0.mk (Kd.S_elder' (by (with_reducible repeat (first | apply Kd.S_alloc | apply Kd.S_drewN | apply Kd.S_drew)); exact HO_6.out) (Kd.S_base ho0) hb); have n1_ := Aside0.mk (Kd.R_below (by (with_reducible repeat (first | apply Kd.R_alloc | apply Kd.R_drewN | apply Kd.R_drew)); exact HO_10.out) hb); have n2_ := Aside0.mk (Kd.R_below (by (with_reducible repeat (first | apply Kd.R_alloc | apply Kd.R_drewN | apply Kd.R_drew)); exact HO_14.out) hb); have n3_ := Aside0.mk (Kd.S_elder' (by (with_reducible repeat (first | apply Kd.S_alloc | apply Kd.S_drewN | apply Kd.S_drew)); exact HO_112.out) (Kd.S_base ho0) hb); have n4_ := Aside0.mk (Kd.S_elder' (by (with_reducible repeat (first | apply Kd.S_alloc | apply Kd.S_drewN | apply Kd.S_drew)); exact HO_404000.out) (Kd.S_base ho0) hb); have n5_ := Aside0.mk (Kd.S_lower (Kd.S_new' (Kd.S_new' (Kd.S_new' (Kd.S_new' (Kd.S_new' ho0 (Kd.S_lt (by (with_reducible repeat (first | apply Kd.S_alloc | apply Kd.S_drewN | apply Kd.S_drew)); exact HO_6.out))) (Kd.R_lt (by (with_reducible repeat (first | apply Kd.R_alloc | apply Kd.R_drewN | apply Kd.R_drew)); exact HO_10.out))) (Kd.R_lt (by (with_reducible repeat (first | apply Kd.R_alloc | apply Kd.R_drewN | apply Kd.R_drew)); exact HO_14.out))) (Kd.S_lt (by (with_reducible repeat (first | apply Kd.S_alloc | apply Kd.S_drewN | apply Kd.S_drew)); exact HO_112.out))) (Kd.S_lt (by (with_reducible repeat (first | apply Kd.S_alloc | apply Kd.S_drewN | apply Kd.S_drew)); exact HO_404000.out))) (below_size (by repeat (first | (with_reducible first | exact HB.out | apply below_alloc | apply pw_below_drewN | apply below_drew1 | refine below_set ?_ GE403.out) | exact HB.out)))); have n6_ := Aside0.mk (blk_below (g := gb403) (o := .cells #[.slice Ao14 t400.length co14] 27 (0, 0)) (by (with_reducible repeat (first | refine blk_drewN ?_ _ | refine blk_drew ?_ | refine blk_alloc ?_ _)); exact BK403.out) hb); have n7_ := Aside0.mk (below_step (by repeat (first | (with_reducible first | exact HB.out | apply below_alloc | apply pw_below_drewN | apply below_drew1 | refine below_set ?_ GE403.out) | exact HB.out)) hb); clear HO_6; clear HO_10; clear HO_14; clear HO_112; clear HO_404000; clear BK403; clear HB; have HO_6 := n0_; have HO_10 := n1_; have HO_14 := n2_; have HO_112 := n3_; have HO_404000 := n4_; have HO458 := n5_; have BK403 := n6_; have HB := n7_; clear n0_ n1_ n2_ n3_ n4_ n5_ n6_ n7_; (try clear hb); (try clear hb2); (try clear hk); (try clear hi); (try clear ho0)) | ((with_reducible refine gate_dst (N := 31) rfl ?_); refine box_event ?hg (N := 31) ?hd (cs := #[.slice none 0 0]) (t := 27) ?hr ?_; (case hd => rfl); (case hg => rfl); (case hr => first | (go_simp; done) | (go_simp; rfl)); intro gb460 hg w146 hbox hb; have n0_ := Aside0.mk (Kd.S_below (by (with_reducible repeat (first | apply Kd.S_alloc | apply Kd.S_drewN | apply Kd.S_drew)); exact HO_6.out) hb); have n1_ := Aside0.mk (Kd.R_below (by (with_reducible repeat (first | apply Kd.R_alloc | apply Kd.R_drewN | apply Kd.R_drew)); exact HO_10.out) hb); have n2_ := Aside0.mk (Kd.R_below (by (with_reducible repeat (first | apply Kd.R_alloc | apply Kd.R_drewN | apply Kd.R_drew)); exact HO_14.out) hb); have n3_ := Aside0.mk (Kd.S_below (by (with_reducible repeat (first | apply Kd.S_alloc | apply Kd.S_drewN | apply Kd.S_drew)); exact HO_112.out) hb); have n4_ := Aside0.mk (Kd.S_below (by (with_reducible repeat (first | apply Kd.S_alloc | apply Kd.S_drewN | apply Kd.S_drew)); exact HO_404000.out) hb); have n5_ := Aside0.mk (Kd.S_below (by (with_reducible repeat (first | apply Kd.S_alloc | apply Kd.S_drewN | apply Kd.S_drew)); exact HO458.out) hb); have n6_ := Aside0.mk (blk_below (g := gb403) (o := .cells #[.slice Ao14 t400.length co14] 27 (0, 0)) (by (with_reducible repeat (first | refine blk_drewN ?_ _ | refine blk_drew ?_ | refine blk_alloc ?_ _)); exact BK403.out) hb); have n7_ := Aside0.mk (below_step (by repeat (first | (with_reducible first | exact HB.out | apply below_alloc | apply pw_below_drewN | apply below_drew1 | refine below_set ?_ GE403.out) | exact HB.out)) hb); have n8_ := Aside0.mk (hbox); have n9_ := Aside0.mk ((by rw [hg]; exact (below_size (by repeat (first | (with_reducible first | exact HB.out | apply below_alloc | apply pw_below_drewN | apply below_drew1 | refine below_set ?_ GE403.out) | exact HB.out))) : w.heap.size ≤ gb460)); have n10_ := Aside0.mk ((by rw [hg]; exact (below_size (by repeat (first | (with_reducible first | exact HB.out | apply below_alloc | apply pw_below_drewN | apply below_drew1 | refine below_set ?_ GE403.out) | exact HB.out))) : w.heap.size ≤ gb460)); have n11_ := Aside0.mk ((by rw [hg]; exact Nat.ne_of_lt (blk_lt (g := gb403) (o := .cells #[.slice Ao14 t400.length co14] 27 (0, 0)) (by (with_reducible repeat (first | refine blk_drewN ?_ _ | refine blk_drew ?_ | refine blk_alloc ?_ _)); exact BK403.out)) : gb403 ≠ gb460)); have n12_ := Aside0.mk ((by rw [hg]; exact Nat.ne_of_gt (blk_lt (g := gb403) (o := .cells #[.slice Ao14 t400.length co14] 27 (0, 0)) (by (with_reducible repeat (first | refine blk_drewN ?_ _ | refine blk_drew ?_ | refine blk_alloc ?_ _)); exact BK403.out)) : gb460 ≠ gb403)); clear HO_6; clear HO_10; clear HO_14; clear HO_112; clear HO_404000; clear HO458; clear BK403; clear HB; have HO_6 := n0_; have HO_10 := n1_; have HO_14 := n2_; have HO_112 := n3_; have HO_404000 := n4_; have HO458 := n5_; have BK403 := n6_; have HB := n7_; have BK460 := n8_; have GW460 := n9_; have GE460 := n10_; have NB403_460 := n11_; have NB460_403 := n12_; clear n0_ n1_ n2_ n3_ n4_ n5_ n6_ n7_ n8_ n9_ n10_ n11_ n12_; clear hb hbox hg; obtain ⟨Ao147, co147, eo147⟩ := Kd.S_slice HO458.out; subst eo147; have hnb148 := NB460_403.out; have hnc148 := NB403_460.out; have hcz149_0 : w146.cell? ⟨gb460, 0, none⟩ = some (.slice none 0 0) := (blk_cell BK460.out 0).trans rfl; have hfz149_0 := blk_frozen BK460.out 0) | ((with_reducible refine gate_callee (f := 27) rfl ?_); refine goesL_ (some 234) rfl rfl Try.func27 (by kernel_rfl) rfl #[.agg #[.slice Ao147 t456.length co147], .int .i64 t459] rfl (by (try simp only [List.map_toArray, List.map_cons, List.map_nil]); first | done | rfl | (simp only [List.length_drop, List.length_take]; rfl)) ?_; (with_reducible refine (impl_Without.calls _ _ t456 t459 t461 t464 _ ?side1 ?side2 A131.out).mono ?_); (case side1 => refine (Kd.S_reads' (e := 31) (base := w.heap.size) (ok := fun k_ => (((((True ∧ some k_ ≠ (.slice Ao64 t404.length co64 : Value).ownBlock) ∧ some k_ ≠ (v413 : Value).ownBlock) ∧ some k_ ≠ (v421 : Value).ownBlock) ∧ some k_ ≠ (.slice Ao64 t404.length co64 : Value).ownBlock) ∧ some k_ ≠ (.slice Ao14 t400.length co14 : Value).ownBlock)) (n := t456.length) (c := co147) ?_).2.2; exact (by (with_reducible repeat (first | apply Kd.S_alloc | apply Kd.S_drewN | apply Kd.S_drew)); exact (Kd.S_mono (Kd.S_far (p := ⟨gb460, 0, none⟩) (Kd.S_types HO458.out BK460.out (by decide)) (fun _ hk => hk.2) (.slice Ao147 t456.length co147)) (fun _ h_ => h_.1)))); (case side2 => exact (Kd.S_reads' HO458.out).2.1); rintro e w150 ⟨v462, rfl, ho0, hb⟩; refine ⟨_, rfl, ?_⟩; have n0_ := Aside0.mk (Kd.S_elder' (by (with_reducible repeat (first | apply Kd.S_alloc | apply Kd.S_drewN | apply Kd.S_drew)); exact (Kd.S_mono (Kd.S_far (p := ⟨gb460, 0, none⟩) (Kd.S_types HO_6.out BK460.out (by decide)) (fun _ hk => hk.2) (.slice Ao147 t456.length co147)) (fun _ h_ => h_.1))) (Kd.R_base ho0) hb); have n1_ := Aside0.mk (Kd.R_elder' (by (with_reducible repeat (first | apply Kd.R_alloc | apply Kd.R_drewN | apply Kd.R_drew)); exact (Kd.R_mono (Kd.R_far (p := ⟨gb460, 0, none⟩) (Kd.R_types HO_10.out BK460.out (by decide)) (fun _ hk => hk.2) (.slice Ao147 t456.length co147)) (fun _ h_ => h_.1))) (Kd.R_base ho0) hb); have n2_ := Aside0.mk (Kd.R_elder' (by (with_reducible repeat (first | apply Kd.R_alloc | apply Kd.R_drewN | apply Kd.R_drew)); exact (Kd.R_mono (Kd.R_far (p := ⟨gb460, 0, none⟩) (Kd.R_types HO_14.out BK460.out (by decide)) (fun _ hk => hk.2) (.slice Ao147 t456.length co147)) (fun _ h_ => h_.1))) (Kd.R_base ho0) hb); have n3_ := Aside0.mk (Kd.S_elder' (by (with_reducible repeat (first | apply Kd.S_alloc | apply Kd.S_drewN | apply Kd.S_drew)); exact (Kd.S_mono (Kd.S_far (p := ⟨gb460, 0, none⟩) (Kd.S_types HO_112.out BK460.out (by decide)) (fun _ hk => hk.2) (.slice Ao147 t456.length co147)) (fun _ h_ => h_.1))) (Kd.R_base ho0) hb); have n4_ := Aside0.mk (Kd.S_elder' (by (with_reducible repeat (first | apply Kd.S_alloc | apply Kd.S_drewN | apply Kd.S_drew)); exact (Kd.S_mono (Kd.S_far (p := ⟨gb460, 0, none⟩) (Kd.S_types HO_404000.out BK460.out (by decide)) (fun _ hk => hk.2) (.slice Ao147 t456.length co147)) (fun _ h_ => h_.1))) (Kd.R_base ho0) hb); have n5_ := Aside0.mk (Kd.S_elder' (by (with_reducible repeat (first | apply Kd.S_alloc | apply Kd.S_drewN | apply Kd.S_drew)); exact (Kd.S_mono (Kd.S_far (p := ⟨gb460, 0, none⟩) (Kd.S_types HO458.out BK460.out (by decide)) (fun _ hk => hk.2) (.slice Ao147 t456.length co147)) (fun _ h_ => h_.1))) (Kd.R_base ho0) hb); have n6_ := Aside0.mk (Kd.R_lower (Kd.R_new' (Kd.R_new' ho0 (Kd.R_lt (by (with_reducible repeat (first | apply Kd.R_alloc | apply Kd.R_drewN | apply Kd.R_drew)); exact (Kd.R_mono (Kd.R_far (p := ⟨gb460, 0, none⟩) (Kd.R_types HO_10.out BK460.out (by decide)) (fun _ hk => hk.2) (.slice Ao147 t456.length co147)) (fun _ h_ => h_.1))))) (Kd.R_lt (by (with_reducible repeat (first | apply Kd.R_alloc | apply Kd.R_drewN | apply Kd.R_drew)); exact (Kd.R_mono (Kd.R_far (p := ⟨gb460, 0, none⟩) (Kd.R_types HO_14.out BK460.out (by decide)) (fun _ hk => hk.2) (.slice Ao147 t456.length co147)) (fun _ h_ => h_.1))))) (below_size (by repeat (first | (with_reducible first | exact HB.out | apply below_alloc | apply pw_below_drewN | apply below_drew1 | refine below_set ?_ GE403.out | refine below_set ?_ GE460.out) | exact HB.out)))); have n7_ := Aside0.mk (blk_below (g := gb403) (o := .cells #[.slice Ao14 t400.length co14] 27 (0, 0)) (by (with_reducible repeat (first | refine blk_drewN ?_ _ | refine blk_drew ?_ | refine blk_alloc ?_ _)); refine blk_far ?_ NB403_460.out _; (with_reducible repeat (first | refine blk_drewN ?_ _ | refine blk_drew ?_ | refine blk_alloc ?_ _)); exact BK403.out) hb); have n8_ := Aside0.mk (blk_below (g := gb460) (o := .cells #[.slice Ao147 t456.length co147] 27 (0, 0)) (by (with_reducible repeat (first | refine blk_drewN ?_ _ | refine blk_drew ?_ | refine blk_alloc ?_ _)); refine blk_put (cs := #[.slice none 0 0]) ?_ 0 _ rfl; (with_reducible repeat (first | refine blk_drewN ?_ _ | refine blk_drew ?_ | refine blk_alloc ?_ _)); exact BK460.out) hb); have n9_ := Aside0.mk (below_step (by repeat (first | (with_reducible first | exact HB.out | apply below_alloc | apply pw_below_drewN | apply below_drew1 | refine below_set ?_ GE403.out | refine below_set ?_ GE460.out) | exact HB.out)) hb); clear HO_6; clear HO_10; clear HO_14; clear HO_112; clear HO_404000; clear HO458; clear BK403; clear BK460; clear HB; have HO_6 := n0_; have HO_10 := n1_; have HO_14 := n2_; have HO_112 := n3_; have HO_404000 := n4_; have HO458 := n5_; have HO463 := n6_; have BK403 := n7_; have BK460 := n8_; have HB := n9_; clear n0_ n1_ n2_ n3_ n4_ n5_ n6_ n7_ n8_ n9_; (try clear hb); (try clear hb2); (try clear hk); (try clear hi); (try clear ho0); have hcz151_0 : w150.cell? ⟨gb460, 0, none⟩ = some (.slice Ao147 t456.length co147) := (blk_cell BK460.out 0).trans rfl; have hfz151_0 := blk_frozen BK460.out 0) | ((with_reducible refine gate_callee (f := 26) rfl ?_); refine goesL_ (some 240) rfl rfl Try.func26 (by kernel_rfl) rfl #[.agg #[.slice Ao147 t456.length co147], .int .i64 t459] rfl (by (try simp only [List.map_toArray, List.map_cons, List.map_nil]); first | done | rfl | (simp only [List.length_drop, List.length_take]; rfl)) ?_; (with_reducible refine (spec_Without.calls k2 _ _ t456 t459 t465 t468 _ ?side1 ?side2 A132.out).mono ?_); (case side1 => repeat (first | exact (Kd.S_reads' HO458.out).2.2 | (with_reducible refine Kd.C_alloc ?_ _) | (with_reducible refine Kd.C_drewN ?_ _) | (with_reducible refine Kd.C_drew ?_))); (case side2 => exact (Kd.S_reads' HO458.out).2.1); rintro e w152 ⟨v466, rfl, ho0, hb⟩; refine ⟨_, rfl, ?_⟩; have n0_ := Aside0.mk (Kd.S_elder' (by (with_reducible repeat (first | apply Kd.S_alloc | apply Kd.S_drewN | apply Kd.S_drew)); exact HO_6.out) (Kd.R_base ho0) hb); have n1_ := Aside0.mk (Kd.R_elder' (by (with_reducible repeat (first | apply Kd.R_alloc | apply Kd.R_drewN | apply Kd.R_drew)); exact HO_10.out) (Kd.R_base ho0) hb); have n2_ := Aside0.mk (Kd.R_elder' (by (with_reducible repeat (first | apply Kd.R_alloc | apply Kd.R_drewN | apply Kd.R_drew)); exact HO_14.out) (Kd.R_base ho0) hb); have n3_ := Aside0.mk (Kd.S_elder' (by (with_reducible repeat (first | apply Kd.S_alloc | apply Kd.S_drewN | apply Kd.S_drew)); exact HO_112.out) (Kd.R_base ho0) hb); have n4_ := Aside0.mk (Kd.S_elder' (by (with_reducible repeat (first | apply Kd.S_alloc | apply Kd.S_drewN | apply Kd.S_drew)); exact HO_404000.out) (Kd.R_base ho0) hb); have n5_ := Aside0.mk (Kd.S_elder' (by (with_reducible repeat (first | apply Kd.S_alloc | apply Kd.S_drewN | apply Kd.S_drew)); exact HO458.out) (Kd.R_base ho0) hb); have n6_ := Aside0.mk (Kd.R_elder' (by (with_reducible repeat (first | apply Kd.R_alloc | apply Kd.R_drewN | apply Kd.R_drew)); exact HO463.out) (Kd.R_base ho0) hb); have n7_ := Aside0.mk (Kd.R_lower (Kd.R_new' (Kd.R_new' (Kd.R_new' ho0 (Kd.R_lt (by (with_reducible repeat (first | apply Kd.R_alloc | apply Kd.R_drewN | apply Kd.R_drew)); exact HO_10.out))) (Kd.R_lt (by (with_reducible repeat (first | apply Kd.R_alloc | apply Kd.R_drewN | apply Kd.R_drew)); exact HO_14.out))) (Kd.R_lt (by (with_reducible repeat (first | apply Kd.R_alloc | apply Kd.R_drewN | apply Kd.R_drew)); exact HO463.out))) (below_size (by repeat (first | (with_reducible first | exact HB.out | apply below_alloc | apply pw_below_drewN | apply below_drew1 | refine below_set ?_ GE403.out | refine below_set ?_ GE460.out) | exact HB.out)))); have n8_ := Aside0.mk (blk_below (g := gb403) (o := .cells #[.slice Ao14 t400.length co14] 27 (0, 0)) (by (with_reducible repeat (first | refine blk_drewN ?_ _ | refine blk_drew ?_ | refine blk_alloc ?_ _)); exact BK403.out) hb); have n9_ := Aside0.mk (blk_below (g := gb460) (o := .cells #[.slice Ao147 t456.length co147] 27 (0, 0)) (by (with_reducible repeat (first | refine blk_drewN ?_ _ | refine blk_drew ?_ | refine blk_alloc ?_ _)); exact BK460.out) hb); have n10_ := Aside0.mk (below_step (by repeat (first | (with_reducible first | exact HB.out | apply below_alloc | apply pw_below_drewN | apply below_drew1 | refine below_set ?_ GE403.out | refine below_set ?_ GE460.out) | exact HB.out)) hb); clear HO_6; clear HO_10; clear HO_14; clear HO_112; clear HO_404000; clear HO458; clear HO463; clear BK403; clear BK460; clear HB; have HO_6 := n0_; have HO_10 := n1_; have HO_14 := n2_; have HO_112 := n3_; have HO_404000 := n4_; have HO458 := n5_; have HO463 := n6_; have HO467 := n7_; have BK403 := n8_; have BK460 := n9_; have HB := n10_; clear n0_ n1_ n2_ n3_ n4_ n5_ n6_ n7_ n8_ n9_ n10_; (try clear hb); (try clear hb2); (try clear hk); (try clear hi); (try clear ho0)))
                    go_ret
                    exact ⟨by first | rfl | (simp [errW_none, errW_some] <;> rfl) | (simp [*, errW_none, errW_some] <;> rfl), by repeat (first | (with_reducible first | exact HB.out | apply below_alloc | apply pw_below_drewN | apply below_drew1 | refine below_set ?_ GE403.out | refine below_set ?_ GE460.out) | exact HB.out)⟩
def laws_FnDominators.Pure : Prop := ∀ (l0 : List Int) (l1 : List Int), l0.length ≤ maxLen → l0.length * 1 ≤ 140737488351232 → (∀ x ∈ l0, (Lit.int .u8 x).wf = true) → l1.length ≤ maxLen → l1.length * 1 ≤ 140737488351232 → (∀ x ∈ l1, (Lit.int .u8 x).wf = true) → ∃ k, laws_FnDominators.f k l0 l1 = some true
theorem laws_FnDominators.walk (P : laws_FnDominators.Pure) (a0 : Option Addr) (len0 cap0 : Nat) (z0 : List Int) (a1 : Option Addr) (len1 cap1 : Nat) (z1 : List Int) (w : World) (w0 : (a0 = none ∧ len0 = 0 ∧ cap0 = 0 ∧ z0 = []) ∨ ∃ x, a0 = some x ∧ len0 ≤ cap0 ∧ cap0 ≤ maxLen ∧ z0.length = cap0 ∧ (∀ i, i < z0.length → w.cell? (x.add i) = some (.int .u8 (z0.getD i 0))) ∧ ∀ n ∈ z0, (Lit.int .u8 n).wf = true) (y0 : len0 * 1 ≤ 140737488351232) (w1 : (a1 = none ∧ len1 = 0 ∧ cap1 = 0 ∧ z1 = []) ∨ ∃ x, a1 = some x ∧ len1 ≤ cap1 ∧ cap1 ≤ maxLen ∧ z1.length = cap1 ∧ (∀ i, i < z1.length → w.cell? (x.add i) = some (.int .u8 (z1.getD i 0))) ∧ ∀ n ∈ z1, (Lit.int .u8 n).wf = true) (y1 : len1 * 1 ≤ 140737488351232) :
    Calls Try.prog 12 #[.slice a0 len0 cap0, .slice a1 len1 cap1] w fun e w' => e = .returned (.bool true) ∧ Below w.heap.size w w' := by
  obtain ⟨l0, rfl, hr0, hm0, hw0, hc0⟩ := ReadsInt.ofRowC w0
  obtain ⟨l1, rfl, hr1, hm1, hw1, hc1⟩ := ReadsInt.ofRowC w1
  obtain ⟨k, h⟩ := P l0 l1 hm0 y0 hw0 hm1 y1 hw1
  refine (laws_FnDominators.calls k _ _ l0 _ _ l1 true w (Kd.C_of_reads (d := (0 : Int)) (h1 := fun _ => rfl) hr0) hc0 (Kd.C_of_reads (d := (0 : Int)) (h1 := fun _ => rfl) hr1) hc1 h ⟨rfl⟩).mono ?_
  rintro e w' ⟨rfl, hd⟩
  exact ⟨rfl, hd⟩
end Go.Proofs.Ytplcipjlkogadaa.P

