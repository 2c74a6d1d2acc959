import Derived.Test.YtplcipjlkogadaaMFnLoops1
import Derived.Test.YtplcipjlkogadaaMFnLoops2
import Derived.Test.YtplcipjlkogadaaMFnLoops3
import Derived.Test.YtplcipjlkogadaaMFnLoops4
import Derived.Test.YtplcipjlkogadaaMFnLoops5
set_option linter.unusedVariables false
set_option linter.unusedSimpArgs false
set_option linter.unusedSectionVars false
namespace Go.Proofs.Ytplcipjlkogadaa.P
open Go.RowKit Go.Proofs.YtplcipjlkogadaaW.PrintWords Go.Proofs.YtplcipjlkogadaaW.PrintLast Go.Proofs.YtplcipjlkogadaaW.PrintMore
attribute [local go_sem] max2_int min2_int max_two min_two max_three min_three max_four min_four
mutual
def laws_FnLoops.j0 : Nat → List Int → Int → Int → List Int → Bool → Bool → List (List Int) → Option (Bool)
  | 0, _, _, _, _, _, _, _ => none
  | k + 1, x1, x6, x7, x8, x9, x65, x485000 => if x65 = true then (some false) else (if x9 = true then ((impl_ReachedOf.f x485000).bind fun bt494 => ((impl_DominatorsOf.f x485000).bind fun bt498 => (if bt494.2 = true then (if bt498.2 = true then ((laws_has.f k x8 x6).bind fun t502 => (if t502 = true then ((laws_has.f k x8 x7).bind fun t503 => (laws_FnLoops.j1 k x1 x7 x8 bt494.1 bt498.1 (!t503) x485000)) else (laws_FnLoops.j1 k x1 x7 x8 bt494.1 bt498.1 true x485000))) else (laws_FnLoops.j1 k x1 x7 x8 bt494.1 bt498.1 true x485000)) else (laws_FnLoops.j1 k x1 x7 x8 bt494.1 bt498.1 true x485000)))) else (laws_FnLoops.j5 k x1))
def laws_FnLoops.j5 : Nat → List Int → Option (Bool)
  | 0, _ => none
  | k + 1, x1 => (spec_DrawBackEdges.f k x1).bind fun t513 => ((impl_BackEdges.f t513).bind fun bt517 => ((spec_BackEdges.f k t513).bind fun bt521 => (if (bt517.2 != bt521.2) = true then (laws_FnLoops.j6 k bt517.1 true t513) else ((laws_sameLists.f k bt517.1 bt521.1).bind fun t525 => (laws_FnLoops.j6 k bt517.1 (!t525) t513)))))
def laws_FnLoops.j6 : Nat → List (List Int) → Bool → List (List Int) → Option (Bool)
  | 0, _, _, _ => none
  | k + 1, x23, x169, x517000 => if x169 = true then (some false) else (laws_FnLoops.l3 k x23 (x23.length : Int) 0 x517000)
def laws_FnLoops.l3 : Nat → List (List Int) → Int → Int → List (List Int) → Option (Bool)
  | 0, _, _, _, _ => none
  | k + 1, x170, x171, x172, x517000 => if x172 < x171 then (if 0 ≤ x172 then (if x172 < (x170.length : Int) then (if 0 < ((rd_L1 x170 x172).length : Int) then (if 1 < ((rd_L1 x170 x172).length : Int) then ((impl_LoopOf.f x517000 (rd (rd_L1 x170 x172) 0) (rd (rd_L1 x170 x172) 1)).bind fun bt529 => (if bt529.2 = true then (laws_FnLoops.l3 k x170 x171 (wrap64 (x172 + 1)) x517000) else (some false))) else (none)) else (none)) else (none)) else (none)) else (some true)
def laws_FnLoops.j1 : Nat → List Int → Int → List Int → List Int → List (List Int) → Bool → List (List Int) → Option (Bool)
  | 0, _, _, _, _, _, _, _ => none
  | k + 1, x1, x7, x8, x12, x14, x94, x485000 => if x94 = true then (some false) else (laws_FnLoops.l0 k x1 x7 x8 x12 x14 x8 (x8.length : Int) 0 x485000)
def laws_FnLoops.l0 : Nat → List Int → Int → List Int → List Int → List (List Int) → List Int → Int → Int → List (List Int) → Option (Bool)
  | 0, _, _, _, _, _, _, _, _, _ => none
  | k + 1, x1, x7, x8, x12, x14, x95, x96, x97, x485000 => if x97 < x96 then (if 0 ≤ x97 then (if x97 < (x95.length : Int) then ((laws_has.f k x12 (rd x95 x97)).bind fun t505 => (if t505 = true then (if 0 ≤ (rd x95 x97) then (if (rd x95 x97) < (x14.length : Int) then ((laws_has.f k (rd_L1 x14 (rd x95 x97)) x7).bind fun t507 => (if t507 = true then (laws_FnLoops.l0 k x1 x7 x8 x12 x14 x95 x96 (wrap64 (x97 + 1)) x485000) else (some false))) else (none)) else (none)) else (laws_FnLoops.l0 k x1 x7 x8 x12 x14 x95 x96 (wrap64 (x97 + 1)) x485000))) else (none)) else (none)) else (laws_FnLoops.l1 k x1 x7 x8 x12 x485000 (x485000.length : Int) 0)
def laws_FnLoops.l1 : Nat → List Int → Int → List Int → List Int → List (List Int) → Int → Int → Option (Bool)
  | 0, _, _, _, _, _, _, _ => none
  | k + 1, x1, x7, x8, x12, x115, x116, x117 => if x117 < x116 then (if 0 ≤ x117 then (if x117 < (x115.length : Int) then (laws_FnLoops.l2 k x1 x7 x8 x12 x117 x115 x116 x117 (rd_L1 x115 x117) ((rd_L1 x115 x117).length : Int) 0) else (none)) else (none)) else (laws_FnLoops.j5 k x1)
def laws_FnLoops.l2 : Nat → List Int → Int → List Int → List Int → Int → List (List Int) → Int → Int → List Int → Int → Int → Option (Bool)
  | 0, _, _, _, _, _, _, _, _, _, _, _ => none
  | k + 1, x1, x7, x8, x12, x18, x115, x116, x117, x122, x123, x124 => if x124 < x123 then (if 0 ≤ x124 then (if x124 < (x122.length : Int) then ((laws_has.f k x12 x18).bind fun t510 => (if t510 = true then ((laws_has.f k x8 x18).bind fun t511 => (if t511 = true then (laws_FnLoops.l2 k x1 x7 x8 x12 x18 x115 x116 x117 x122 x123 (wrap64 (x124 + 1))) else ((laws_has.f k x8 (rd x122 x124)).bind fun t512 => (if t512 = true then (if (rd x122 x124) = x7 then (laws_FnLoops.l2 k x1 x7 x8 x12 x18 x115 x116 x117 x122 x123 (wrap64 (x124 + 1))) else (some false)) else (laws_FnLoops.l2 k x1 x7 x8 x12 x18 x115 x116 x117 x122 x123 (wrap64 (x124 + 1))))))) else (laws_FnLoops.l2 k x1 x7 x8 x12 x18 x115 x116 x117 x122 x123 (wrap64 (x124 + 1))))) else (none)) else (none)) else (laws_FnLoops.l1 k x1 x7 x8 x12 x115 x116 (wrap64 (x117 + 1)))
end
def laws_FnLoops.f (k : Nat) (l0 : List Int) (l1 : List Int) : Option (Bool) := if (wrap64 ((l0.length : Int) + (l1.length : Int))) > 1048576 then (some true) else ((spec_DrawLoopOf.f k l0).bind fun bt479 => ((impl_LoopOf.f bt479.1 bt479.2.1 bt479.2.2).bind fun bt485 => ((spec_LoopOf.f k bt479.1 bt479.2.1 bt479.2.2).bind fun bt489 => (if (bt485.2 != bt489.2) = true then (laws_FnLoops.j0 k l1 bt479.2.1 bt479.2.2 bt485.1 bt485.2 true bt479.1) else ((laws_sameInts.f k bt485.1 bt489.1).bind fun t493 => (laws_FnLoops.j0 k l1 bt479.2.1 bt479.2.2 bt485.1 bt485.2 (!t493) bt479.1))))))
def laws_FnLoops.T37 : Bool × List (List Nat × List Nat) := (true, [([], []), ([], []), ([1], [1]), ([2], [2]), ([], []), ([4], [4]), ([5], [5]), ([0, 3, 6], [0, 3, 6]), ([7], [7]), ([8], [8]), ([8], [8]), ([9, 7, 0, 1, 2, 3, 4, 5, 6, 7, 8, 9], [9]), ([10, 11, 0, 1, 2, 3, 4, 5, 6, 7, 8, 9, 10, 11], [10])])
def laws_FnLoops.B37 : List Nat := [0, 0, 2, 6, 0, 16, 48, 127, 255, 511, 511, 1023, 4095]
theorem laws_FnLoops.tab37 : rtab .any (opsOf Try.f14 37) = laws_FnLoops.T37 := by kernel_rfl
theorem laws_FnLoops.bits37 : waitsOk laws_FnLoops.T37.2 laws_FnLoops.B37 = true := by kernel_rfl
set_option maxHeartbeats 8000000 in
set_option maxRecDepth 100000 in
theorem laws_FnLoops.calls (k : Nat) (A0 : Option Addr) (c0 : Nat) (l0 : List Int) (A1 : Option Addr) (c1 : Nat) (l1 : List Int) (r : Bool) (w : World) (hr0 : Kd.C (Kd.int .u8) w A0 l0.length l0) (hc0 : l0.length ≤ c0) (hr1 : Kd.C (Kd.int .u8) w A1 l1.length l1) (hc1 : l1.length ≤ c1) (h : laws_FnLoops.f k l0 l1 = some r) (hrt : Aside0 (r = true)) :
    Calls Try.prog 14 #[.slice A0 l0.length c0, .slice A1 l1.length c1] w fun e w' => e = .returned (.bool r) ∧ Below w.heap.size w w' := by
  have hu27 := Try.underlying27
  have HR0 := Aside0.mk hr0
  have HC0 := Aside0.mk hc0
  clear hr0 hc0
  have HR1 := Aside0.mk hr1
  have HC1 := Aside0.mk hc1
  clear hr1 hc1
  have HB := Aside0.mk (Below.refl w.heap.size w)
  have H : (if (wrap64 ((l0.length : Int) + (l1.length : Int))) > 1048576 then (some true) else ((spec_DrawLoopOf.f k l0).bind fun bt479 => ((impl_LoopOf.f bt479.1 bt479.2.1 bt479.2.2).bind fun bt485 => ((spec_LoopOf.f k bt479.1 bt479.2.1 bt479.2.2).bind fun bt489 => (if (bt485.2 != bt489.2) = true then (laws_FnLoops.j0 k l1 bt479.2.1 bt479.2.2 bt485.1 bt485.2 true bt479.1) else ((laws_sameInts.f k bt485.1 bt489.1).bind fun t493 => (laws_FnLoops.j0 k l1 bt479.2.1 bt479.2.2 bt485.1 bt485.2 (!t493) bt479.1))))))) = some r := h
  clear h
  by_cases c3 : (wrap64 ((l0.length : Int) + (l1.length : Int))) > 1048576
  · rw [if_pos c3] at H
    have c3b0 : decide (1048576 < (wrap64 ((l0.length : Int) + (l1.length : Int)))) = true := decide_eq_true c3
    clear c3
    as_aux_lemma =>
      obtain rfl := Option.some.inj H
      go_enter Try.func14, Try.ntmps14
      go_wp2
      go_ret
      exact ⟨by first | rfl | (simp [errW_none, errW_some] <;> rfl) | (simp [*, errW_none, errW_some] <;> rfl), by repeat (first | (with_reducible first | exact HB.out | apply below_alloc | apply pw_below_drewN | apply below_drew1) | exact HB.out)⟩
  · rw [if_neg c3] at H
    have c3b0 : decide (1048576 < (wrap64 ((l0.length : Int) + (l1.length : Int)))) = false := decide_eq_false c3
    clear c3
    replace H := Option.bind_eq_some_iff.mp H
    obtain ⟨⟨t479, t482, t483⟩, A40, H⟩ := H
    replace H : ((impl_LoopOf.f t479 t482 t483).bind fun bt485 => ((spec_LoopOf.f k t479 t482 t483).bind fun bt489 => (if (bt485.2 != bt489.2) = true then (laws_FnLoops.j0 k l1 t482 t483 bt485.1 bt485.2 true t479) else ((laws_sameInts.f k bt485.1 bt489.1).bind fun t493 => (laws_FnLoops.j0 k l1 t482 t483 bt485.1 bt485.2 (!t493) t479))))) = some r := H
    have A4 := Aside0.mk A40
    clear A40
    replace H := Option.bind_eq_some_iff.mp H
    obtain ⟨⟨t485, t488⟩, A50, H⟩ := H
    replace H : ((spec_LoopOf.f k t479 t482 t483).bind fun bt489 => (if (t488 != bt489.2) = true then (laws_FnLoops.j0 k l1 t482 t483 t485 t488 true t479) else ((laws_sameInts.f k t485 bt489.1).bind fun t493 => (laws_FnLoops.j0 k l1 t482 t483 t485 t488 (!t493) t479)))) = some r := H
    have A5 := Aside0.mk A50
    clear A50
    replace H := Option.bind_eq_some_iff.mp H
    obtain ⟨⟨t489, t492⟩, A60, H⟩ := H
    replace H : (if (t488 != t492) = true then (laws_FnLoops.j0 k l1 t482 t483 t485 t488 true t479) else ((laws_sameInts.f k t485 t489).bind fun t493 => (laws_FnLoops.j0 k l1 t482 t483 t485 t488 (!t493) t479))) = some r := H
    have A6 := Aside0.mk A60
    clear A60
    have HC7 := Aside0.mk H
    clear H
    go_enter Try.func14, Try.ntmps14
    go_upto_region 6 with (first | ((with_reducible refine gate_callee (f := 51) rfl ?_); refine goesL_ (some 39) rfl rfl Try.func51 (by kernel_rfl) rfl #[.slice A0 l0.length c0] rfl (by (try simp only [List.map_toArray, List.map_cons, List.map_nil]); first | done | rfl | (simp only [List.length_drop, List.length_take]; rfl)) ?_; (with_reducible refine (spec_DrawLoopOf.calls k _ _ l0 t479 t482 t483 _ ?side1 ?side2 A4.out).mono ?_); (case side1 => repeat (first | exact HR0.out | (with_reducible refine Kd.C_alloc ?_ _) | (with_reducible refine Kd.C_drewN ?_ _) | (with_reducible refine Kd.C_drew ?_))); (case side2 => exact HC0.out); rintro e w8 ⟨v480, rfl, ho0, hb⟩; refine ⟨_, rfl, ?_⟩; have n0_ := Aside0.mk (Kd.S_lower ho0 (below_size (by repeat (first | (with_reducible first | exact HB.out | apply below_alloc | apply pw_below_drewN | apply below_drew1) | exact HB.out)))); have n1_ := Aside0.mk (below_step (by repeat (first | (with_reducible first | exact HB.out | apply below_alloc | apply pw_below_drewN | apply below_drew1) | exact HB.out)) hb); clear HB; have HO481 := n0_; have HB := n1_; clear n0_ n1_; (try clear hb); (try clear hb2); (try clear hk); (try clear hi); (try clear ho0)) | ((with_reducible refine gate_dst (N := 5) rfl ?_); refine box_event ?hg (N := 5) ?hd (cs := #[.slice none 0 0]) (t := 27) ?hr ?_; (case hd => rfl); (case hg => rfl); (case hr => first | (go_simp; done) | (go_simp; rfl)); intro gb484 hg w9 hbox hb; have n0_ := Aside0.mk (Kd.S_below (by (with_reducible repeat (first | apply Kd.S_alloc | apply Kd.S_drewN | apply Kd.S_drew)); exact HO481.out) hb); have n1_ := Aside0.mk (below_step (by repeat (first | (with_reducible first | exact HB.out | apply below_alloc | apply pw_below_drewN | apply below_drew1) | exact HB.out)) hb); have n2_ := Aside0.mk (hbox); have n3_ := Aside0.mk ((by rw [hg]; exact (below_size (by repeat (first | (with_reducible first | exact HB.out | apply below_alloc | apply pw_below_drewN | apply below_drew1) | exact HB.out))) : w.heap.size ≤ gb484)); have n4_ := Aside0.mk ((by rw [hg]; exact (below_size (by repeat (first | (with_reducible first | exact HB.out | apply below_alloc | apply pw_below_drewN | apply below_drew1) | exact HB.out))) : w.heap.size ≤ gb484)); clear HO481; clear HB; have HO481 := n0_; have HB := n1_; have BK484 := n2_; have GW484 := n3_; have GE484 := n4_; clear n0_ n1_ n2_ n3_ n4_; clear hb hbox hg; obtain ⟨Ao10, co10, eo10⟩ := Kd.S_slice HO481.out; subst eo10; have hcz11_0 : w9.cell? ⟨gb484, 0, none⟩ = some (.slice none 0 0) := (blk_cell BK484.out 0).trans rfl; have hfz11_0 := blk_frozen BK484.out 0) | ((with_reducible refine gate_callee (f := 43) rfl ?_); refine goesL_ (some 47) rfl rfl Try.func43 (by kernel_rfl) rfl #[.agg #[.slice Ao10 t479.length co10], .int .i64 t482, .int .i64 t483] rfl (by (try simp only [List.map_toArray, List.map_cons, List.map_nil]); first | done | rfl | (simp only [List.length_drop, List.length_take]; rfl)) ?_; (with_reducible refine (impl_LoopOf.calls _ _ t479 t482 t483 t485 t488 _ ?side1 ?side2 A5.out).mono ?_); (case side1 => refine (Kd.S_reads' (e := 31) (base := w.heap.size) (ok := fun k_ => True) (n := t479.length) (c := co10) ?_).2.2; exact (by (with_reducible repeat (first | apply Kd.S_alloc | apply Kd.S_drewN | apply Kd.S_drew)); exact (Kd.S_mono (Kd.S_far (p := ⟨gb484, 0, none⟩) (Kd.S_types HO481.out BK484.out (by decide)) (fun _ hk => hk.2) (.slice Ao10 t479.length co10)) (fun _ h_ => h_.1)))); (case side2 => exact (Kd.S_reads' HO481.out).2.1); rintro e w12 ⟨v486, rfl, ho0, hb⟩; refine ⟨_, rfl, ?_⟩; have n0_ := Aside0.mk (Kd.S_elder' (by (with_reducible repeat (first | apply Kd.S_alloc | apply Kd.S_drewN | apply Kd.S_drew)); exact (Kd.S_mono (Kd.S_far (p := ⟨gb484, 0, none⟩) (Kd.S_types HO481.out BK484.out (by decide)) (fun _ hk => hk.2) (.slice Ao10 t479.length co10)) (fun _ h_ => h_.1))) (Kd.R_base ho0) hb); have n1_ := Aside0.mk (Kd.R_lower ho0 (below_size (by repeat (first | (with_reducible first | exact HB.out | apply below_alloc | apply pw_below_drewN | apply below_drew1 | refine below_set ?_ GE484.out) | exact HB.out)))); have n2_ := Aside0.mk (blk_below (g := gb484) (o := .cells #[.slice Ao10 t479.length co10] 27 (0, 0)) (by (with_reducible repeat (first | refine blk_drewN ?_ _ | refine blk_drew ?_ | refine blk_alloc ?_ _)); refine blk_put (cs := #[.slice none 0 0]) ?_ 0 _ rfl; (with_reducible repeat (first | refine blk_drewN ?_ _ | refine blk_drew ?_ | refine blk_alloc ?_ _)); exact BK484.out) hb); have n3_ := Aside0.mk (below_step (by repeat (first | (with_reducible first | exact HB.out | apply below_alloc | apply pw_below_drewN | apply below_drew1 | refine below_set ?_ GE484.out) | exact HB.out)) hb); clear HO481; clear BK484; clear HB; have HO481 := n0_; have HO487 := n1_; have BK484 := n2_; have HB := n3_; clear n0_ n1_ n2_ n3_; (try clear hb); (try clear hb2); (try clear hk); (try clear hi); (try clear ho0); have hcz13_0 : w12.cell? ⟨gb484, 0, none⟩ = some (.slice Ao10 t479.length co10) := (blk_cell BK484.out 0).trans rfl; have hfz13_0 := blk_frozen BK484.out 0) | ((with_reducible refine gate_callee (f := 42) rfl ?_); refine goesL_ (some 54) rfl rfl Try.func42 (by kernel_rfl) rfl #[.agg #[.slice Ao10 t479.length co10], .int .i64 t482, .int .i64 t483] rfl (by (try simp only [List.map_toArray, List.map_cons, List.map_nil]); first | done | rfl | (simp only [List.length_drop, List.length_take]; rfl)) ?_; (with_reducible refine (spec_LoopOf.calls k _ _ t479 t482 t483 t489 t492 _ ?side1 ?side2 A6.out).mono ?_); (case side1 => repeat (first | exact (Kd.S_reads' HO481.out).2.2 | (with_reducible refine Kd.C_alloc ?_ _) | (with_reducible refine Kd.C_drewN ?_ _) | (with_reducible refine Kd.C_drew ?_))); (case side2 => exact (Kd.S_reads' HO481.out).2.1); rintro e w14 ⟨v490, rfl, ho0, hb⟩; refine ⟨_, rfl, ?_⟩; have n0_ := Aside0.mk (Kd.S_elder' (by (with_reducible repeat (first | apply Kd.S_alloc | apply Kd.S_drewN | apply Kd.S_drew)); exact HO481.out) (Kd.R_base ho0) hb); have n1_ := Aside0.mk (Kd.R_elder' (by (with_reducible repeat (first | apply Kd.R_alloc | apply Kd.R_drewN | apply Kd.R_drew)); exact HO487.out) (Kd.R_base ho0) hb); have n2_ := Aside0.mk (Kd.R_lower (Kd.R_new' ho0 (Kd.R_lt (by (with_reducible repeat (first | apply Kd.R_alloc | apply Kd.R_drewN | apply Kd.R_drew)); exact HO487.out))) (below_size (by repeat (first | (with_reducible first | exact HB.out | apply below_alloc | apply pw_below_drewN | apply below_drew1 | refine below_set ?_ GE484.out) | exact HB.out)))); have n3_ := Aside0.mk (blk_below (g := gb484) (o := .cells #[.slice Ao10 t479.length co10] 27 (0, 0)) (by (with_reducible repeat (first | refine blk_drewN ?_ _ | refine blk_drew ?_ | refine blk_alloc ?_ _)); exact BK484.out) hb); have n4_ := Aside0.mk (below_step (by repeat (first | (with_reducible first | exact HB.out | apply below_alloc | apply pw_below_drewN | apply below_drew1 | refine below_set ?_ GE484.out) | exact HB.out)) hb); clear HO481; clear HO487; clear BK484; clear HB; have HO481 := n0_; have HO487 := n1_; have HO491 := n2_; have BK484 := n3_; have HB := n4_; clear n0_ n1_ n2_ n3_ n4_; (try clear hb); (try clear hb2); (try clear hk); (try clear hi); (try clear ho0)))
    (try simp only [Act.put, List.setIfInBounds_toArray, List.set_cons_zero, List.set_cons_succ])
    go_cut [65] (fun v65 wc => ∃ (kq : Nat) (x65_6 : Bool), v65 = .bool x65_6 ∧ Aside0 (laws_FnLoops.j0 kq l1 t482 t483 t485 t488 x65_6 t479 = some r) ∧ Aside0 (kq ≤ k) ∧ Aside0 (Kd.R (Kd.int .i64) 3 wc w.heap.size (fun _ => True) v486 t485) ∧ Aside0 (Kd.S (Kd.slice 3 (Kd.int .i64)) 31 wc w.heap.size (fun k_ => some k_ ≠ (v486 : Value).ownBlock) (.slice Ao10 t479.length co10) t479) ∧ Aside0 (wc.heap[gb484]? = some (.cells #[(.slice Ao10 t479.length co10)] 27 (0, 0))) ∧ Aside0 (Below w.heap.size w wc))
    case first =>
      have H := HC7.out
      clear HC7
      by_cases c15 : (t488 != t492) = true
      · rw [if_pos c15] at H
        have c15b0 : (t488 != t492) = true := c15
        (try (have c15b1 : decide (t488 = t492) = false := by simpa using c15))
        (try (have c15b2 : (t488 == t492) = false := by simpa using c15))
        (try (have c15b3 : ¬ (t488 = t492) := by simpa using c15))
        clear c15
        (first | rw [c15b0] | (simp only [i64_w, i32_w]; rw [c15b0]) | skip)
        as_aux_lemma =>
          have H' := Aside0.mk H
          clear H
          go_wp2
          go_meet
          case rel => exact ⟨_, (true), (by first | rfl | (simp; done) | (simp [*]; done)), H', ⟨by first | omega | exact Nat.le_refl _⟩, ⟨by (with_reducible repeat (first | apply Kd.R_alloc | apply Kd.R_drewN | apply Kd.R_drew)); exact Kd.R_mono HO487.out (fun _ hk => trivial)⟩, ⟨by (with_reducible repeat (first | apply Kd.S_alloc | apply Kd.S_drewN | apply Kd.S_drew)); exact Kd.S_mono HO481.out (fun _ hk => hk.1.2)⟩, ⟨by (with_reducible repeat (first | refine blk_drewN ?_ _ | refine blk_drew ?_ | refine blk_alloc ?_ _)); exact BK484.out⟩, ⟨by repeat (first | (with_reducible first | exact HB.out | apply below_alloc | apply pw_below_drewN | apply below_drew1 | refine below_set ?_ GE484.out) | exact HB.out)⟩⟩
      · rw [if_neg c15] at H
        have c15b0 : (t488 != t492) = false := by simpa using c15
        (try (have c15b1 : decide (t488 = t492) = true := by simpa using c15))
        (try (have c15b2 : (t488 == t492) = true := by simpa using c15))
        clear c15
        (first | rw [c15b0] | (simp only [i64_w, i32_w]; rw [c15b0]) | skip)
        replace H := Option.bind_eq_some_iff.mp H
        obtain ⟨t493, A160, H⟩ := H
        replace H : (laws_FnLoops.j0 k l1 t482 t483 t485 t488 (!t493) t479) = some r := H
        have A16 := Aside0.mk A160
        clear A160
        as_aux_lemma =>
          have H' := Aside0.mk H
          clear H
          obtain ⟨Ao17, co17, eo17⟩ := Kd.R_slice HO487.out
          (first | subst eo17 | (injection eo17 with ea_ en_ ec_; (replace ea_ := ea_.symm); (replace ec_ := ec_.symm); subst ea_; subst ec_))
          obtain ⟨Ao18, co18, eo18⟩ := Kd.R_slice HO491.out
          (first | subst eo18 | (injection eo18 with ea_ en_ ec_; (replace ea_ := ea_.symm); (replace ec_ := ec_.symm); subst ea_; subst ec_))
          go_wp2_with (first | (go_at_call 46; (with_reducible refine (laws_sameInts.calls k _ _ t485 _ _ t489 t493 _ ?side1 ?side2 ?side3 ?side4 A16.out).mono ?_); (case side1 => repeat (first | exact (Kd.R_reads' HO487.out).2.2 | (with_reducible refine Kd.C_alloc ?_ _) | (with_reducible refine Kd.C_drewN ?_ _) | (with_reducible refine Kd.C_drew ?_))); (case side2 => exact (Kd.R_reads' HO487.out).2.1); (case side3 => repeat (first | exact (Kd.R_reads' HO491.out).2.2 | (with_reducible refine Kd.C_alloc ?_ _) | (with_reducible refine Kd.C_drewN ?_ _) | (with_reducible refine Kd.C_drew ?_))); (case side4 => exact (Kd.R_reads' HO491.out).2.1); rintro e w' ⟨rfl, ⟨nd, rfl⟩⟩))
          go_meet
          case rel => exact ⟨_, (!t493), (by first | rfl | (simp; done) | (simp [*]; done)), H', ⟨by first | omega | exact Nat.le_refl _⟩, ⟨by (with_reducible repeat (first | apply Kd.R_alloc | apply Kd.R_drewN | apply Kd.R_drew)); exact Kd.R_mono HO487.out (fun _ hk => trivial)⟩, ⟨by (with_reducible repeat (first | apply Kd.S_alloc | apply Kd.S_drewN | apply Kd.S_drew)); exact Kd.S_mono HO481.out (fun _ hk => hk.1.2)⟩, ⟨by (with_reducible repeat (first | refine blk_drewN ?_ _ | refine blk_drew ?_ | refine blk_alloc ?_ _)); exact BK484.out⟩, ⟨by repeat (first | (with_reducible first | exact HB.out | apply below_alloc | apply pw_below_drewN | apply below_drew1 | refine below_set ?_ GE484.out) | exact HB.out)⟩⟩
    case rest => as_aux_lemma =>
      clear HC7
      try clear c1
      try clear p2
      try clear c3
      try clear c3b0
      try clear c4
      try clear c5
      try clear p6
      try clear c14
      try clear c15
      try clear c15b0
      try clear c15b1
      try clear c15b2
      try clear hcz11_0
      try clear hcz13_0
      try clear hfz11_0
      try clear hfz13_0
      obtain ⟨kq, x65_6, rfl, HA, HJ6, HO_8, HO_485000, BK484, HB⟩ := hcut
      cases kq with
      | zero => exact absurd HA.out (by simp [laws_FnLoops.j0])
      | succ kj6 =>
        have H := HA.out
        clear HA
        simp only [laws_FnLoops.j0] at H
        by_cases c19 : x65_6 = true
        · subst c19
          have H1 : (some false) = some r := by rw [if_pos rfl] at H; exact H
          clear H
          have H := H1
          clear H1
          as_aux_lemma =>
            obtain rfl := Option.some.inj H
            go_wp2
            go_ret
            exact ⟨by first | rfl | (simp [errW_none, errW_some] <;> rfl) | (simp [*, errW_none, errW_some] <;> rfl), by repeat (first | (with_reducible first | exact HB.out | apply below_alloc | apply pw_below_drewN | apply below_drew1 | refine below_set ?_ GE484.out) | exact HB.out)⟩
        · replace c19 := Bool.eq_false_iff.mpr c19
          subst c19
          have H1 : (if t488 = true then ((impl_ReachedOf.f t479).bind fun bt494 => ((impl_DominatorsOf.f t479).bind fun bt498 => (if bt494.2 = true then (if bt498.2 = true then ((laws_has.f kj6 t485 t482).bind fun t502 => (if t502 = true then ((laws_has.f kj6 t485 t483).bind fun t503 => (laws_FnLoops.j1 kj6 l1 t483 t485 bt494.1 bt498.1 (!t503) t479)) else (laws_FnLoops.j1 kj6 l1 t483 t485 bt494.1 bt498.1 true t479))) else (laws_FnLoops.j1 kj6 l1 t483 t485 bt494.1 bt498.1 true t479)) else (laws_FnLoops.j1 kj6 l1 t483 t485 bt494.1 bt498.1 true t479)))) else (laws_FnLoops.j5 kj6 l1)) = some r := by rw [if_neg (show ¬ (false = true) by decide)] at H; exact H
          clear H
          have H := H1
          clear H1
          have HC20 := Aside0.mk H
          clear H
          go_upto_if 66 with (fail)
          go_cut [] (fun wc => ∃ (kq : Nat), Aside0 (laws_FnLoops.j5 kq l1 = some r) ∧ Aside0 (kq ≤ kj6) ∧ Aside0 (Kd.S (Kd.slice 3 (Kd.int .i64)) 31 wc w.heap.size (fun _ => True) (.slice Ao10 t479.length co10) t479) ∧ Aside0 (wc.heap[gb484]? = some (.cells #[(.slice Ao10 t479.length co10)] 27 (0, 0))) ∧ Aside0 (Below w.heap.size w wc))
          case first =>
            have H := HC20.out
            clear HC20
            by_cases c21 : t488 = true
            · subst c21
              have H1 : ((impl_ReachedOf.f t479).bind fun bt494 => ((impl_DominatorsOf.f t479).bind fun bt498 => (if bt494.2 = true then (if bt498.2 = true then ((laws_has.f kj6 t485 t482).bind fun t502 => (if t502 = true then ((laws_has.f kj6 t485 t483).bind fun t503 => (laws_FnLoops.j1 kj6 l1 t483 t485 bt494.1 bt498.1 (!t503) t479)) else (laws_FnLoops.j1 kj6 l1 t483 t485 bt494.1 bt498.1 true t479))) else (laws_FnLoops.j1 kj6 l1 t483 t485 bt494.1 bt498.1 true t479)) else (laws_FnLoops.j1 kj6 l1 t483 t485 bt494.1 bt498.1 true t479)))) = some r := by rw [if_pos rfl] at H; exact H
              clear H
              have H := H1
              clear H1
              replace H := Option.bind_eq_some_iff.mp H
              obtain ⟨⟨t494, t497⟩, A220, H⟩ := H
              replace H : ((impl_DominatorsOf.f t479).bind fun bt498 => (if t497 = true then (if bt498.2 = true then ((laws_has.f kj6 t485 t482).bind fun t502 => (if t502 = true then ((laws_has.f kj6 t485 t483).bind fun t503 => (laws_FnLoops.j1 kj6 l1 t483 t485 t494 bt498.1 (!t503) t479)) else (laws_FnLoops.j1 kj6 l1 t483 t485 t494 bt498.1 true t479))) else (laws_FnLoops.j1 kj6 l1 t483 t485 t494 bt498.1 true t479)) else (laws_FnLoops.j1 kj6 l1 t483 t485 t494 bt498.1 true t479))) = some r := H
              have A22 := Aside0.mk A220
              clear A220
              replace H := Option.bind_eq_some_iff.mp H
              obtain ⟨⟨t498, t501⟩, A230, H⟩ := H
              replace H : (if t497 = true then (if t501 = true then ((laws_has.f kj6 t485 t482).bind fun t502 => (if t502 = true then ((laws_has.f kj6 t485 t483).bind fun t503 => (laws_FnLoops.j1 kj6 l1 t483 t485 t494 t498 (!t503) t479)) else (laws_FnLoops.j1 kj6 l1 t483 t485 t494 t498 true t479))) else (laws_FnLoops.j1 kj6 l1 t483 t485 t494 t498 true t479)) else (laws_FnLoops.j1 kj6 l1 t483 t485 t494 t498 true t479)) = some r := H
              have A23 := Aside0.mk A230
              clear A230
              have HC24 := Aside0.mk H
              clear H
              have hcz25_0 : wc.cell? ⟨gb484, 0, none⟩ = some (.slice Ao10 t479.length co10) := (blk_cell BK484.out 0).trans rfl
              have hfz25_0 := blk_frozen BK484.out 0
              go_upto_region 11 with (first | ((with_reducible refine gate_callee (f := 21) rfl ?_); refine goesL_ (some 69) rfl rfl Try.func21 (by kernel_rfl) rfl #[.agg #[.slice Ao10 t479.length co10]] rfl (by (try simp only [List.map_toArray, List.map_cons, List.map_nil]); first | done | rfl | (simp only [List.length_drop, List.length_take]; rfl)) ?_; (with_reducible refine (impl_ReachedOf.calls _ _ t479 t494 t497 _ ?side1 ?side2 A22.out).mono ?_); (case side1 => repeat (first | exact (Kd.S_reads' HO_485000.out).2.2 | (with_reducible refine Kd.C_alloc ?_ _) | (with_reducible refine Kd.C_drewN ?_ _) | (with_reducible refine Kd.C_drew ?_))); (case side2 => exact (Kd.S_reads' HO_485000.out).2.1); rintro e w26 ⟨v495, rfl, ho0, hb⟩; refine ⟨_, rfl, ?_⟩; have n0_ := Aside0.mk (Kd.R_elder' (by (with_reducible repeat (first | apply Kd.R_alloc | apply Kd.R_drewN | apply Kd.R_drew)); exact HO_8.out) (Kd.R_base ho0) hb); have n1_ := Aside0.mk (Kd.S_elder' (by (with_reducible repeat (first | apply Kd.S_alloc | apply Kd.S_drewN | apply Kd.S_drew)); exact HO_485000.out) (Kd.R_base ho0) hb); have n2_ := Aside0.mk (Kd.R_lower (Kd.R_new' ho0 (Kd.R_lt (by (with_reducible repeat (first | apply Kd.R_alloc | apply Kd.R_drewN | apply Kd.R_drew)); exact HO_8.out))) (below_size (by repeat (first | (with_reducible first | exact HB.out | apply below_alloc | apply pw_below_drewN | apply below_drew1 | refine below_set ?_ GE484.out) | exact HB.out)))); have n3_ := Aside0.mk (blk_below (g := gb484) (o := .cells #[.slice Ao10 t479.length co10] 27 (0, 0)) (by (with_reducible repeat (first | refine blk_drewN ?_ _ | refine blk_drew ?_ | refine blk_alloc ?_ _)); exact BK484.out) hb); have n4_ := Aside0.mk (below_step (by repeat (first | (with_reducible first | exact HB.out | apply below_alloc | apply pw_below_drewN | apply below_drew1 | refine below_set ?_ GE484.out) | exact HB.out)) hb); clear HO_8; clear HO_485000; clear BK484; clear HB; have HO_8 := n0_; have HO_485000 := n1_; have HO496 := n2_; have BK484 := n3_; have HB := n4_; clear n0_ n1_ n2_ n3_ n4_; (try clear hb); (try clear hb2); (try clear hk); (try clear hi); (try clear ho0); have hcz27_0 : w26.cell? ⟨gb484, 0, none⟩ = some (.slice Ao10 t479.length co10) := (blk_cell BK484.out 0).trans rfl; have hfz27_0 := blk_frozen BK484.out 0) | ((with_reducible refine gate_callee (f := 37) rfl ?_); refine goesL_ (some 74) rfl rfl Try.func37 (by kernel_rfl) rfl #[.agg #[.slice Ao10 t479.length co10]] rfl (by (try simp only [List.map_toArray, List.map_cons, List.map_nil]); first | done | rfl | (simp only [List.length_drop, List.length_take]; rfl)) ?_; (with_reducible refine (impl_DominatorsOf.calls _ _ t479 t498 t501 _ ?side1 ?side2 A23.out).mono ?_); (case side1 => repeat (first | exact (Kd.S_reads' HO_485000.out).2.2 | (with_reducible refine Kd.C_alloc ?_ _) | (with_reducible refine Kd.C_drewN ?_ _) | (with_reducible refine Kd.C_drew ?_))); (case side2 => exact (Kd.S_reads' HO_485000.out).2.1); rintro e w28 ⟨v499, rfl, ho0, hb⟩; refine ⟨_, rfl, ?_⟩; have n0_ := Aside0.mk (Kd.R_below (by (with_reducible repeat (first | apply Kd.R_alloc | apply Kd.R_drewN | apply Kd.R_drew)); exact HO_8.out) hb); have n1_ := Aside0.mk (Kd.S_elder' (by (with_reducible repeat (first | apply Kd.S_alloc | apply Kd.S_drewN | apply Kd.S_drew)); exact HO_485000.out) (Kd.S_base ho0) hb); have n2_ := Aside0.mk (Kd.R_below (by (with_reducible repeat (first | apply Kd.R_alloc | apply Kd.R_drewN | apply Kd.R_drew)); exact HO496.out) hb); have n3_ := Aside0.mk (Kd.S_lower (Kd.S_new' (Kd.S_new' (Kd.S_new' ho0 (Kd.R_lt (by (with_reducible repeat (first | apply Kd.R_alloc | apply Kd.R_drewN | apply Kd.R_drew)); exact HO_8.out))) (Kd.S_lt (by (with_reducible repeat (first | apply Kd.S_alloc | apply Kd.S_drewN | apply Kd.S_drew)); exact HO_485000.out))) (Kd.R_lt (by (with_reducible repeat (first | apply Kd.R_alloc | apply Kd.R_drewN | apply Kd.R_drew)); exact HO496.out))) (below_size (by repeat (first | (with_reducible first | exact HB.out | apply below_alloc | apply pw_below_drewN | apply below_drew1 | refine below_set ?_ GE484.out) | exact HB.out)))); have n4_ := Aside0.mk (blk_below (g := gb484) (o := .cells #[.slice Ao10 t479.length co10] 27 (0, 0)) (by (with_reducible repeat (first | refine blk_drewN ?_ _ | refine blk_drew ?_ | refine blk_alloc ?_ _)); exact BK484.out) hb); have n5_ := Aside0.mk (below_step (by repeat (first | (with_reducible first | exact HB.out | apply below_alloc | apply pw_below_drewN | apply below_drew1 | refine below_set ?_ GE484.out) | exact HB.out)) hb); clear HO_8; clear HO_485000; clear HO496; clear BK484; clear HB; have HO_8 := n0_; have HO_485000 := n1_; have HO496 := n2_; have HO500 := n3_; have BK484 := n4_; have HB := n5_; clear n0_ n1_ n2_ n3_ n4_ n5_; (try clear hb); (try clear hb2); (try clear hk); (try clear hi); (try clear ho0)))
              (try simp only [Act.put, List.setIfInBounds_toArray, List.set_cons_zero, List.set_cons_succ])
              go_cut [94] (fun v94 wc => ∃ (kq : Nat) (x94_23 : Bool), v94 = .bool x94_23 ∧ Aside0 (laws_FnLoops.j1 kq l1 t483 t485 t494 t498 x94_23 t479 = some r) ∧ Aside0 (kq ≤ kj6) ∧ Aside0 (Kd.R (Kd.int .i64) 3 wc w.heap.size (fun k_ => some k_ ≠ (v495 : Value).ownBlock) v486 t485) ∧ Aside0 (Kd.R (Kd.int .i64) 3 wc w.heap.size (fun k_ => some k_ ≠ (v486 : Value).ownBlock) v495 t494) ∧ Aside0 (Kd.S (Kd.slice 3 (Kd.int .i64)) 31 wc w.heap.size (fun k_ => some k_ ≠ (v486 : Value).ownBlock ∧ some k_ ≠ (v495 : Value).ownBlock ∧ some k_ ≠ ((.slice Ao10 t479.length co10) : Value).ownBlock) v499 t498) ∧ Aside0 (Kd.S (Kd.slice 3 (Kd.int .i64)) 31 wc w.heap.size (fun k_ => some k_ ≠ (v486 : Value).ownBlock ∧ some k_ ≠ (v495 : Value).ownBlock ∧ some k_ ≠ (v499 : Value).ownBlock) (.slice Ao10 t479.length co10) t479) ∧ Aside0 (wc.heap[gb484]? = some (.cells #[(.slice Ao10 t479.length co10)] 27 (0, 0))) ∧ Aside0 (Below w.heap.size w wc))
              case first =>
                have H := HC24.out
                clear HC24
                by_cases c29 : t497 = true
                · subst c29
                  have H1 : (if t501 = true then ((laws_has.f kj6 t485 t482).bind fun t502 => (if t502 = true then ((laws_has.f kj6 t485 t483).bind fun t503 => (laws_FnLoops.j1 kj6 l1 t483 t485 t494 t498 (!t503) t479)) else (laws_FnLoops.j1 kj6 l1 t483 t485 t494 t498 true t479))) else (laws_FnLoops.j1 kj6 l1 t483 t485 t494 t498 true t479)) = some r := by rw [if_pos rfl] at H; exact H
                  clear H
                  have H := H1
                  clear H1
                  by_cases c30 : t501 = true
                  · subst c30
                    have H1 : ((laws_has.f kj6 t485 t482).bind fun t502 => (if t502 = true then ((laws_has.f kj6 t485 t483).bind fun t503 => (laws_FnLoops.j1 kj6 l1 t483 t485 t494 t498 (!t503) t479)) else (laws_FnLoops.j1 kj6 l1 t483 t485 t494 t498 true t479))) = some r := by rw [if_pos rfl] at H; exact H
                    clear H
                    have H := H1
                    clear H1
                    replace H := Option.bind_eq_some_iff.mp H
                    obtain ⟨t502, A310, H⟩ := H
                    replace H : (if t502 = true then ((laws_has.f kj6 t485 t483).bind fun t503 => (laws_FnLoops.j1 kj6 l1 t483 t485 t494 t498 (!t503) t479)) else (laws_FnLoops.j1 kj6 l1 t483 t485 t494 t498 true t479)) = some r := H
                    have A31 := Aside0.mk A310
                    clear A310
                    by_cases c32 : t502 = true
                    · subst c32
                      have H1 : ((laws_has.f kj6 t485 t483).bind fun t503 => (laws_FnLoops.j1 kj6 l1 t483 t485 t494 t498 (!t503) t479)) = some r := by rw [if_pos rfl] at H; exact H
                      clear H
                      have H := H1
                      clear H1
                      replace H := Option.bind_eq_some_iff.mp H
                      obtain ⟨t503, A330, H⟩ := H
                      replace H : (laws_FnLoops.j1 kj6 l1 t483 t485 t494 t498 (!t503) t479) = some r := H
                      have A33 := Aside0.mk A330
                      clear A330
                      as_aux_lemma =>
                        have H' := Aside0.mk H
                        clear H
                        obtain ⟨Ao34, co34, eo34⟩ := Kd.R_slice HO_8.out
                        (first | subst eo34 | (injection eo34 with ea_ en_ ec_; (replace ea_ := ea_.symm); (replace ec_ := ec_.symm); subst ea_; subst ec_))
                        go_wp2_with (first | (go_at_call 47; (with_reducible refine (laws_has.calls kj6 _ _ t485 t482 true _ ?side1 ?side2 A31.out).mono ?_); (case side1 => repeat (first | exact (Kd.R_reads' HO_8.out).2.2 | (with_reducible refine Kd.C_alloc ?_ _) | (with_reducible refine Kd.C_drewN ?_ _) | (with_reducible refine Kd.C_drew ?_))); (case side2 => exact (Kd.R_reads' HO_8.out).2.1); rintro e w' ⟨rfl, ⟨nd, rfl⟩⟩) | (go_at_call 47; (with_reducible refine (laws_has.calls kj6 _ _ t485 t483 t503 _ ?side1 ?side2 A33.out).mono ?_); (case side1 => repeat (first | exact (Kd.R_reads' HO_8.out).2.2 | (with_reducible refine Kd.C_alloc ?_ _) | (with_reducible refine Kd.C_drewN ?_ _) | (with_reducible refine Kd.C_drew ?_))); (case side2 => exact (Kd.R_reads' HO_8.out).2.1); rintro e w' ⟨rfl, ⟨nd, rfl⟩⟩))
                        go_meet
                        case rel => exact ⟨_, (!t503), (by first | rfl | (simp; done) | (simp [*]; done)), H', ⟨by have := HJ6.out; first | omega | exact Nat.le_refl _⟩, ⟨by (with_reducible repeat (first | apply Kd.R_alloc | apply Kd.R_drewN | apply Kd.R_drew)); exact Kd.R_mono HO_8.out (fun _ hk => hk.2)⟩, ⟨by (with_reducible repeat (first | apply Kd.R_alloc | apply Kd.R_drewN | apply Kd.R_drew)); exact Kd.R_mono HO496.out (fun _ hk => hk.2)⟩, ⟨by (with_reducible repeat (first | apply Kd.S_alloc | apply Kd.S_drewN | apply Kd.S_drew)); exact Kd.S_mono HO500.out (fun _ hk => ⟨hk.1.1.2, ⟨hk.2, hk.1.2⟩⟩)⟩, ⟨by (with_reducible repeat (first | apply Kd.S_alloc | apply Kd.S_drewN | apply Kd.S_drew)); exact Kd.S_mono HO_485000.out (fun _ hk => ⟨hk.1.1, ⟨hk.1.2, hk.2⟩⟩)⟩, ⟨by (with_reducible repeat (first | refine blk_drewN ?_ _ | refine blk_drew ?_ | refine blk_alloc ?_ _)); exact BK484.out⟩, ⟨by repeat (first | (with_reducible first | exact HB.out | apply below_alloc | apply pw_below_drewN | apply below_drew1 | refine below_set ?_ GE484.out) | exact HB.out)⟩⟩
                    · replace c32 := Bool.eq_false_iff.mpr c32
                      subst c32
                      have H1 : (laws_FnLoops.j1 kj6 l1 t483 t485 t494 t498 true t479) = some r := by rw [if_neg (show ¬ (false = true) by decide)] at H; exact H
                      clear H
                      have H := H1
                      clear H1
                      as_aux_lemma =>
                        have H' := Aside0.mk H
                        clear H
                        obtain ⟨Ao35, co35, eo35⟩ := Kd.R_slice HO_8.out
                        (first | subst eo35 | (injection eo35 with ea_ en_ ec_; (replace ea_ := ea_.symm); (replace ec_ := ec_.symm); subst ea_; subst ec_))
                        go_wp2_with (first | (go_at_call 47; (with_reducible refine (laws_has.calls kj6 _ _ t485 t482 false _ ?side1 ?side2 A31.out).mono ?_); (case side1 => repeat (first | exact (Kd.R_reads' HO_8.out).2.2 | (with_reducible refine Kd.C_alloc ?_ _) | (with_reducible refine Kd.C_drewN ?_ _) | (with_reducible refine Kd.C_drew ?_))); (case side2 => exact (Kd.R_reads' HO_8.out).2.1); rintro e w' ⟨rfl, ⟨nd, rfl⟩⟩))
                        go_meet
                        case rel => exact ⟨_, (true), (by first | rfl | (simp; done) | (simp [*]; done)), H', ⟨by have := HJ6.out; first | omega | exact Nat.le_refl _⟩, ⟨by (with_reducible repeat (first | apply Kd.R_alloc | apply Kd.R_drewN | apply Kd.R_drew)); exact Kd.R_mono HO_8.out (fun _ hk => hk.2)⟩, ⟨by (with_reducible repeat (first | apply Kd.R_alloc | apply Kd.R_drewN | apply Kd.R_drew)); exact Kd.R_mono HO496.out (fun _ hk => hk.2)⟩, ⟨by (with_reducible repeat (first | apply Kd.S_alloc | apply Kd.S_drewN | apply Kd.S_drew)); exact Kd.S_mono HO500.out (fun _ hk => ⟨hk.1.1.2, ⟨hk.2, hk.1.2⟩⟩)⟩, ⟨by (with_reducible repeat (first | apply Kd.S_alloc | apply Kd.S_drewN | apply Kd.S_drew)); exact Kd.S_mono HO_485000.out (fun _ hk => ⟨hk.1.1, ⟨hk.1.2, hk.2⟩⟩)⟩, ⟨by (with_reducible repeat (first | refine blk_drewN ?_ _ | refine blk_drew ?_ | refine blk_alloc ?_ _)); exact BK484.out⟩, ⟨by repeat (first | (with_reducible first | exact HB.out | apply below_alloc | apply pw_below_drewN | apply below_drew1 | refine below_set ?_ GE484.out) | exact HB.out)⟩⟩
                  · replace c30 := Bool.eq_false_iff.mpr c30
                    subst c30
                    have H1 : (laws_FnLoops.j1 kj6 l1 t483 t485 t494 t498 true t479) = some r := by rw [if_neg (show ¬ (false = true) by decide)] at H; exact H
                    clear H
                    have H := H1
                    clear H1
                    as_aux_lemma =>
                      have H' := Aside0.mk H
                      clear H
                      go_wp2
                      go_meet
                      case rel => exact ⟨_, (true), (by first | rfl | (simp; done) | (simp [*]; done)), H', ⟨by have := HJ6.out; first | omega | exact Nat.le_refl _⟩, ⟨by (with_reducible repeat (first | apply Kd.R_alloc | apply Kd.R_drewN | apply Kd.R_drew)); exact Kd.R_mono HO_8.out (fun _ hk => hk.2)⟩, ⟨by (with_reducible repeat (first | apply Kd.R_alloc | apply Kd.R_drewN | apply Kd.R_drew)); exact Kd.R_mono HO496.out (fun _ hk => hk.2)⟩, ⟨by (with_reducible repeat (first | apply Kd.S_alloc | apply Kd.S_drewN | apply Kd.S_drew)); exact Kd.S_mono HO500.out (fun _ hk => ⟨hk.1.1.2, ⟨hk.2, hk.1.2⟩⟩)⟩, ⟨by (with_reducible repeat (first | apply Kd.S_alloc | apply Kd.S_drewN | apply Kd.S_drew)); exact Kd.S_mono HO_485000.out (fun _ hk => ⟨hk.1.1, ⟨hk.1.2, hk.2⟩⟩)⟩, ⟨by (with_reducible repeat (first | refine blk_drewN ?_ _ | refine blk_drew ?_ | refine blk_alloc ?_ _)); exact BK484.out⟩, ⟨by repeat (first | (with_reducible first | exact HB.out | apply below_alloc | apply pw_below_drewN | apply below_drew1 | refine below_set ?_ GE484.out) | exact HB.out)⟩⟩
                · replace c29 := Bool.eq_false_iff.mpr c29
                  subst c29
                  have H1 : (laws_FnLoops.j1 kj6 l1 t483 t485 t494 t498 true t479) = some r := by rw [if_neg (show ¬ (false = true) by decide)] at H; exact H
                  clear H
                  have H := H1
                  clear H1
                  as_aux_lemma =>
                    have H' := Aside0.mk H
                    clear H
                    go_wp2
                    go_meet
                    case rel => exact ⟨_, (true), (by first | rfl | (simp; done) | (simp [*]; done)), H', ⟨by have := HJ6.out; first | omega | exact Nat.le_refl _⟩, ⟨by (with_reducible repeat (first | apply Kd.R_alloc | apply Kd.R_drewN | apply Kd.R_drew)); exact Kd.R_mono HO_8.out (fun _ hk => hk.2)⟩, ⟨by (with_reducible repeat (first | apply Kd.R_alloc | apply Kd.R_drewN | apply Kd.R_drew)); exact Kd.R_mono HO496.out (fun _ hk => hk.2)⟩, ⟨by (with_reducible repeat (first | apply Kd.S_alloc | apply Kd.S_drewN | apply Kd.S_drew)); exact Kd.S_mono HO500.out (fun _ hk => ⟨hk.1.1.2, ⟨hk.2, hk.1.2⟩⟩)⟩, ⟨by (with_reducible repeat (first | apply Kd.S_alloc | apply Kd.S_drewN | apply Kd.S_drew)); exact Kd.S_mono HO_485000.out (fun _ hk => ⟨hk.1.1, ⟨hk.1.2, hk.2⟩⟩)⟩, ⟨by (with_reducible repeat (first | refine blk_drewN ?_ _ | refine blk_drew ?_ | refine blk_alloc ?_ _)); exact BK484.out⟩, ⟨by repeat (first | (with_reducible first | exact HB.out | apply below_alloc | apply pw_below_drewN | apply below_drew1 | refine below_set ?_ GE484.out) | exact HB.out)⟩⟩
              case rest => as_aux_lemma =>
                clear HC24
                try clear c1
                try clear c2
                try clear p2
                try clear c3
                try clear c3b0
                try clear c4
                try clear c5
                try clear p6
                try clear c14
                try clear c15
                try clear c15b0
                try clear c15b1
                try clear c15b2
                try clear c19
                try clear c21
                try clear c29
                try clear c30
                try clear c32
                try clear hcz11_0
                try clear hcz13_0
                try clear hcz25_0
                try clear hcz27_0
                try clear hfz11_0
                try clear hfz13_0
                try clear hfz25_0
                try clear hfz27_0
                try clear p2
                try clear p6
                obtain ⟨kq, x94_23, rfl, HA, HJ23, HO_8, HO_12, HO_14, HO_485000, BK484, HB⟩ := hcut
                cases kq with
                | zero => exact absurd HA.out (by simp [laws_FnLoops.j1])
                | succ kj23 =>
                  have H := HA.out
                  clear HA
                  simp only [laws_FnLoops.j1] at H
                  by_cases c36 : x94_23 = true
                  · subst c36
                    have H1 : (some false) = some r := by rw [if_pos rfl] at H; exact H
                    clear H
                    have H := H1
                    clear H1
                    as_aux_lemma =>
                      obtain rfl := Option.some.inj H
                      go_wp2
                      go_ret
                      exact ⟨by first | rfl | (simp [errW_none, errW_some] <;> rfl) | (simp [*, errW_none, errW_some] <;> rfl), by repeat (first | (with_reducible first | exact HB.out | apply below_alloc | apply pw_below_drewN | apply below_drew1 | refine below_set ?_ GE484.out) | exact HB.out)⟩
                  · replace c36 := Bool.eq_false_iff.mpr c36
                    subst c36
                    have H1 : (laws_FnLoops.l0 kj23 l1 t483 t485 t494 t498 t485 (t485.length : Int) 0 t479) = some r := by rw [if_neg (show ¬ (false = true) by decide)] at H; exact H
                    clear H
                    have H := H1
                    clear H1
                    have H' := Aside0.mk H
                    clear H
                    obtain ⟨Ao37, co37, eo37⟩ := Kd.R_slice HO_8.out
                    (first | subst eo37 | (injection eo37 with ea_ en_ ec_; (replace ea_ := ea_.symm); (replace ec_ := ec_.symm); subst ea_; subst ec_))
                    go_wp2
                    go_loopg [97] kj23 (fun kq v97 w' => ∃ (x97_3 : Int), v97 = .int .i64 x97_3 ∧ Aside0 (laws_FnLoops.l0 kq l1 t483 t485 t494 t498 t485 (t485.length : Int) x97_3 t479 = some r) ∧ Aside0 (kq ≤ kj23) ∧ Aside0 (Kd.R (Kd.int .i64) 3 w' w.heap.size (fun k_ => some k_ ≠ (v495 : Value).ownBlock) (.slice Ao37 t485.length co37) t485) ∧ Aside0 (Kd.R (Kd.int .i64) 3 w' w.heap.size (fun k_ => some k_ ≠ ((.slice Ao37 t485.length co37) : Value).ownBlock ∧ some k_ ≠ ((.slice Ao37 t485.length co37) : Value).ownBlock) v495 t494) ∧ Aside0 (Kd.S (Kd.slice 3 (Kd.int .i64)) 31 w' w.heap.size (fun k_ => some k_ ≠ ((.slice Ao37 t485.length co37) : Value).ownBlock ∧ some k_ ≠ (v495 : Value).ownBlock ∧ some k_ ≠ ((.slice Ao37 t485.length co37) : Value).ownBlock ∧ some k_ ≠ ((.slice Ao10 t479.length co10) : Value).ownBlock) v499 t498) ∧ Aside0 (Kd.R (Kd.int .i64) 3 w' w.heap.size (fun k_ => some k_ ≠ (v495 : Value).ownBlock) (.slice Ao37 t485.length co37) t485) ∧ Aside0 (Kd.S (Kd.slice 3 (Kd.int .i64)) 31 w' w.heap.size (fun k_ => some k_ ≠ ((.slice Ao37 t485.length co37) : Value).ownBlock ∧ some k_ ≠ (v495 : Value).ownBlock ∧ some k_ ≠ (v499 : Value).ownBlock ∧ some k_ ≠ ((.slice Ao37 t485.length co37) : Value).ownBlock) (.slice Ao10 t479.length co10) t479) ∧ Aside0 (w'.heap[gb484]? = some (.cells #[(.slice Ao10 t479.length co10)] 27 (0, 0))) ∧ Aside0 (Below w.heap.size w w'))
                    case atStart => exact ⟨(0), (by first | rfl | (simp; done) | (simp [*]; done)), H', ⟨Nat.le_refl _⟩, ⟨by (with_reducible repeat (first | apply Kd.R_alloc | apply Kd.R_drewN | apply Kd.R_drew)); exact HO_8.out⟩, ⟨by (with_reducible repeat (first | apply Kd.R_alloc | apply Kd.R_drewN | apply Kd.R_drew)); exact Kd.R_mono HO_12.out (fun _ hk => ⟨hk, hk⟩)⟩, ⟨by (with_reducible repeat (first | apply Kd.S_alloc | apply Kd.S_drewN | apply Kd.S_drew)); exact Kd.S_mono HO_14.out (fun _ hk => ⟨hk.1, ⟨hk.2.1, ⟨hk.1, hk.2.2⟩⟩⟩)⟩, ⟨by (with_reducible repeat (first | apply Kd.R_alloc | apply Kd.R_drewN | apply Kd.R_drew)); exact HO_8.out⟩, ⟨by (with_reducible repeat (first | apply Kd.S_alloc | apply Kd.S_drewN | apply Kd.S_drew)); exact Kd.S_mono HO_485000.out (fun _ hk => ⟨hk.1, ⟨hk.2.1, ⟨hk.2.2, hk.1⟩⟩⟩)⟩, ⟨by (with_reducible repeat (first | refine blk_drewN ?_ _ | refine blk_drew ?_ | refine blk_alloc ?_ _)); exact BK484.out⟩, ⟨by repeat (first | (with_reducible first | exact HB.out | apply below_alloc | apply pw_below_drewN | apply below_drew1 | refine below_set ?_ GE484.out) | exact HB.out)⟩⟩
                    case round => as_aux_lemma =>
                      clear H'
                      try clear c1
                      try clear c2
                      try clear p2
                      try clear c3
                      try clear c3b0
                      try clear c4
                      try clear c5
                      try clear p6
                      try clear c14
                      try clear c15
                      try clear c15b0
                      try clear c15b1
                      try clear c15b2
                      try clear c19
                      try clear c21
                      try clear c29
                      try clear c30
                      try clear c32
                      try clear c36
                      try clear c37
                      try clear hcz11_0
                      try clear hcz13_0
                      try clear hcz25_0
                      try clear hcz27_0
                      try clear hfz11_0
                      try clear hfz13_0
                      try clear hfz25_0
                      try clear hfz27_0
                      try clear p2
                      try clear p6
                      obtain ⟨x97_3, rfl, HA, HK3, HO_8, HO_12, HO_14, HO_95, HO_485000, BK484, HB⟩ := hrel
                      cases gk with
                      | zero => exact absurd HA.out (by simp [laws_FnLoops.l0])
                      | succ k3 =>
                        have H := HA.out
                        clear HA
                        simp only [laws_FnLoops.l0] at H
                        by_cases c38 : x97_3 < (t485.length : Int)
                        · rw [if_pos c38] at H
                          have c38b0 : decide (x97_3 < (t485.length : Int)) = true := decide_eq_true c38
                          clear c38
                          by_cases c39 : 0 ≤ x97_3
                          · rw [if_pos c39] at H
                            have c39b0 : decide (0 ≤ x97_3) = true := decide_eq_true c39
                            clear c39
                            by_cases c40 : x97_3 < (t485.length : Int)
                            · rw [if_pos c40] at H
                              have c40b0 : decide (x97_3 < (t485.length : Int)) = true := decide_eq_true c40
                              clear c40
                              replace H := Option.bind_eq_some_iff.mp H
                              obtain ⟨t505, A410, H⟩ := H
                              replace H : (if t505 = true then (if 0 ≤ (rd t485 x97_3) then (if (rd t485 x97_3) < (t498.length : Int) then ((laws_has.f k3 (rd_L1 t498 (rd t485 x97_3)) t483).bind fun t507 => (if t507 = true then (laws_FnLoops.l0 k3 l1 t483 t485 t494 t498 t485 (t485.length : Int) (wrap64 (x97_3 + 1)) t479) else (some false))) else (none)) else (none)) else (laws_FnLoops.l0 k3 l1 t483 t485 t494 t498 t485 (t485.length : Int) (wrap64 (x97_3 + 1)) t479)) = some r := H
                              have A41 := Aside0.mk A410
                              clear A410
                              by_cases c42 : t505 = true
                              · subst c42
                                have H1 : (if 0 ≤ (rd t485 x97_3) then (if (rd t485 x97_3) < (t498.length : Int) then ((laws_has.f k3 (rd_L1 t498 (rd t485 x97_3)) t483).bind fun t507 => (if t507 = true then (laws_FnLoops.l0 k3 l1 t483 t485 t494 t498 t485 (t485.length : Int) (wrap64 (x97_3 + 1)) t479) else (some false))) else (none)) else (none)) = some r := by rw [if_pos rfl] at H; exact H
                                clear H
                                have H := H1
                                clear H1
                                by_cases c43 : 0 ≤ (rd t485 x97_3)
                                · rw [if_pos c43] at H
                                  have c43b0 : decide (0 ≤ (rd t485 x97_3)) = true := decide_eq_true c43
                                  clear c43
                                  by_cases c44 : (rd t485 x97_3) < (t498.length : Int)
                                  · rw [if_pos c44] at H
                                    have c44b0 : decide ((rd t485 x97_3) < (t498.length : Int)) = true := decide_eq_true c44
                                    clear c44
                                    replace H := Option.bind_eq_some_iff.mp H
                                    obtain ⟨t507, A450, H⟩ := H
                                    replace H : (if t507 = true then (laws_FnLoops.l0 k3 l1 t483 t485 t494 t498 t485 (t485.length : Int) (wrap64 (x97_3 + 1)) t479) else (some false)) = some r := H
                                    have A45 := Aside0.mk A450
                                    clear A450
                                    by_cases c46 : t507 = true
                                    · subst c46
                                      have H1 : (laws_FnLoops.l0 k3 l1 t483 t485 t494 t498 t485 (t485.length : Int) (wrap64 (x97_3 + 1)) t479) = some r := by rw [if_pos rfl] at H; exact H
                                      clear H
                                      have H := H1
                                      clear H1
                                      as_aux_lemma =>
                                        have H' := Aside0.mk H
                                        clear H
                                        have p504 : 0 ≤ (x97_3 : Int) := of_decide_eq_true (by first | (with_reducible assumption) | assumption)
                                        have q504 : x97_3 < (t485.length : Int) := of_decide_eq_true (by first | (with_reducible assumption) | assumption)
                                        obtain ⟨ad504, e504, hx504_0⟩ := Kd.at_int (Kd.R_reads' HO_95.out).2.2 x97_3 p504 q504
                                        cases e504
                                        replace p504 := eq_true p504
                                        replace q504 := eq_true q504
                                        obtain ⟨Ao47, co47, eo47⟩ := Kd.R_slice HO_12.out
                                        (first | subst eo47 | (injection eo47 with ea_ en_ ec_; (replace ea_ := ea_.symm); (replace ec_ := ec_.symm); subst ea_; subst ec_))
                                        go_wp2_with (first | ((with_reducible refine gate_callee (f := 47) rfl ?_); refine goesL_ (some 103) rfl rfl Try.func47 (by kernel_rfl) rfl #[.slice Ao47 t494.length co47, .int .i64 (rd t485 x97_3)] rfl (by (try simp only [List.map_toArray, List.map_cons, List.map_nil]); first | done | rfl | (simp only [List.length_drop, List.length_take]; rfl)) ?_; (with_reducible refine (laws_has.calls k3 _ _ t494 (rd t485 x97_3) true _ ?side1 ?side2 A41.out).mono ?_); (case side1 => repeat (first | exact (Kd.R_reads' HO_12.out).2.2 | (with_reducible refine Kd.C_alloc ?_ _) | (with_reducible refine Kd.C_drewN ?_ _) | (with_reducible refine Kd.C_drew ?_))); (case side2 => exact (Kd.R_reads' HO_12.out).2.1); rintro e w' ⟨rfl, ⟨nd, rfl⟩⟩; refine ⟨_, rfl, ?_⟩; obtain ⟨Ao48, co48, eo48⟩ := Kd.S_slice HO_14.out; subst eo48; have p506 : 0 ≤ ((rd t485 x97_3) : Int) := of_decide_eq_true (by first | (with_reducible assumption) | assumption); have q506 : (rd t485 x97_3) < (t498.length : Int) := of_decide_eq_true (by first | (with_reducible assumption) | assumption); obtain ⟨ad506, A506_0, c506_0, e506, hx506_0, hl506_0, hi506_0⟩ := at_L1 (Kd.S_reads' HO_14.out).2.2 (rd t485 x97_3) p506 q506; cases e506; obtain ⟨ce506, hce506, hMe506, hcc506⟩ := Kd.S_get HO_14.out [] (rd t485 x97_3) p506 (by first | exact q506 | exact of_decide_eq_true (by first | (with_reducible assumption) | assumption) | (have e_ := (Kd.S_reads' HO_14.out).1; omega)); obtain ⟨ve506_0, rfl, ge506_0⟩ := hMe506; have hv506_0 := hcc506 0 _ rfl; rw [Nat.add_zero, show ((Kd.slice 3 (Kd.int .i64))).sz = 1 from rfl, Nat.mul_one] at hv506_0; replace hv506_0 := Option.some.inj (hv506_0.symm.trans hx506_0); rw [hv506_0] at ge506_0; have HL506_0 := Aside0.mk (show Kd.R (Kd.int .i64) 3 _ _ _ _ (rd_L1 t498 (rd t485 x97_3)) from ge506_0); clear hv506_0 ge506_0; clear hcc506 hce506; have HR506_0 := Aside0.mk hi506_0; have HC506_0 := Aside0.mk hl506_0; clear hi506_0 hl506_0; replace p506 := eq_true p506; replace q506 := eq_true q506) | (go_at_call 47; (with_reducible refine (laws_has.calls k3 _ _ (rd_L1 t498 (rd t485 x97_3)) t483 true _ ?side1 ?side2 A45.out).mono ?_); (case side1 => repeat (first | exact (by repeat (first | (with_reducible exact HR506_0.out) | (with_reducible refine Kd.C_alloc ?_ _) | (with_reducible refine Kd.C_drewN ?_ _) | (with_reducible refine Kd.C_drew ?_) | exact HR506_0.out)) | (with_reducible refine Kd.C_alloc ?_ _) | (with_reducible refine Kd.C_drewN ?_ _) | (with_reducible refine Kd.C_drew ?_))); (case side2 => exact HC506_0.out); rintro e w' ⟨rfl, ⟨nd, rfl⟩⟩))
                                        go_roundg k3
                                        case measure => have := HJ6.out; have := HJ23.out; have := HK3.out; omega
                                        case rel => exact ⟨(wrap64 (x97_3 + 1)), (by first | rfl | (simp; done) | (simp [*]; done)), H', ⟨by have := HJ6.out; have := HJ23.out; have := HK3.out; omega⟩, ⟨by (with_reducible repeat (first | apply Kd.R_alloc | apply Kd.R_drewN | apply Kd.R_drew)); exact HO_8.out⟩, ⟨by (with_reducible repeat (first | apply Kd.R_alloc | apply Kd.R_drewN | apply Kd.R_drew)); exact HO_12.out⟩, ⟨by (with_reducible repeat (first | apply Kd.S_alloc | apply Kd.S_drewN | apply Kd.S_drew)); exact HO_14.out⟩, ⟨by (with_reducible repeat (first | apply Kd.R_alloc | apply Kd.R_drewN | apply Kd.R_drew)); exact HO_95.out⟩, ⟨by (with_reducible repeat (first | apply Kd.S_alloc | apply Kd.S_drewN | apply Kd.S_drew)); exact HO_485000.out⟩, ⟨by (with_reducible repeat (first | refine blk_drewN ?_ _ | refine blk_drew ?_ | refine blk_alloc ?_ _)); exact BK484.out⟩, ⟨by repeat (first | (with_reducible first | exact HB.out | apply below_alloc | apply pw_below_drewN | apply below_drew1 | refine below_set ?_ GE484.out) | exact HB.out)⟩⟩
                                    · replace c46 := Bool.eq_false_iff.mpr c46
                                      subst c46
                                      have H1 : (some false) = some r := by rw [if_neg (show ¬ (false = true) by decide)] at H; exact H
                                      clear H
                                      have H := H1
                                      clear H1
                                      as_aux_lemma =>
                                        obtain rfl := Option.some.inj H
                                        have p504 : 0 ≤ (x97_3 : Int) := of_decide_eq_true (by first | (with_reducible assumption) | assumption)
                                        have q504 : x97_3 < (t485.length : Int) := of_decide_eq_true (by first | (with_reducible assumption) | assumption)
                                        obtain ⟨ad504, e504, hx504_0⟩ := Kd.at_int (Kd.R_reads' HO_95.out).2.2 x97_3 p504 q504
                                        cases e504
                                        replace p504 := eq_true p504
                                        replace q504 := eq_true q504
                                        obtain ⟨Ao49, co49, eo49⟩ := Kd.R_slice HO_12.out
                                        (first | subst eo49 | (injection eo49 with ea_ en_ ec_; (replace ea_ := ea_.symm); (replace ec_ := ec_.symm); subst ea_; subst ec_))
                                        go_wp2_with (first | ((with_reducible refine gate_callee (f := 47) rfl ?_); refine goesL_ (some 103) rfl rfl Try.func47 (by kernel_rfl) rfl #[.slice Ao49 t494.length co49, .int .i64 (rd t485 x97_3)] rfl (by (try simp only [List.map_toArray, List.map_cons, List.map_nil]); first | done | rfl | (simp only [List.length_drop, List.length_take]; rfl)) ?_; (with_reducible refine (laws_has.calls k3 _ _ t494 (rd t485 x97_3) true _ ?side1 ?side2 A41.out).mono ?_); (case side1 => repeat (first | exact (Kd.R_reads' HO_12.out).2.2 | (with_reducible refine Kd.C_alloc ?_ _) | (with_reducible refine Kd.C_drewN ?_ _) | (with_reducible refine Kd.C_drew ?_))); (case side2 => exact (Kd.R_reads' HO_12.out).2.1); rintro e w' ⟨rfl, ⟨nd, rfl⟩⟩; refine ⟨_, rfl, ?_⟩; obtain ⟨Ao50, co50, eo50⟩ := Kd.S_slice HO_14.out; subst eo50; have p506 : 0 ≤ ((rd t485 x97_3) : Int) := of_decide_eq_true (by first | (with_reducible assumption) | assumption); have q506 : (rd t485 x97_3) < (t498.length : Int) := of_decide_eq_true (by first | (with_reducible assumption) | assumption); obtain ⟨ad506, A506_0, c506_0, e506, hx506_0, hl506_0, hi506_0⟩ := at_L1 (Kd.S_reads' HO_14.out).2.2 (rd t485 x97_3) p506 q506; cases e506; obtain ⟨ce506, hce506, hMe506, hcc506⟩ := Kd.S_get HO_14.out [] (rd t485 x97_3) p506 (by first | exact q506 | exact of_decide_eq_true (by first | (with_reducible assumption) | assumption) | (have e_ := (Kd.S_reads' HO_14.out).1; omega)); obtain ⟨ve506_0, rfl, ge506_0⟩ := hMe506; have hv506_0 := hcc506 0 _ rfl; rw [Nat.add_zero, show ((Kd.slice 3 (Kd.int .i64))).sz = 1 from rfl, Nat.mul_one] at hv506_0; replace hv506_0 := Option.some.inj (hv506_0.symm.trans hx506_0); rw [hv506_0] at ge506_0; have HL506_0 := Aside0.mk (show Kd.R (Kd.int .i64) 3 _ _ _ _ (rd_L1 t498 (rd t485 x97_3)) from ge506_0); clear hv506_0 ge506_0; clear hcc506 hce506; have HR506_0 := Aside0.mk hi506_0; have HC506_0 := Aside0.mk hl506_0; clear hi506_0 hl506_0; replace p506 := eq_true p506; replace q506 := eq_true q506) | (go_at_call 47; (with_reducible refine (laws_has.calls k3 _ _ (rd_L1 t498 (rd t485 x97_3)) t483 false _ ?side1 ?side2 A45.out).mono ?_); (case side1 => repeat (first | exact (by repeat (first | (with_reducible exact HR506_0.out) | (with_reducible refine Kd.C_alloc ?_ _) | (with_reducible refine Kd.C_drewN ?_ _) | (with_reducible refine Kd.C_drew ?_) | exact HR506_0.out)) | (with_reducible refine Kd.C_alloc ?_ _) | (with_reducible refine Kd.C_drewN ?_ _) | (with_reducible refine Kd.C_drew ?_))); (case side2 => exact HC506_0.out); rintro e w' ⟨rfl, ⟨nd, rfl⟩⟩))
                                        go_ret
                                        exact ⟨by first | rfl | (simp [errW_none, errW_some] <;> rfl) | (simp [*, errW_none, errW_some] <;> rfl), by repeat (first | (with_reducible first | exact HB.out | apply below_alloc | apply pw_below_drewN | apply below_drew1 | refine below_set ?_ GE484.out) | exact HB.out)⟩
                                  · rw [if_neg c44] at H
                                    exact absurd H (by simp)
                                · rw [if_neg c43] at H
                                  exact absurd H (by simp)
                              · replace c42 := Bool.eq_false_iff.mpr c42
                                subst c42
                                have H1 : (laws_FnLoops.l0 k3 l1 t483 t485 t494 t498 t485 (t485.length : Int) (wrap64 (x97_3 + 1)) t479) = some r := by rw [if_neg (show ¬ (false = true) by decide)] at H; exact H
                                clear H
                                have H := H1
                                clear H1
                                as_aux_lemma =>
                                  have H' := Aside0.mk H
                                  clear H
                                  have p504 : 0 ≤ (x97_3 : Int) := of_decide_eq_true (by first | (with_reducible assumption) | assumption)
                                  have q504 : x97_3 < (t485.length : Int) := of_decide_eq_true (by first | (with_reducible assumption) | assumption)
                                  obtain ⟨ad504, e504, hx504_0⟩ := Kd.at_int (Kd.R_reads' HO_95.out).2.2 x97_3 p504 q504
                                  cases e504
                                  replace p504 := eq_true p504
                                  replace q504 := eq_true q504
                                  obtain ⟨Ao51, co51, eo51⟩ := Kd.R_slice HO_12.out
                                  (first | subst eo51 | (injection eo51 with ea_ en_ ec_; (replace ea_ := ea_.symm); (replace ec_ := ec_.symm); subst ea_; subst ec_))
                                  go_wp2_with (first | ((with_reducible refine gate_callee (f := 47) rfl ?_); refine goesL_ (some 103) rfl rfl Try.func47 (by kernel_rfl) rfl #[.slice Ao51 t494.length co51, .int .i64 (rd t485 x97_3)] rfl (by (try simp only [List.map_toArray, List.map_cons, List.map_nil]); first | done | rfl | (simp only [List.length_drop, List.length_take]; rfl)) ?_; (with_reducible refine (laws_has.calls k3 _ _ t494 (rd t485 x97_3) false _ ?side1 ?side2 A41.out).mono ?_); (case side1 => repeat (first | exact (Kd.R_reads' HO_12.out).2.2 | (with_reducible refine Kd.C_alloc ?_ _) | (with_reducible refine Kd.C_drewN ?_ _) | (with_reducible refine Kd.C_drew ?_))); (case side2 => exact (Kd.R_reads' HO_12.out).2.1); rintro e w' ⟨rfl, ⟨nd, rfl⟩⟩; refine ⟨_, rfl, ?_⟩))
                                  go_roundg k3
                                  case measure => have := HJ6.out; have := HJ23.out; have := HK3.out; omega
                                  case rel => exact ⟨(wrap64 (x97_3 + 1)), (by first | rfl | (simp; done) | (simp [*]; done)), H', ⟨by have := HJ6.out; have := HJ23.out; have := HK3.out; omega⟩, ⟨by (with_reducible repeat (first | apply Kd.R_alloc | apply Kd.R_drewN | apply Kd.R_drew)); exact HO_8.out⟩, ⟨by (with_reducible repeat (first | apply Kd.R_alloc | apply Kd.R_drewN | apply Kd.R_drew)); exact HO_12.out⟩, ⟨by (with_reducible repeat (first | apply Kd.S_alloc | apply Kd.S_drewN | apply Kd.S_drew)); exact HO_14.out⟩, ⟨by (with_reducible repeat (first | apply Kd.R_alloc | apply Kd.R_drewN | apply Kd.R_drew)); exact HO_95.out⟩, ⟨by (with_reducible repeat (first | apply Kd.S_alloc | apply Kd.S_drewN | apply Kd.S_drew)); exact HO_485000.out⟩, ⟨by (with_reducible repeat (first | refine blk_drewN ?_ _ | refine blk_drew ?_ | refine blk_alloc ?_ _)); exact BK484.out⟩, ⟨by repeat (first | (with_reducible first | exact HB.out | apply below_alloc | apply pw_below_drewN | apply below_drew1 | refine below_set ?_ GE484.out) | exact HB.out)⟩⟩
                            · rw [if_neg c40] at H
                              exact absurd H (by simp)
                          · rw [if_neg c39] at H
                            exact absurd H (by simp)
                        · rw [if_neg c38] at H
                          have c38b0 : decide (x97_3 < (t485.length : Int)) = false := decide_eq_false c38
                          clear c38
                          have H' := Aside0.mk H
                          clear H
                          have hcz52_0 : wr.cell? ⟨gb484, 0, none⟩ = some (.slice Ao10 t479.length co10) := (blk_cell BK484.out 0).trans rfl
                          have hfz52_0 := blk_frozen BK484.out 0
                          go_wp2
                          go_loopg [117] k3 (fun kq v117 w' => ∃ (x117_4 : Int), v117 = .int .i64 x117_4 ∧ Aside0 (laws_FnLoops.l1 kq l1 t483 t485 t494 t479 (t479.length : Int) x117_4 = some r) ∧ Aside0 (kq ≤ k3) ∧ Aside0 (Kd.R (Kd.int .i64) 3 w' w.heap.size (fun k_ => some k_ ≠ (v495 : Value).ownBlock) (.slice Ao37 t485.length co37) t485) ∧ Aside0 (Kd.R (Kd.int .i64) 3 w' w.heap.size (fun k_ => some k_ ≠ ((.slice Ao37 t485.length co37) : Value).ownBlock) v495 t494) ∧ Aside0 (Kd.S (Kd.slice 3 (Kd.int .i64)) 31 w' w.heap.size (fun k_ => some k_ ≠ ((.slice Ao37 t485.length co37) : Value).ownBlock ∧ some k_ ≠ (v495 : Value).ownBlock) (.slice Ao10 t479.length co10) t479) ∧ Aside0 (Kd.S (Kd.slice 3 (Kd.int .i64)) 31 w' w.heap.size (fun k_ => some k_ ≠ ((.slice Ao37 t485.length co37) : Value).ownBlock ∧ some k_ ≠ (v495 : Value).ownBlock) (.slice Ao10 t479.length co10) t479) ∧ Aside0 (w'.heap[gb484]? = some (.cells #[(.slice Ao10 t479.length co10)] 27 (0, 0))) ∧ Aside0 (Below w.heap.size w w'))
                          case atStart => exact ⟨(0), (by first | rfl | (simp; done) | (simp [*]; done)), H', ⟨Nat.le_refl _⟩, ⟨by (with_reducible repeat (first | apply Kd.R_alloc | apply Kd.R_drewN | apply Kd.R_drew)); exact HO_8.out⟩, ⟨by (with_reducible repeat (first | apply Kd.R_alloc | apply Kd.R_drewN | apply Kd.R_drew)); exact Kd.R_mono HO_12.out (fun _ hk => hk.1)⟩, ⟨by (with_reducible repeat (first | apply Kd.S_alloc | apply Kd.S_drewN | apply Kd.S_drew)); exact Kd.S_mono HO_485000.out (fun _ hk => ⟨hk.1, hk.2.1⟩)⟩, ⟨by (with_reducible repeat (first | apply Kd.S_alloc | apply Kd.S_drewN | apply Kd.S_drew)); exact Kd.S_mono HO_485000.out (fun _ hk => ⟨hk.1, hk.2.1⟩)⟩, ⟨by (with_reducible repeat (first | refine blk_drewN ?_ _ | refine blk_drew ?_ | refine blk_alloc ?_ _)); exact BK484.out⟩, ⟨by repeat (first | (with_reducible first | exact HB.out | apply below_alloc | apply pw_below_drewN | apply below_drew1 | refine below_set ?_ GE484.out) | exact HB.out)⟩⟩
                          case round => as_aux_lemma =>
                            clear H'
                            try clear c1
                            try clear c2
                            try clear p2
                            try clear c3
                            try clear c3b0
                            try clear c4
                            try clear c5
                            try clear p5
                            try clear q5
                            try clear hx5
                            try clear p6
                            try clear c14
                            try clear c15
                            try clear c15b0
                            try clear c15b1
                            try clear c15b2
                            try clear c19
                            try clear c21
                            try clear c29
                            try clear c30
                            try clear c32
                            try clear c36
                            try clear c37
                            try clear c38
                            try clear c38b0
                            try clear c39
                            try clear c39b0
                            try clear c40
                            try clear c40b0
                            try clear c42
                            try clear c43
                            try clear c43b0
                            try clear c44
                            try clear c44b0
                            try clear c46
                            try clear c47
                            try clear c50
                            try clear p50
                            try clear q50
                            try clear hx50
                            try clear c51
                            try clear hcz11_0
                            try clear hcz13_0
                            try clear hcz25_0
                            try clear hcz27_0
                            try clear hcz52_0
                            try clear hfz11_0
                            try clear hfz13_0
                            try clear hfz25_0
                            try clear hfz27_0
                            try clear hfz52_0
                            try clear hx504_0
                            try clear hx506_0
                            try clear p2
                            try clear p504
                            try clear p506
                            try clear p6
                            try clear q504
                            try clear q506
                            obtain ⟨x117_4, rfl, HA, HK4, HO_8, HO_12, HO_115, HO_485000, BK484, HB⟩ := hrel
                            cases gk with
                            | zero => exact absurd HA.out (by simp [laws_FnLoops.l1])
                            | succ k4 =>
                              have H := HA.out
                              clear HA
                              simp only [laws_FnLoops.l1] at H
                              by_cases c53 : x117_4 < (t479.length : Int)
                              · rw [if_pos c53] at H
                                have c53b0 : decide (x117_4 < (t479.length : Int)) = true := decide_eq_true c53
                                clear c53
                                by_cases c54 : 0 ≤ x117_4
                                · rw [if_pos c54] at H
                                  have c54b0 : decide (0 ≤ x117_4) = true := decide_eq_true c54
                                  clear c54
                                  by_cases c55 : x117_4 < (t479.length : Int)
                                  · rw [if_pos c55] at H
                                    have c55b0 : decide (x117_4 < (t479.length : Int)) = true := decide_eq_true c55
                                    clear c55
                                    have H' := Aside0.mk H
                                    clear H
                                    have p508 : 0 ≤ (x117_4 : Int) := of_decide_eq_true (by first | (with_reducible assumption) | assumption)
                                    have q508 : x117_4 < (t479.length : Int) := of_decide_eq_true (by first | (with_reducible assumption) | assumption)
                                    obtain ⟨ad508, A508_0, c508_0, e508, hx508_0, hl508_0, hi508_0⟩ := at_L1 (Kd.S_reads' HO_115.out).2.2 x117_4 p508 q508
                                    cases e508
                                    obtain ⟨ce508, hce508, hMe508, hcc508⟩ := Kd.S_get HO_115.out [] x117_4 p508 (by first | exact q508 | exact of_decide_eq_true (by first | (with_reducible assumption) | assumption) | (have e_ := (Kd.S_reads' HO_115.out).1; omega))
                                    obtain ⟨ve508_0, rfl, ge508_0⟩ := hMe508
                                    have hv508_0 := hcc508 0 _ rfl
                                    rw [Nat.add_zero, show ((Kd.slice 3 (Kd.int .i64))).sz = 1 from rfl, Nat.mul_one] at hv508_0
                                    replace hv508_0 := Option.some.inj (hv508_0.symm.trans hx508_0)
                                    rw [hv508_0] at ge508_0
                                    have HL508_0 := Aside0.mk (show Kd.R (Kd.int .i64) 3 _ _ _ _ (rd_L1 t479 x117_4) from ge508_0)
                                    clear hv508_0 ge508_0
                                    clear hcc508 hce508
                                    have HR508_0 := Aside0.mk hi508_0
                                    have HC508_0 := Aside0.mk hl508_0
                                    clear hi508_0 hl508_0
                                    replace p508 := eq_true p508
                                    replace q508 := eq_true q508
                                    go_wp2
                                    go_loopg [124] k4 (fun kq v124 w' => ∃ (x124_5 : Int), v124 = .int .i64 x124_5 ∧ Aside0 (laws_FnLoops.l2 kq l1 t483 t485 t494 x117_4 t479 (t479.length : Int) x117_4 (rd_L1 t479 x117_4) ((rd_L1 t479 x117_4).length : Int) x124_5 = some r) ∧ Aside0 (kq ≤ k4) ∧ Aside0 (Kd.R (Kd.int .i64) 3 w' w.heap.size (fun k_ => some k_ ≠ (v495 : Value).ownBlock) (.slice Ao37 t485.length co37) t485) ∧ Aside0 (Kd.R (Kd.int .i64) 3 w' w.heap.size (fun k_ => some k_ ≠ ((.slice Ao37 t485.length co37) : Value).ownBlock) v495 t494) ∧ Aside0 (Kd.S (Kd.slice 3 (Kd.int .i64)) 31 w' w.heap.size (fun k_ => some k_ ≠ ((.slice Ao37 t485.length co37) : Value).ownBlock ∧ some k_ ≠ (v495 : Value).ownBlock) (.slice (some ad508) t479.length co10) t479) ∧ Aside0 (Kd.S (Kd.slice 3 (Kd.int .i64)) 31 w' w.heap.size (fun k_ => some k_ ≠ ((.slice Ao37 t485.length co37) : Value).ownBlock ∧ some k_ ≠ (v495 : Value).ownBlock) (.slice (some ad508) t479.length co10) t479) ∧ Aside0 (w'.heap[gb484]? = some (.cells #[(.slice (some ad508) t479.length co10)] 27 (0, 0))) ∧ Aside0 (Kd.C (Kd.int .i64) w' A508_0 (rd_L1 t479 x117_4).length (rd_L1 t479 x117_4)) ∧ Aside0 (Below w.heap.size w w'))
                                    case atStart => exact ⟨(0), (by first | rfl | (simp; done) | (simp [*]; done)), H', ⟨Nat.le_refl _⟩, ⟨by (with_reducible repeat (first | apply Kd.R_alloc | apply Kd.R_drewN | apply Kd.R_drew)); exact HO_8.out⟩, ⟨by (with_reducible repeat (first | apply Kd.R_alloc | apply Kd.R_drewN | apply Kd.R_drew)); exact HO_12.out⟩, ⟨by (with_reducible repeat (first | apply Kd.S_alloc | apply Kd.S_drewN | apply Kd.S_drew)); exact HO_115.out⟩, ⟨by (with_reducible repeat (first | apply Kd.S_alloc | apply Kd.S_drewN | apply Kd.S_drew)); exact HO_485000.out⟩, ⟨by (with_reducible repeat (first | refine blk_drewN ?_ _ | refine blk_drew ?_ | refine blk_alloc ?_ _)); exact BK484.out⟩, ⟨by repeat (first | (with_reducible exact HR508_0.out) | (with_reducible refine Kd.C_alloc ?_ _) | (with_reducible refine Kd.C_drewN ?_ _) | (with_reducible refine Kd.C_drew ?_) | exact HR508_0.out)⟩, ⟨by repeat (first | (with_reducible first | exact HB.out | apply below_alloc | apply pw_below_drewN | apply below_drew1 | refine below_set ?_ GE484.out) | exact HB.out)⟩⟩
                                    case round => as_aux_lemma =>
                                      clear H'
                                      try clear c1
                                      try clear c2
                                      try clear p2
                                      try clear c3
                                      try clear c3b0
                                      try clear c4
                                      try clear c5
                                      try clear p5
                                      try clear q5
                                      try clear hx5
                                      try clear p6
                                      try clear c14
                                      try clear c15
                                      try clear c15b0
                                      try clear c15b1
                                      try clear c15b2
                                      try clear c19
                                      try clear c21
                                      try clear c29
                                      try clear c30
                                      try clear c32
                                      try clear c36
                                      try clear c37
                                      try clear c38
                                      try clear c38b0
                                      try clear c39
                                      try clear c39b0
                                      try clear c40
                                      try clear c40b0
                                      try clear c42
                                      try clear c43
                                      try clear c43b0
                                      try clear c44
                                      try clear c44b0
                                      try clear c46
                                      try clear c47
                                      try clear c50
                                      try clear p50
                                      try clear q50
                                      try clear hx50
                                      try clear c51
                                      try clear c53
                                      try clear c53b0
                                      try clear c54
                                      try clear c54b0
                                      try clear c55
                                      try clear c55b0
                                      try clear hcz11_0
                                      try clear hcz13_0
                                      try clear hcz25_0
                                      try clear hcz27_0
                                      try clear hcz52_0
                                      try clear hfz11_0
                                      try clear hfz13_0
                                      try clear hfz25_0
                                      try clear hfz27_0
                                      try clear hfz52_0
                                      try clear hx504_0
                                      try clear hx506_0
                                      try clear hx508_0
                                      try clear p2
                                      try clear p5
                                      try clear p50
                                      try clear p504
                                      try clear p506
                                      try clear p508
                                      try clear p6
                                      try clear q5
                                      try clear q50
                                      try clear q504
                                      try clear q506
                                      try clear q508
                                      obtain ⟨x124_5, rfl, HA, HK5, HO_8, HO_12, HO_115, HO_485000, BK484, HR508_0, HB⟩ := hrel
                                      cases gk with
                                      | zero => exact absurd HA.out (by simp [laws_FnLoops.l2])
                                      | succ k5 =>
                                        have H := HA.out
                                        clear HA
                                        simp only [laws_FnLoops.l2] at H
                                        by_cases c56 : x124_5 < ((rd_L1 t479 x117_4).length : Int)
                                        · rw [if_pos c56] at H
                                          have c56b0 : decide (x124_5 < ((rd_L1 t479 x117_4).length : Int)) = true := decide_eq_true c56
                                          clear c56
                                          by_cases c57 : 0 ≤ x124_5
                                          · rw [if_pos c57] at H
                                            have c57b0 : decide (0 ≤ x124_5) = true := decide_eq_true c57
                                            clear c57
                                            by_cases c58 : x124_5 < ((rd_L1 t479 x117_4).length : Int)
                                            · rw [if_pos c58] at H
                                              have c58b0 : decide (x124_5 < ((rd_L1 t479 x117_4).length : Int)) = true := decide_eq_true c58
                                              clear c58
                                              replace H := Option.bind_eq_some_iff.mp H
                                              obtain ⟨t510, A590, H⟩ := H
                                              replace H : (if t510 = true then ((laws_has.f k5 t485 x117_4).bind fun t511 => (if t511 = true then (laws_FnLoops.l2 k5 l1 t483 t485 t494 x117_4 t479 (t479.length : Int) x117_4 (rd_L1 t479 x117_4) ((rd_L1 t479 x117_4).length : Int) (wrap64 (x124_5 + 1))) else ((laws_has.f k5 t485 (rd (rd_L1 t479 x117_4) x124_5)).bind fun t512 => (if t512 = true then (if (rd (rd_L1 t479 x117_4) x124_5) = t483 then (laws_FnLoops.l2 k5 l1 t483 t485 t494 x117_4 t479 (t479.length : Int) x117_4 (rd_L1 t479 x117_4) ((rd_L1 t479 x117_4).length : Int) (wrap64 (x124_5 + 1))) else (some false)) else (laws_FnLoops.l2 k5 l1 t483 t485 t494 x117_4 t479 (t479.length : Int) x117_4 (rd_L1 t479 x117_4) ((rd_L1 t479 x117_4).length : Int) (wrap64 (x124_5 + 1))))))) else (laws_FnLoops.l2 k5 l1 t483 t485 t494 x117_4 t479 (t479.length : Int) x117_4 (rd_L1 t479 x117_4) ((rd_L1 t479 x117_4).length : Int) (wrap64 (x124_5 + 1)))) = some r := H
                                              have A59 := Aside0.mk A590
                                              clear A590
                                              by_cases c60 : t510 = true
                                              · subst c60
                                                have H1 : ((laws_has.f k5 t485 x117_4).bind fun t511 => (if t511 = true then (laws_FnLoops.l2 k5 l1 t483 t485 t494 x117_4 t479 (t479.length : Int) x117_4 (rd_L1 t479 x117_4) ((rd_L1 t479 x117_4).length : Int) (wrap64 (x124_5 + 1))) else ((laws_has.f k5 t485 (rd (rd_L1 t479 x117_4) x124_5)).bind fun t512 => (if t512 = true then (if (rd (rd_L1 t479 x117_4) x124_5) = t483 then (laws_FnLoops.l2 k5 l1 t483 t485 t494 x117_4 t479 (t479.length : Int) x117_4 (rd_L1 t479 x117_4) ((rd_L1 t479 x117_4).length : Int) (wrap64 (x124_5 + 1))) else (some false)) else (laws_FnLoops.l2 k5 l1 t483 t485 t494 x117_4 t479 (t479.length : Int) x117_4 (rd_L1 t479 x117_4) ((rd_L1 t479 x117_4).length : Int) (wrap64 (x124_5 + 1))))))) = some r := by rw [if_pos rfl] at H; exact H
                                                clear H
                                                have H := H1
                                                clear H1
                                                replace H := Option.bind_eq_some_iff.mp H
                                                obtain ⟨t511, A610, H⟩ := H
                                                replace H : (if t511 = true then (laws_FnLoops.l2 k5 l1 t483 t485 t494 x117_4 t479 (t479.length : Int) x117_4 (rd_L1 t479 x117_4) ((rd_L1 t479 x117_4).length : Int) (wrap64 (x124_5 + 1))) else ((laws_has.f k5 t485 (rd (rd_L1 t479 x117_4) x124_5)).bind fun t512 => (if t512 = true then (if (rd (rd_L1 t479 x117_4) x124_5) = t483 then (laws_FnLoops.l2 k5 l1 t483 t485 t494 x117_4 t479 (t479.length : Int) x117_4 (rd_L1 t479 x117_4) ((rd_L1 t479 x117_4).length : Int) (wrap64 (x124_5 + 1))) else (some false)) else (laws_FnLoops.l2 k5 l1 t483 t485 t494 x117_4 t479 (t479.length : Int) x117_4 (rd_L1 t479 x117_4) ((rd_L1 t479 x117_4).length : Int) (wrap64 (x124_5 + 1)))))) = some r := H
                                                have A61 := Aside0.mk A610
                                                clear A610
                                                by_cases c62 : t511 = true
                                                · subst c62
                                                  have H1 : (laws_FnLoops.l2 k5 l1 t483 t485 t494 x117_4 t479 (t479.length : Int) x117_4 (rd_L1 t479 x117_4) ((rd_L1 t479 x117_4).length : Int) (wrap64 (x124_5 + 1))) = some r := by rw [if_pos rfl] at H; exact H
                                                  clear H
                                                  have H := H1
                                                  clear H1
                                                  as_aux_lemma =>
                                                    have H' := Aside0.mk H
                                                    clear H
                                                    have p509 : 0 ≤ (x124_5 : Int) := of_decide_eq_true (by first | (with_reducible assumption) | assumption)
                                                    have q509 : x124_5 < ((rd_L1 t479 x117_4).length : Int) := of_decide_eq_true (by first | (with_reducible assumption) | assumption)
                                                    obtain ⟨ad509, e509, hx509_0⟩ := Kd.at_int HR508_0.out x124_5 p509 q509
                                                    cases e509
                                                    try with_reducible replace hx509_0 := (HB.out.cell (World.block_lt_of_cell? w _ hx509_0)).trans hx509_0
                                                    replace p509 := eq_true p509
                                                    replace q509 := eq_true q509
                                                    obtain ⟨Ao63, co63, eo63⟩ := Kd.R_slice HO_12.out
                                                    (first | subst eo63 | (injection eo63 with ea_ en_ ec_; (replace ea_ := ea_.symm); (replace ec_ := ec_.symm); subst ea_; subst ec_))
                                                    go_wp2_with (first | ((with_reducible refine gate_callee (f := 47) rfl ?_); refine goesL_ (some 130) rfl rfl Try.func47 (by kernel_rfl) rfl #[.slice Ao63 t494.length co63, .int .i64 x117_4] rfl (by (try simp only [List.map_toArray, List.map_cons, List.map_nil]); first | done | rfl | (simp only [List.length_drop, List.length_take]; rfl)) ?_; (with_reducible refine (laws_has.calls k5 _ _ t494 x117_4 true _ ?side1 ?side2 A59.out).mono ?_); (case side1 => repeat (first | exact (Kd.R_reads' HO_12.out).2.2 | (with_reducible refine Kd.C_alloc ?_ _) | (with_reducible refine Kd.C_drewN ?_ _) | (with_reducible refine Kd.C_drew ?_))); (case side2 => exact (Kd.R_reads' HO_12.out).2.1); rintro e w' ⟨rfl, ⟨nd, rfl⟩⟩; refine ⟨_, rfl, ?_⟩) | (go_at_call 47; (with_reducible refine (laws_has.calls k5 _ _ t485 x117_4 true _ ?side1 ?side2 A61.out).mono ?_); (case side1 => repeat (first | exact (Kd.R_reads' HO_8.out).2.2 | (with_reducible refine Kd.C_alloc ?_ _) | (with_reducible refine Kd.C_drewN ?_ _) | (with_reducible refine Kd.C_drew ?_))); (case side2 => exact (Kd.R_reads' HO_8.out).2.1); rintro e w' ⟨rfl, ⟨nd, rfl⟩⟩))
                                                    go_roundg k5
                                                    case measure => have := HJ6.out; have := HJ23.out; have := HK3.out; have := HK4.out; have := HK5.out; omega
                                                    case rel => exact ⟨(wrap64 (x124_5 + 1)), (by first | rfl | (simp; done) | (simp [*]; done)), H', ⟨by have := HJ6.out; have := HJ23.out; have := HK3.out; have := HK4.out; have := HK5.out; omega⟩, ⟨by (with_reducible repeat (first | apply Kd.R_alloc | apply Kd.R_drewN | apply Kd.R_drew)); exact HO_8.out⟩, ⟨by (with_reducible repeat (first | apply Kd.R_alloc | apply Kd.R_drewN | apply Kd.R_drew)); exact HO_12.out⟩, ⟨by (with_reducible repeat (first | apply Kd.S_alloc | apply Kd.S_drewN | apply Kd.S_drew)); exact HO_115.out⟩, ⟨by (with_reducible repeat (first | apply Kd.S_alloc | apply Kd.S_drewN | apply Kd.S_drew)); exact HO_485000.out⟩, ⟨by (with_reducible repeat (first | refine blk_drewN ?_ _ | refine blk_drew ?_ | refine blk_alloc ?_ _)); exact BK484.out⟩, ⟨by repeat (first | (with_reducible exact HR508_0.out) | (with_reducible refine Kd.C_alloc ?_ _) | (with_reducible refine Kd.C_drewN ?_ _) | (with_reducible refine Kd.C_drew ?_) | exact HR508_0.out)⟩, ⟨by repeat (first | (with_reducible first | exact HB.out | apply below_alloc | apply pw_below_drewN | apply below_drew1 | refine below_set ?_ GE484.out) | exact HB.out)⟩⟩
                                                · replace c62 := Bool.eq_false_iff.mpr c62
                                                  subst c62
                                                  have H1 : ((laws_has.f k5 t485 (rd (rd_L1 t479 x117_4) x124_5)).bind fun t512 => (if t512 = true then (if (rd (rd_L1 t479 x117_4) x124_5) = t483 then (laws_FnLoops.l2 k5 l1 t483 t485 t494 x117_4 t479 (t479.length : Int) x117_4 (rd_L1 t479 x117_4) ((rd_L1 t479 x117_4).length : Int) (wrap64 (x124_5 + 1))) else (some false)) else (laws_FnLoops.l2 k5 l1 t483 t485 t494 x117_4 t479 (t479.length : Int) x117_4 (rd_L1 t479 x117_4) ((rd_L1 t479 x117_4).length : Int) (wrap64 (x124_5 + 1))))) = some r := by rw [if_neg (show ¬ (false = true) by decide)] at H; exact H
                                                  clear H
                                                  have H := H1
                                                  clear H1
                                                  replace H := Option.bind_eq_some_iff.mp H
                                                  obtain ⟨t512, A640, H⟩ := H
                                                  replace H : (if t512 = true then (if (rd (rd_L1 t479 x117_4) x124_5) = t483 then (laws_FnLoops.l2 k5 l1 t483 t485 t494 x117_4 t479 (t479.length : Int) x117_4 (rd_L1 t479 x117_4) ((rd_L1 t479 x117_4).length : Int) (wrap64 (x124_5 + 1))) else (some false)) else (laws_FnLoops.l2 k5 l1 t483 t485 t494 x117_4 t479 (t479.length : Int) x117_4 (rd_L1 t479 x117_4) ((rd_L1 t479 x117_4).length : Int) (wrap64 (x124_5 + 1)))) = some r := H
                                                  have A64 := Aside0.mk A640
                                                  clear A640
                                                  by_cases c65 : t512 = true
                                                  · subst c65
                                                    have H1 : (if (rd (rd_L1 t479 x117_4) x124_5) = t483 then (laws_FnLoops.l2 k5 l1 t483 t485 t494 x117_4 t479 (t479.length : Int) x117_4 (rd_L1 t479 x117_4) ((rd_L1 t479 x117_4).length : Int) (wrap64 (x124_5 + 1))) else (some false)) = some r := by rw [if_pos rfl] at H; exact H
                                                    clear H
                                                    have H := H1
                                                    clear H1
                                                    by_cases c66 : (rd (rd_L1 t479 x117_4) x124_5) = t483
                                                    · rw [if_pos c66] at H
                                                      have c66b0 : ((rd (rd_L1 t479 x117_4) x124_5) == t483) = true := beq_iff_eq.mpr c66
                                                      have c66b1 : ((rd (rd_L1 t479 x117_4) x124_5) != t483) = false := bne_eq_false_iff_eq.mpr c66
                                                      clear c66
                                                      as_aux_lemma =>
                                                        have H' := Aside0.mk H
                                                        clear H
                                                        have p509 : 0 ≤ (x124_5 : Int) := of_decide_eq_true (by first | (with_reducible assumption) | assumption)
                                                        have q509 : x124_5 < ((rd_L1 t479 x117_4).length : Int) := of_decide_eq_true (by first | (with_reducible assumption) | assumption)
                                                        obtain ⟨ad509, e509, hx509_0⟩ := Kd.at_int HR508_0.out x124_5 p509 q509
                                                        cases e509
                                                        try with_reducible replace hx509_0 := (HB.out.cell (World.block_lt_of_cell? w _ hx509_0)).trans hx509_0
                                                        replace p509 := eq_true p509
                                                        replace q509 := eq_true q509
                                                        obtain ⟨Ao67, co67, eo67⟩ := Kd.R_slice HO_12.out
                                                        (first | subst eo67 | (injection eo67 with ea_ en_ ec_; (replace ea_ := ea_.symm); (replace ec_ := ec_.symm); subst ea_; subst ec_))
                                                        go_wp2_with (first | ((with_reducible refine gate_callee (f := 47) rfl ?_); refine goesL_ (some 130) rfl rfl Try.func47 (by kernel_rfl) rfl #[.slice Ao67 t494.length co67, .int .i64 x117_4] rfl (by (try simp only [List.map_toArray, List.map_cons, List.map_nil]); first | done | rfl | (simp only [List.length_drop, List.length_take]; rfl)) ?_; (with_reducible refine (laws_has.calls k5 _ _ t494 x117_4 true _ ?side1 ?side2 A59.out).mono ?_); (case side1 => repeat (first | exact (Kd.R_reads' HO_12.out).2.2 | (with_reducible refine Kd.C_alloc ?_ _) | (with_reducible refine Kd.C_drewN ?_ _) | (with_reducible refine Kd.C_drew ?_))); (case side2 => exact (Kd.R_reads' HO_12.out).2.1); rintro e w' ⟨rfl, ⟨nd, rfl⟩⟩; refine ⟨_, rfl, ?_⟩) | (go_at_call 47; (with_reducible refine (laws_has.calls k5 _ _ t485 x117_4 false _ ?side1 ?side2 A61.out).mono ?_); (case side1 => repeat (first | exact (Kd.R_reads' HO_8.out).2.2 | (with_reducible refine Kd.C_alloc ?_ _) | (with_reducible refine Kd.C_drewN ?_ _) | (with_reducible refine Kd.C_drew ?_))); (case side2 => exact (Kd.R_reads' HO_8.out).2.1); rintro e w' ⟨rfl, ⟨nd, rfl⟩⟩) | (go_at_call 47; (with_reducible refine (laws_has.calls k5 _ _ t485 (rd (rd_L1 t479 x117_4) x124_5) true _ ?side1 ?side2 A64.out).mono ?_); (case side1 => repeat (first | exact (Kd.R_reads' HO_8.out).2.2 | (with_reducible refine Kd.C_alloc ?_ _) | (with_reducible refine Kd.C_drewN ?_ _) | (with_reducible refine Kd.C_drew ?_))); (case side2 => exact (Kd.R_reads' HO_8.out).2.1); rintro e w' ⟨rfl, ⟨nd, rfl⟩⟩))
                                                        go_roundg k5
                                                        case measure => have := HJ6.out; have := HJ23.out; have := HK3.out; have := HK4.out; have := HK5.out; omega
                                                        case rel => exact ⟨(wrap64 (x124_5 + 1)), (by first | rfl | (simp; done) | (simp [*]; done)), H', ⟨by have := HJ6.out; have := HJ23.out; have := HK3.out; have := HK4.out; have := HK5.out; omega⟩, ⟨by (with_reducible repeat (first | apply Kd.R_alloc | apply Kd.R_drewN | apply Kd.R_drew)); exact HO_8.out⟩, ⟨by (with_reducible repeat (first | apply Kd.R_alloc | apply Kd.R_drewN | apply Kd.R_drew)); exact HO_12.out⟩, ⟨by (with_reducible repeat (first | apply Kd.S_alloc | apply Kd.S_drewN | apply Kd.S_drew)); exact HO_115.out⟩, ⟨by (with_reducible repeat (first | apply Kd.S_alloc | apply Kd.S_drewN | apply Kd.S_drew)); exact HO_485000.out⟩, ⟨by (with_reducible repeat (first | refine blk_drewN ?_ _ | refine blk_drew ?_ | refine blk_alloc ?_ _)); exact BK484.out⟩, ⟨by repeat (first | (with_reducible exact HR508_0.out) | (with_reducible refine Kd.C_alloc ?_ _) | (with_reducible refine Kd.C_drewN ?_ _) | (with_reducible refine Kd.C_drew ?_) | exact HR508_0.out)⟩, ⟨by repeat (first | (with_reducible first | exact HB.out | apply below_alloc | apply pw_below_drewN | apply below_drew1 | refine below_set ?_ GE484.out) | exact HB.out)⟩⟩
                                                    · rw [if_neg c66] at H
                                                      have c66b0 : ((rd (rd_L1 t479 x117_4) x124_5) == t483) = false := beq_eq_false_iff_ne.mpr c66
                                                      have c66b1 : ((rd (rd_L1 t479 x117_4) x124_5) != t483) = true := bne_iff_ne.mpr c66
                                                      as_aux_lemma =>
                                                        obtain rfl := Option.some.inj H
                                                        have p509 : 0 ≤ (x124_5 : Int) := of_decide_eq_true (by first | (with_reducible assumption) | assumption)
                                                        have q509 : x124_5 < ((rd_L1 t479 x117_4).length : Int) := of_decide_eq_true (by first | (with_reducible assumption) | assumption)
                                                        obtain ⟨ad509, e509, hx509_0⟩ := Kd.at_int HR508_0.out x124_5 p509 q509
                                                        cases e509
                                                        try with_reducible replace hx509_0 := (HB.out.cell (World.block_lt_of_cell? w _ hx509_0)).trans hx509_0
                                                        replace p509 := eq_true p509
                                                        replace q509 := eq_true q509
                                                        obtain ⟨Ao68, co68, eo68⟩ := Kd.R_slice HO_12.out
                                                        (first | subst eo68 | (injection eo68 with ea_ en_ ec_; (replace ea_ := ea_.symm); (replace ec_ := ec_.symm); subst ea_; subst ec_))
                                                        go_wp2_with (first | ((with_reducible refine gate_callee (f := 47) rfl ?_); refine goesL_ (some 130) rfl rfl Try.func47 (by kernel_rfl) rfl #[.slice Ao68 t494.length co68, .int .i64 x117_4] rfl (by (try simp only [List.map_toArray, List.map_cons, List.map_nil]); first | done | rfl | (simp only [List.length_drop, List.length_take]; rfl)) ?_; (with_reducible refine (laws_has.calls k5 _ _ t494 x117_4 true _ ?side1 ?side2 A59.out).mono ?_); (case side1 => repeat (first | exact (Kd.R_reads' HO_12.out).2.2 | (with_reducible refine Kd.C_alloc ?_ _) | (with_reducible refine Kd.C_drewN ?_ _) | (with_reducible refine Kd.C_drew ?_))); (case side2 => exact (Kd.R_reads' HO_12.out).2.1); rintro e w' ⟨rfl, ⟨nd, rfl⟩⟩; refine ⟨_, rfl, ?_⟩) | (go_at_call 47; (with_reducible refine (laws_has.calls k5 _ _ t485 x117_4 false _ ?side1 ?side2 A61.out).mono ?_); (case side1 => repeat (first | exact (Kd.R_reads' HO_8.out).2.2 | (with_reducible refine Kd.C_alloc ?_ _) | (with_reducible refine Kd.C_drewN ?_ _) | (with_reducible refine Kd.C_drew ?_))); (case side2 => exact (Kd.R_reads' HO_8.out).2.1); rintro e w' ⟨rfl, ⟨nd, rfl⟩⟩) | (go_at_call 47; (with_reducible refine (laws_has.calls k5 _ _ t485 (rd (rd_L1 t479 x117_4) x124_5) true _ ?side1 ?side2 A64.out).mono ?_); (case side1 => repeat (first | exact (Kd.R_reads' HO_8.out).2.2 | (with_reducible refine Kd.C_alloc ?_ _) | (with_reducible refine Kd.C_drewN ?_ _) | (with_reducible refine Kd.C_drew ?_))); (case side2 => exact (Kd.R_reads' HO_8.out).2.1); rintro e w' ⟨rfl, ⟨nd, rfl⟩⟩))
                                                        go_ret
                                                        exact ⟨by first | rfl | (simp [errW_none, errW_some] <;> rfl) | (simp [*, errW_none, errW_some] <;> rfl), by repeat (first | (with_reducible first | exact HB.out | apply below_alloc | apply pw_below_drewN | apply below_drew1 | refine below_set ?_ GE484.out) | exact HB.out)⟩
                                                  · replace c65 := Bool.eq_false_iff.mpr c65
                                                    subst c65
                                                    have H1 : (laws_FnLoops.l2 k5 l1 t483 t485 t494 x117_4 t479 (t479.length : Int) x117_4 (rd_L1 t479 x117_4) ((rd_L1 t479 x117_4).length : Int) (wrap64 (x124_5 + 1))) = some r := by rw [if_neg (show ¬ (false = true) by decide)] at H; exact H
                                                    clear H
                                                    have H := H1
                                                    clear H1
                                                    as_aux_lemma =>
                                                      have H' := Aside0.mk H
                                                      clear H
                                                      have p509 : 0 ≤ (x124_5 : Int) := of_decide_eq_true (by first | (with_reducible assumption) | assumption)
                                                      have q509 : x124_5 < ((rd_L1 t479 x117_4).length : Int) := of_decide_eq_true (by first | (with_reducible assumption) | assumption)
                                                      obtain ⟨ad509, e509, hx509_0⟩ := Kd.at_int HR508_0.out x124_5 p509 q509
                                                      cases e509
                                                      try with_reducible replace hx509_0 := (HB.out.cell (World.block_lt_of_cell? w _ hx509_0)).trans hx509_0
                                                      replace p509 := eq_true p509
                                                      replace q509 := eq_true q509
                                                      obtain ⟨Ao69, co69, eo69⟩ := Kd.R_slice HO_12.out
                                                      (first | subst eo69 | (injection eo69 with ea_ en_ ec_; (replace ea_ := ea_.symm); (replace ec_ := ec_.symm); subst ea_; subst ec_))
                                                      go_wp2_with (first | ((with_reducible refine gate_callee (f := 47) rfl ?_); refine goesL_ (some 130) rfl rfl Try.func47 (by kernel_rfl) rfl #[.slice Ao69 t494.length co69, .int .i64 x117_4] rfl (by (try simp only [List.map_toArray, List.map_cons, List.map_nil]); first | done | rfl | (simp only [List.length_drop, List.length_take]; rfl)) ?_; (with_reducible refine (laws_has.calls k5 _ _ t494 x117_4 true _ ?side1 ?side2 A59.out).mono ?_); (case side1 => repeat (first | exact (Kd.R_reads' HO_12.out).2.2 | (with_reducible refine Kd.C_alloc ?_ _) | (with_reducible refine Kd.C_drewN ?_ _) | (with_reducible refine Kd.C_drew ?_))); (case side2 => exact (Kd.R_reads' HO_12.out).2.1); rintro e w' ⟨rfl, ⟨nd, rfl⟩⟩; refine ⟨_, rfl, ?_⟩) | (go_at_call 47; (with_reducible refine (laws_has.calls k5 _ _ t485 x117_4 false _ ?side1 ?side2 A61.out).mono ?_); (case side1 => repeat (first | exact (Kd.R_reads' HO_8.out).2.2 | (with_reducible refine Kd.C_alloc ?_ _) | (with_reducible refine Kd.C_drewN ?_ _) | (with_reducible refine Kd.C_drew ?_))); (case side2 => exact (Kd.R_reads' HO_8.out).2.1); rintro e w' ⟨rfl, ⟨nd, rfl⟩⟩) | (go_at_call 47; (with_reducible refine (laws_has.calls k5 _ _ t485 (rd (rd_L1 t479 x117_4) x124_5) false _ ?side1 ?side2 A64.out).mono ?_); (case side1 => repeat (first | exact (Kd.R_reads' HO_8.out).2.2 | (with_reducible refine Kd.C_alloc ?_ _) | (with_reducible refine Kd.C_drewN ?_ _) | (with_reducible refine Kd.C_drew ?_))); (case side2 => exact (Kd.R_reads' HO_8.out).2.1); rintro e w' ⟨rfl, ⟨nd, rfl⟩⟩))
                                                      go_roundg k5
                                                      case measure => have := HJ6.out; have := HJ23.out; have := HK3.out; have := HK4.out; have := HK5.out; omega
                                                      case rel => exact ⟨(wrap64 (x124_5 + 1)), (by first | rfl | (simp; done) | (simp [*]; done)), H', ⟨by have := HJ6.out; have := HJ23.out; have := HK3.out; have := HK4.out; have := HK5.out; omega⟩, ⟨by (with_reducible repeat (first | apply Kd.R_alloc | apply Kd.R_drewN | apply Kd.R_drew)); exact HO_8.out⟩, ⟨by (with_reducible repeat (first | apply Kd.R_alloc | apply Kd.R_drewN | apply Kd.R_drew)); exact HO_12.out⟩, ⟨by (with_reducible repeat (first | apply Kd.S_alloc | apply Kd.S_drewN | apply Kd.S_drew)); exact HO_115.out⟩, ⟨by (with_reducible repeat (first | apply Kd.S_alloc | apply Kd.S_drewN | apply Kd.S_drew)); exact HO_485000.out⟩, ⟨by (with_reducible repeat (first | refine blk_drewN ?_ _ | refine blk_drew ?_ | refine blk_alloc ?_ _)); exact BK484.out⟩, ⟨by repeat (first | (with_reducible exact HR508_0.out) | (with_reducible refine Kd.C_alloc ?_ _) | (with_reducible refine Kd.C_drewN ?_ _) | (with_reducible refine Kd.C_drew ?_) | exact HR508_0.out)⟩, ⟨by repeat (first | (with_reducible first | exact HB.out | apply below_alloc | apply pw_below_drewN | apply below_drew1 | refine below_set ?_ GE484.out) | exact HB.out)⟩⟩
                                              · replace c60 := Bool.eq_false_iff.mpr c60
                                                subst c60
                                                have H1 : (laws_FnLoops.l2 k5 l1 t483 t485 t494 x117_4 t479 (t479.length : Int) x117_4 (rd_L1 t479 x117_4) ((rd_L1 t479 x117_4).length : Int) (wrap64 (x124_5 + 1))) = some r := by rw [if_neg (show ¬ (false = true) by decide)] at H; exact H
                                                clear H
                                                have H := H1
                                                clear H1
                                                as_aux_lemma =>
                                                  have H' := Aside0.mk H
                                                  clear H
                                                  have p509 : 0 ≤ (x124_5 : Int) := of_decide_eq_true (by first | (with_reducible assumption) | assumption)
                                                  have q509 : x124_5 < ((rd_L1 t479 x117_4).length : Int) := of_decide_eq_true (by first | (with_reducible assumption) | assumption)
                                                  obtain ⟨ad509, e509, hx509_0⟩ := Kd.at_int HR508_0.out x124_5 p509 q509
                                                  cases e509
                                                  try with_reducible replace hx509_0 := (HB.out.cell (World.block_lt_of_cell? w _ hx509_0)).trans hx509_0
                                                  replace p509 := eq_true p509
                                                  replace q509 := eq_true q509
                                                  obtain ⟨Ao70, co70, eo70⟩ := Kd.R_slice HO_12.out
                                                  (first | subst eo70 | (injection eo70 with ea_ en_ ec_; (replace ea_ := ea_.symm); (replace ec_ := ec_.symm); subst ea_; subst ec_))
                                                  go_wp2_with (first | ((with_reducible refine gate_callee (f := 47) rfl ?_); refine goesL_ (some 130) rfl rfl Try.func47 (by kernel_rfl) rfl #[.slice Ao70 t494.length co70, .int .i64 x117_4] rfl (by (try simp only [List.map_toArray, List.map_cons, List.map_nil]); first | done | rfl | (simp only [List.length_drop, List.length_take]; rfl)) ?_; (with_reducible refine (laws_has.calls k5 _ _ t494 x117_4 false _ ?side1 ?side2 A59.out).mono ?_); (case side1 => repeat (first | exact (Kd.R_reads' HO_12.out).2.2 | (with_reducible refine Kd.C_alloc ?_ _) | (with_reducible refine Kd.C_drewN ?_ _) | (with_reducible refine Kd.C_drew ?_))); (case side2 => exact (Kd.R_reads' HO_12.out).2.1); rintro e w' ⟨rfl, ⟨nd, rfl⟩⟩; refine ⟨_, rfl, ?_⟩))
                                                  go_roundg k5
                                                  case measure => have := HJ6.out; have := HJ23.out; have := HK3.out; have := HK4.out; have := HK5.out; omega
                                                  case rel => exact ⟨(wrap64 (x124_5 + 1)), (by first | rfl | (simp; done) | (simp [*]; done)), H', ⟨by have := HJ6.out; have := HJ23.out; have := HK3.out; have := HK4.out; have := HK5.out; omega⟩, ⟨by (with_reducible repeat (first | apply Kd.R_alloc | apply Kd.R_drewN | apply Kd.R_drew)); exact HO_8.out⟩, ⟨by (with_reducible repeat (first | apply Kd.R_alloc | apply Kd.R_drewN | apply Kd.R_drew)); exact HO_12.out⟩, ⟨by (with_reducible repeat (first | apply Kd.S_alloc | apply Kd.S_drewN | apply Kd.S_drew)); exact HO_115.out⟩, ⟨by (with_reducible repeat (first | apply Kd.S_alloc | apply Kd.S_drewN | apply Kd.S_drew)); exact HO_485000.out⟩, ⟨by (with_reducible repeat (first | refine blk_drewN ?_ _ | refine blk_drew ?_ | refine blk_alloc ?_ _)); exact BK484.out⟩, ⟨by repeat (first | (with_reducible exact HR508_0.out) | (with_reducible refine Kd.C_alloc ?_ _) | (with_reducible refine Kd.C_drewN ?_ _) | (with_reducible refine Kd.C_drew ?_) | exact HR508_0.out)⟩, ⟨by repeat (first | (with_reducible first | exact HB.out | apply below_alloc | apply pw_below_drewN | apply below_drew1 | refine below_set ?_ GE484.out) | exact HB.out)⟩⟩
                                            · rw [if_neg c58] at H
                                              exact absurd H (by simp)
                                          · rw [if_neg c57] at H
                                            exact absurd H (by simp)
                                        · rw [if_neg c56] at H
                                          have c56b0 : decide (x124_5 < ((rd_L1 t479 x117_4).length : Int)) = false := decide_eq_false c56
                                          clear c56
                                          as_aux_lemma =>
                                            have H' := Aside0.mk H
                                            clear H
                                            go_wp2
                                            go_roundg k5
                                            case measure => have := HJ6.out; have := HJ23.out; have := HK3.out; have := HK4.out; have := HK5.out; omega
                                            case rel => exact ⟨(wrap64 (x117_4 + 1)), (by first | rfl | (simp; done) | (simp [*]; done)), H', ⟨by have := HJ6.out; have := HJ23.out; have := HK3.out; have := HK4.out; have := HK5.out; omega⟩, ⟨by (with_reducible repeat (first | apply Kd.R_alloc | apply Kd.R_drewN | apply Kd.R_drew)); exact HO_8.out⟩, ⟨by (with_reducible repeat (first | apply Kd.R_alloc | apply Kd.R_drewN | apply Kd.R_drew)); exact HO_12.out⟩, ⟨by (with_reducible repeat (first | apply Kd.S_alloc | apply Kd.S_drewN | apply Kd.S_drew)); exact HO_115.out⟩, ⟨by (with_reducible repeat (first | apply Kd.S_alloc | apply Kd.S_drewN | apply Kd.S_drew)); exact HO_485000.out⟩, ⟨by (with_reducible repeat (first | refine blk_drewN ?_ _ | refine blk_drew ?_ | refine blk_alloc ?_ _)); exact BK484.out⟩, ⟨by repeat (first | (with_reducible first | exact HB.out | apply below_alloc | apply pw_below_drewN | apply below_drew1 | refine below_set ?_ GE484.out) | exact HB.out)⟩⟩
                                  · rw [if_neg c55] at H
                                    exact absurd H (by simp)
                                · rw [if_neg c54] at H
                                  exact absurd H (by simp)
                              · rw [if_neg c53] at H
                                have c53b0 : decide (x117_4 < (t479.length : Int)) = false := decide_eq_false c53
                                clear c53
                                as_aux_lemma =>
                                  have H' := Aside0.mk H
                                  clear H
                                  go_wp2
                                  go_meet
                                  case rel => exact ⟨_, H', ⟨by have := HJ6.out; have := HJ23.out; have := HK3.out; have := HK4.out; first | omega | exact Nat.le_refl _⟩, ⟨by (with_reducible repeat (first | apply Kd.S_alloc | apply Kd.S_drewN | apply Kd.S_drew)); exact Kd.S_mono HO_485000.out (fun _ hk => trivial)⟩, ⟨by (with_reducible repeat (first | refine blk_drewN ?_ _ | refine blk_drew ?_ | refine blk_alloc ?_ _)); exact BK484.out⟩, ⟨by repeat (first | (with_reducible first | exact HB.out | apply below_alloc | apply pw_below_drewN | apply below_drew1 | refine below_set ?_ GE484.out) | exact HB.out)⟩⟩
            · replace c21 := Bool.eq_false_iff.mpr c21
              subst c21
              have H1 : (laws_FnLoops.j5 kj6 l1) = some r := by rw [if_neg (show ¬ (false = true) by decide)] at H; exact H
              clear H
              have H := H1
              clear H1
              as_aux_lemma =>
                have H' := Aside0.mk H
                clear H
                go_wp2
                go_meet
                case rel => exact ⟨_, H', ⟨by have := HJ6.out; first | omega | exact Nat.le_refl _⟩, ⟨by (with_reducible repeat (first | apply Kd.S_alloc | apply Kd.S_drewN | apply Kd.S_drew)); exact Kd.S_mono HO_485000.out (fun _ hk => trivial)⟩, ⟨by (with_reducible repeat (first | refine blk_drewN ?_ _ | refine blk_drew ?_ | refine blk_alloc ?_ _)); exact BK484.out⟩, ⟨by repeat (first | (with_reducible first | exact HB.out | apply below_alloc | apply pw_below_drewN | apply below_drew1 | refine below_set ?_ GE484.out) | exact HB.out)⟩⟩
          case rest => as_aux_lemma =>
            clear HC20
            try clear c1
            try clear c2
            try clear p2
            try clear c3
            try clear c3b0
            try clear c4
            try clear c5
            try clear p5
            try clear q5
            try clear hx5
            try clear c6
            try clear p6
            try clear c14
            try clear c15
            try clear c15b0
            try clear c15b1
            try clear c15b2
            try clear c19
            try clear c21
            try clear c29
            try clear c30
            try clear c32
            try clear c36
            try clear c37
            try clear c38
            try clear c38b0
            try clear c39
            try clear c39b0
            try clear c40
            try clear c40b0
            try clear c42
            try clear c43
            try clear c43b0
            try clear c44
            try clear c44b0
            try clear c46
            try clear c47
            try clear c50
            try clear p50
            try clear q50
            try clear hx50
            try clear c51
            try clear c53
            try clear c53b0
            try clear c54
            try clear c54b0
            try clear c55
            try clear c55b0
            try clear c56
            try clear c56b0
            try clear c57
            try clear c57b0
            try clear c58
            try clear c58b0
            try clear c60
            try clear c62
            try clear p64
            try clear c65
            try clear c66
            try clear c66b0
            try clear c66b1
            try clear hcz11_0
            try clear hcz13_0
            try clear hcz25_0
            try clear hcz27_0
            try clear hcz52_0
            try clear hfz11_0
            try clear hfz13_0
            try clear hfz25_0
            try clear hfz27_0
            try clear hfz52_0
            try clear hx504_0
            try clear hx506_0
            try clear hx508_0
            try clear hx509_0
            try clear p2
            try clear p5
            try clear p50
            try clear p504
            try clear p506
            try clear p508
            try clear p509
            try clear p6
            try clear q5
            try clear q50
            try clear q504
            try clear q506
            try clear q508
            try clear q509
            obtain ⟨kq, HA, HJ19, HO_485000, BK484, HB⟩ := hcut
            cases kq with
            | zero => exact absurd HA.out (by simp [laws_FnLoops.j5])
            | succ kj19 =>
              have H := HA.out
              clear HA
              simp only [laws_FnLoops.j5] at H
              replace H := Option.bind_eq_some_iff.mp H
              obtain ⟨t513, A710, H⟩ := H
              replace H : ((impl_BackEdges.f t513).bind fun bt517 => ((spec_BackEdges.f kj19 t513).bind fun bt521 => (if (bt517.2 != bt521.2) = true then (laws_FnLoops.j6 kj19 bt517.1 true t513) else ((laws_sameLists.f kj19 bt517.1 bt521.1).bind fun t525 => (laws_FnLoops.j6 kj19 bt517.1 (!t525) t513))))) = some r := H
              have A71 := Aside0.mk A710
              clear A710
              replace H := Option.bind_eq_some_iff.mp H
              obtain ⟨⟨t517, t520⟩, A720, H⟩ := H
              replace H : ((spec_BackEdges.f kj19 t513).bind fun bt521 => (if (t520 != bt521.2) = true then (laws_FnLoops.j6 kj19 t517 true t513) else ((laws_sameLists.f kj19 t517 bt521.1).bind fun t525 => (laws_FnLoops.j6 kj19 t517 (!t525) t513)))) = some r := H
              have A72 := Aside0.mk A720
              clear A720
              replace H := Option.bind_eq_some_iff.mp H
              obtain ⟨⟨t521, t524⟩, A730, H⟩ := H
              replace H : (if (t520 != t524) = true then (laws_FnLoops.j6 kj19 t517 true t513) else ((laws_sameLists.f kj19 t517 t521).bind fun t525 => (laws_FnLoops.j6 kj19 t517 (!t525) t513))) = some r := H
              have A73 := Aside0.mk A730
              clear A730
              have HC74 := Aside0.mk H
              clear H
              go_upto_region 32 with (first | ((with_reducible refine gate_callee (f := 52) rfl ?_); refine goesL_ (some 150) rfl rfl Try.func52 (by kernel_rfl) rfl #[.slice A1 l1.length c1] rfl (by (try simp only [List.map_toArray, List.map_cons, List.map_nil]); first | done | rfl | (simp only [List.length_drop, List.length_take]; rfl)) ?_; (with_reducible refine (spec_DrawBackEdges.calls kj19 _ _ l1 t513 _ ?side1 ?side2 A71.out).mono ?_); (case side1 => repeat (first | exact (Kd.C_below HR1.out HB.out) | (with_reducible refine Kd.C_alloc ?_ _) | (with_reducible refine Kd.C_drewN ?_ _) | (with_reducible refine Kd.C_drew ?_))); (case side2 => exact HC1.out); rintro e w75 ⟨v514, rfl, ho0, hb⟩; refine ⟨_, rfl, ?_⟩; have n0_ := Aside0.mk (Kd.S_elder' (by (with_reducible repeat (first | apply Kd.S_alloc | apply Kd.S_drewN | apply Kd.S_drew)); exact HO_485000.out) (Kd.S_base ho0) hb); have n1_ := Aside0.mk (Kd.S_lower (Kd.S_new' ho0 (Kd.S_lt (by (with_reducible repeat (first | apply Kd.S_alloc | apply Kd.S_drewN | apply Kd.S_drew)); exact HO_485000.out))) (below_size (by repeat (first | (with_reducible first | exact HB.out | apply below_alloc | apply pw_below_drewN | apply below_drew1 | refine below_set ?_ GE484.out) | exact HB.out)))); have n2_ := Aside0.mk (blk_below (g := gb484) (o := .cells #[.slice Ao10 t479.length co10] 27 (0, 0)) (by (with_reducible repeat (first | refine blk_drewN ?_ _ | refine blk_drew ?_ | refine blk_alloc ?_ _)); exact BK484.out) hb); have n3_ := Aside0.mk (below_step (by repeat (first | (with_reducible first | exact HB.out | apply below_alloc | apply pw_below_drewN | apply below_drew1 | refine below_set ?_ GE484.out) | exact HB.out)) hb); clear HO_485000; clear BK484; clear HB; have HO_485000 := n0_; have HO515 := n1_; have BK484 := n2_; have HB := n3_; clear n0_ n1_ n2_ n3_; (try clear hb); (try clear hb2); (try clear hk); (try clear hi); (try clear ho0)) | ((with_reducible refine gate_dst (N := 22) rfl ?_); refine box_event ?hg (N := 22) ?hd (cs := #[.slice none 0 0]) (t := 27) ?hr ?_; (case hd => rfl); (case hg => rfl); (case hr => first | (go_simp; done) | (go_simp; rfl)); intro gb516 hg w76 hbox hb; have n0_ := Aside0.mk (Kd.S_below (by (with_reducible repeat (first | apply Kd.S_alloc | apply Kd.S_drewN | apply Kd.S_drew)); exact HO_485000.out) hb); have n1_ := Aside0.mk (Kd.S_below (by (with_reducible repeat (first | apply Kd.S_alloc | apply Kd.S_drewN | apply Kd.S_drew)); exact HO515.out) hb); have n2_ := Aside0.mk (blk_below (g := gb484) (o := .cells #[.slice Ao10 t479.length co10] 27 (0, 0)) (by (with_reducible repeat (first | refine blk_drewN ?_ _ | refine blk_drew ?_ | refine blk_alloc ?_ _)); exact BK484.out) hb); have n3_ := Aside0.mk (below_step (by repeat (first | (with_reducible first | exact HB.out | apply below_alloc | apply pw_below_drewN | apply below_drew1 | refine below_set ?_ GE484.out) | exact HB.out)) hb); have n4_ := Aside0.mk (hbox); have n5_ := Aside0.mk ((by rw [hg]; exact (below_size (by repeat (first | (with_reducible first | exact HB.out | apply below_alloc | apply pw_below_drewN | apply below_drew1 | refine below_set ?_ GE484.out) | exact HB.out))) : w.heap.size ≤ gb516)); have n6_ := Aside0.mk ((by rw [hg]; exact (below_size (by repeat (first | (with_reducible first | exact HB.out | apply below_alloc | apply pw_below_drewN | apply below_drew1 | refine below_set ?_ GE484.out) | exact HB.out))) : w.heap.size ≤ gb516)); have n7_ := Aside0.mk ((by rw [hg]; exact Nat.ne_of_lt (blk_lt (g := gb484) (o := .cells #[.slice Ao10 t479.length co10] 27 (0, 0)) (by (with_reducible repeat (first | refine blk_drewN ?_ _ | refine blk_drew ?_ | refine blk_alloc ?_ _)); exact BK484.out)) : gb484 ≠ gb516)); have n8_ := Aside0.mk ((by rw [hg]; exact Nat.ne_of_gt (blk_lt (g := gb484) (o := .cells #[.slice Ao10 t479.length co10] 27 (0, 0)) (by (with_reducible repeat (first | refine blk_drewN ?_ _ | refine blk_drew ?_ | refine blk_alloc ?_ _)); exact BK484.out)) : gb516 ≠ gb484)); clear HO_485000; clear HO515; clear BK484; clear HB; have HO_485000 := n0_; have HO515 := n1_; have BK484 := n2_; have HB := n3_; have BK516 := n4_; have GW516 := n5_; have GE516 := n6_; have NB484_516 := n7_; have NB516_484 := n8_; clear n0_ n1_ n2_ n3_ n4_ n5_ n6_ n7_ n8_; clear hb hbox hg; obtain ⟨Ao77, co77, eo77⟩ := Kd.S_slice HO515.out; subst eo77; have hnb78 := NB516_484.out; have hnc78 := NB484_516.out; have hcz79_0 : w76.cell? ⟨gb516, 0, none⟩ = some (.slice none 0 0) := (blk_cell BK516.out 0).trans rfl; have hfz79_0 := blk_frozen BK516.out 0) | ((with_reducible refine gate_callee (f := 39) rfl ?_); refine goesL_ (some 153) rfl rfl Try.func39 (by kernel_rfl) rfl #[.agg #[.slice Ao77 t513.length co77]] rfl (by (try simp only [List.map_toArray, List.map_cons, List.map_nil]); first | done | rfl | (simp only [List.length_drop, List.length_take]; rfl)) ?_; (with_reducible refine (impl_BackEdges.calls _ _ t513 t517 t520 _ ?side1 ?side2 A72.out).mono ?_); (case side1 => refine (Kd.S_reads' (e := 31) (base := w.heap.size) (ok := fun k_ => (True ∧ some k_ ≠ (.slice Ao10 t479.length co10 : Value).ownBlock)) (n := t513.length) (c := co77) ?_).2.2; exact (by (with_reducible repeat (first | apply Kd.S_alloc | apply Kd.S_drewN | apply Kd.S_drew)); exact (Kd.S_mono (Kd.S_far (p := ⟨gb516, 0, none⟩) (Kd.S_types HO515.out BK516.out (by decide)) (fun _ hk => hk.2) (.slice Ao77 t513.length co77)) (fun _ h_ => h_.1)))); (case side2 => exact (Kd.S_reads' HO515.out).2.1); rintro e w80 ⟨v518, rfl, ho0, hb⟩; refine ⟨_, rfl, ?_⟩; have n0_ := Aside0.mk (Kd.S_elder' (by (with_reducible repeat (first | apply Kd.S_alloc | apply Kd.S_drewN | apply Kd.S_drew)); exact (Kd.S_mono (Kd.S_far (p := ⟨gb516, 0, none⟩) (Kd.S_types HO_485000.out BK516.out (by decide)) (fun _ hk => hk.2) (.slice Ao77 t513.length co77)) (fun _ h_ => h_.1))) (Kd.S_base ho0) hb); have n1_ := Aside0.mk (Kd.S_elder' (by (with_reducible repeat (first | apply Kd.S_alloc | apply Kd.S_drewN | apply Kd.S_drew)); exact (Kd.S_mono (Kd.S_far (p := ⟨gb516, 0, none⟩) (Kd.S_types HO515.out BK516.out (by decide)) (fun _ hk => hk.2) (.slice Ao77 t513.length co77)) (fun _ h_ => h_.1))) (Kd.S_base ho0) hb); have n2_ := Aside0.mk (Kd.S_lower (Kd.S_new' (Kd.S_new' ho0 (Kd.S_lt (by (with_reducible repeat (first | apply Kd.S_alloc | apply Kd.S_drewN | apply Kd.S_drew)); exact (Kd.S_mono (Kd.S_far (p := ⟨gb516, 0, none⟩) (Kd.S_types HO_485000.out BK516.out (by decide)) (fun _ hk => hk.2) (.slice Ao77 t513.length co77)) (fun _ h_ => h_.1))))) (Kd.S_lt (by (with_reducible repeat (first | apply Kd.S_alloc | apply Kd.S_drewN | apply Kd.S_drew)); exact (Kd.S_mono (Kd.S_far (p := ⟨gb516, 0, none⟩) (Kd.S_types HO515.out BK516.out (by decide)) (fun _ hk => hk.2) (.slice Ao77 t513.length co77)) (fun _ h_ => h_.1))))) (below_size (by repeat (first | (with_reducible first | exact HB.out | apply below_alloc | apply pw_below_drewN | apply below_drew1 | refine below_set ?_ GE484.out | refine below_set ?_ GE516.out) | exact HB.out)))); have n3_ := Aside0.mk (blk_below (g := gb484) (o := .cells #[.slice Ao10 t479.length co10] 27 (0, 0)) (by (with_reducible repeat (first | refine blk_drewN ?_ _ | refine blk_drew ?_ | refine blk_alloc ?_ _)); refine blk_far ?_ NB484_516.out _; (with_reducible repeat (first | refine blk_drewN ?_ _ | refine blk_drew ?_ | refine blk_alloc ?_ _)); exact BK484.out) hb); have n4_ := Aside0.mk (blk_below (g := gb516) (o := .cells #[.slice Ao77 t513.length co77] 27 (0, 0)) (by (with_reducible repeat (first | refine blk_drewN ?_ _ | refine blk_drew ?_ | refine blk_alloc ?_ _)); refine blk_put (cs := #[.slice none 0 0]) ?_ 0 _ rfl; (with_reducible repeat (first | refine blk_drewN ?_ _ | refine blk_drew ?_ | refine blk_alloc ?_ _)); exact BK516.out) hb); have n5_ := Aside0.mk (below_step (by repeat (first | (with_reducible first | exact HB.out | apply below_alloc | apply pw_below_drewN | apply below_drew1 | refine below_set ?_ GE484.out | refine below_set ?_ GE516.out) | exact HB.out)) hb); clear HO_485000; clear HO515; clear BK484; clear BK516; clear HB; have HO_485000 := n0_; have HO515 := n1_; have HO519 := n2_; have BK484 := n3_; have BK516 := n4_; have HB := n5_; clear n0_ n1_ n2_ n3_ n4_ n5_; (try clear hb); (try clear hb2); (try clear hk); (try clear hi); (try clear ho0); have hcz81_0 : w80.cell? ⟨gb516, 0, none⟩ = some (.slice Ao77 t513.length co77) := (blk_cell BK516.out 0).trans rfl; have hfz81_0 := blk_frozen BK516.out 0) | ((with_reducible refine gate_callee (f := 38) rfl ?_); refine goesL_ (some 158) rfl rfl Try.func38 (by kernel_rfl) rfl #[.agg #[.slice Ao77 t513.length co77]] rfl (by (try simp only [List.map_toArray, List.map_cons, List.map_nil]); first | done | rfl | (simp only [List.length_drop, List.length_take]; rfl)) ?_; (with_reducible refine (spec_BackEdges.calls kj19 _ _ t513 t521 t524 _ ?side1 ?side2 A73.out).mono ?_); (case side1 => repeat (first | exact (Kd.S_reads' HO515.out).2.2 | (with_reducible refine Kd.C_alloc ?_ _) | (with_reducible refine Kd.C_drewN ?_ _) | (with_reducible refine Kd.C_drew ?_))); (case side2 => exact (Kd.S_reads' HO515.out).2.1); rintro e w82 ⟨v522, rfl, ho0, hb⟩; refine ⟨_, rfl, ?_⟩; have n0_ := Aside0.mk (Kd.S_elder' (by (with_reducible repeat (first | apply Kd.S_alloc | apply Kd.S_drewN | apply Kd.S_drew)); exact HO_485000.out) (Kd.S_base ho0) hb); have n1_ := Aside0.mk (Kd.S_elder' (by (with_reducible repeat (first | apply Kd.S_alloc | apply Kd.S_drewN | apply Kd.S_drew)); exact HO515.out) (Kd.S_base ho0) hb); have n2_ := Aside0.mk (Kd.S_elder' (by (with_reducible repeat (first | apply Kd.S_alloc | apply Kd.S_drewN | apply Kd.S_drew)); exact HO519.out) (Kd.S_base ho0) hb); have n3_ := Aside0.mk (Kd.S_lower (Kd.S_new' (Kd.S_new' (Kd.S_new' ho0 (Kd.S_lt (by (with_reducible repeat (first | apply Kd.S_alloc | apply Kd.S_drewN | apply Kd.S_drew)); exact HO_485000.out))) (Kd.S_lt (by (with_reducible repeat (first | apply Kd.S_alloc | apply Kd.S_drewN | apply Kd.S_drew)); exact HO515.out))) (Kd.S_lt (by (with_reducible repeat (first | apply Kd.S_alloc | apply Kd.S_drewN | apply Kd.S_drew)); exact HO519.out))) (below_size (by repeat (first | (with_reducible first | exact HB.out | apply below_alloc | apply pw_below_drewN | apply below_drew1 | refine below_set ?_ GE484.out | refine below_set ?_ GE516.out) | exact HB.out)))); have n4_ := Aside0.mk (blk_below (g := gb484) (o := .cells #[.slice Ao10 t479.length co10] 27 (0, 0)) (by (with_reducible repeat (first | refine blk_drewN ?_ _ | refine blk_drew ?_ | refine blk_alloc ?_ _)); exact BK484.out) hb); have n5_ := Aside0.mk (blk_below (g := gb516) (o := .cells #[.slice Ao77 t513.length co77] 27 (0, 0)) (by (with_reducible repeat (first | refine blk_drewN ?_ _ | refine blk_drew ?_ | refine blk_alloc ?_ _)); exact BK516.out) hb); have n6_ := Aside0.mk (below_step (by repeat (first | (with_reducible first | exact HB.out | apply below_alloc | apply pw_below_drewN | apply below_drew1 | refine below_set ?_ GE484.out | refine below_set ?_ GE516.out) | exact HB.out)) hb); clear HO_485000; clear HO515; clear HO519; clear BK484; clear BK516; clear HB; have HO_485000 := n0_; have HO515 := n1_; have HO519 := n2_; have HO523 := n3_; have BK484 := n4_; have BK516 := n5_; have HB := n6_; clear n0_ n1_ n2_ n3_ n4_ n5_ n6_; (try clear hb); (try clear hb2); (try clear hk); (try clear hi); (try clear ho0)))
              (try simp only [Act.put, List.setIfInBounds_toArray, List.set_cons_zero, List.set_cons_succ])
              go_cut [169] (fun v169 wc => ∃ (kq : Nat) (x169_73 : Bool), v169 = .bool x169_73 ∧ Aside0 (laws_FnLoops.j6 kq t517 x169_73 t513 = some r) ∧ Aside0 (kq ≤ kj19) ∧ Aside0 (Kd.S (Kd.slice 3 (Kd.int .i64)) 31 wc w.heap.size (fun k_ => some k_ ≠ ((.slice Ao10 t479.length co10) : Value).ownBlock ∧ some k_ ≠ ((.slice Ao77 t513.length co77) : Value).ownBlock) v518 t517) ∧ Aside0 (Kd.S (Kd.slice 3 (Kd.int .i64)) 31 wc w.heap.size (fun k_ => some k_ ≠ (v518 : Value).ownBlock ∧ some k_ ≠ ((.slice Ao77 t513.length co77) : Value).ownBlock) (.slice Ao10 t479.length co10) t479) ∧ Aside0 (Kd.S (Kd.slice 3 (Kd.int .i64)) 31 wc w.heap.size (fun k_ => some k_ ≠ (v518 : Value).ownBlock ∧ some k_ ≠ ((.slice Ao10 t479.length co10) : Value).ownBlock) (.slice Ao77 t513.length co77) t513) ∧ Aside0 (wc.heap[gb484]? = some (.cells #[(.slice Ao10 t479.length co10)] 27 (0, 0))) ∧ Aside0 (wc.heap[gb516]? = some (.cells #[(.slice Ao77 t513.length co77)] 27 (0, 0))) ∧ Aside0 (Below w.heap.size w wc))
              case first =>
                have H := HC74.out
                clear HC74
                by_cases c83 : (t520 != t524) = true
                · rw [if_pos c83] at H
                  have c83b0 : (t520 != t524) = true := c83
                  (try (have c83b1 : decide (t520 = t524) = false := by simpa using c83))
                  (try (have c83b2 : (t520 == t524) = false := by simpa using c83))
                  (try (have c83b3 : ¬ (t520 = t524) := by simpa using c83))
                  clear c83
                  (first | rw [c83b0] | (simp only [i64_w, i32_w]; rw [c83b0]) | skip)
                  as_aux_lemma =>
                    have H' := Aside0.mk H
                    clear H
                    go_wp2
                    go_meet
                    case rel => exact ⟨_, (true), (by first | rfl | (simp; done) | (simp [*]; done)), H', ⟨by have := HJ6.out; have := HJ19.out; first | omega | exact Nat.le_refl _⟩, ⟨by (with_reducible repeat (first | apply Kd.S_alloc | apply Kd.S_drewN | apply Kd.S_drew)); exact Kd.S_mono HO519.out (fun _ hk => ⟨hk.1.1.2, hk.1.2⟩)⟩, ⟨by (with_reducible repeat (first | apply Kd.S_alloc | apply Kd.S_drewN | apply Kd.S_drew)); exact Kd.S_mono HO_485000.out (fun _ hk => ⟨hk.1.2, hk.1.1.2⟩)⟩, ⟨by (with_reducible repeat (first | apply Kd.S_alloc | apply Kd.S_drewN | apply Kd.S_drew)); exact Kd.S_mono HO515.out (fun _ hk => ⟨hk.1.2, hk.1.1.2⟩)⟩, ⟨by (with_reducible repeat (first | refine blk_drewN ?_ _ | refine blk_drew ?_ | refine blk_alloc ?_ _)); exact BK484.out⟩, ⟨by (with_reducible repeat (first | refine blk_drewN ?_ _ | refine blk_drew ?_ | refine blk_alloc ?_ _)); exact BK516.out⟩, ⟨by repeat (first | (with_reducible first | exact HB.out | apply below_alloc | apply pw_below_drewN | apply below_drew1 | refine below_set ?_ GE484.out | refine below_set ?_ GE516.out) | exact HB.out)⟩⟩
                · rw [if_neg c83] at H
                  have c83b0 : (t520 != t524) = false := by simpa using c83
                  (try (have c83b1 : decide (t520 = t524) = true := by simpa using c83))
                  (try (have c83b2 : (t520 == t524) = true := by simpa using c83))
                  clear c83
                  (first | rw [c83b0] | (simp only [i64_w, i32_w]; rw [c83b0]) | skip)
                  replace H := Option.bind_eq_some_iff.mp H
                  obtain ⟨t525, A840, H⟩ := H
                  replace H : (laws_FnLoops.j6 kj19 t517 (!t525) t513) = some r := H
                  have A84 := Aside0.mk A840
                  clear A840
                  as_aux_lemma =>
                    have H' := Aside0.mk H
                    clear H
                    obtain ⟨Ao85, co85, eo85⟩ := Kd.S_slice HO519.out
                    (first | subst eo85 | (injection eo85 with ea_ en_ ec_; (replace ea_ := ea_.symm); (replace ec_ := ec_.symm); subst ea_; subst ec_))
                    obtain ⟨Ao86, co86, eo86⟩ := Kd.S_slice HO523.out
                    (first | subst eo86 | (injection eo86 with ea_ en_ ec_; (replace ea_ := ea_.symm); (replace ec_ := ec_.symm); subst ea_; subst ec_))
                    go_wp2_with (first | (go_at_call 45; (with_reducible refine (laws_sameLists.calls kj19 _ _ t517 _ _ t521 t525 _ ?side1 ?side2 ?side3 ?side4 A84.out).mono ?_); (case side1 => repeat (first | exact (Kd.S_reads' HO519.out).2.2 | (with_reducible refine Kd.C_alloc ?_ _) | (with_reducible refine Kd.C_drewN ?_ _) | (with_reducible refine Kd.C_drew ?_))); (case side2 => exact (Kd.S_reads' HO519.out).2.1); (case side3 => repeat (first | exact (Kd.S_reads' HO523.out).2.2 | (with_reducible refine Kd.C_alloc ?_ _) | (with_reducible refine Kd.C_drewN ?_ _) | (with_reducible refine Kd.C_drew ?_))); (case side4 => exact (Kd.S_reads' HO523.out).2.1); rintro e w' ⟨rfl, ⟨nd, rfl⟩⟩))
                    go_meet
                    case rel => exact ⟨_, (!t525), (by first | rfl | (simp; done) | (simp [*]; done)), H', ⟨by have := HJ6.out; have := HJ19.out; first | omega | exact Nat.le_refl _⟩, ⟨by (with_reducible repeat (first | apply Kd.S_alloc | apply Kd.S_drewN | apply Kd.S_drew)); exact Kd.S_mono HO519.out (fun _ hk => ⟨hk.1.1.2, hk.1.2⟩)⟩, ⟨by (with_reducible repeat (first | apply Kd.S_alloc | apply Kd.S_drewN | apply Kd.S_drew)); exact Kd.S_mono HO_485000.out (fun _ hk => ⟨hk.1.2, hk.1.1.2⟩)⟩, ⟨by (with_reducible repeat (first | apply Kd.S_alloc | apply Kd.S_drewN | apply Kd.S_drew)); exact Kd.S_mono HO515.out (fun _ hk => ⟨hk.1.2, hk.1.1.2⟩)⟩, ⟨by (with_reducible repeat (first | refine blk_drewN ?_ _ | refine blk_drew ?_ | refine blk_alloc ?_ _)); exact BK484.out⟩, ⟨by (with_reducible repeat (first | refine blk_drewN ?_ _ | refine blk_drew ?_ | refine blk_alloc ?_ _)); exact BK516.out⟩, ⟨by repeat (first | (with_reducible first | exact HB.out | apply below_alloc | apply pw_below_drewN | apply below_drew1 | refine below_set ?_ GE484.out | refine below_set ?_ GE516.out) | exact HB.out)⟩⟩
              case rest => as_aux_lemma =>
                clear HC74
                try clear c1
                try clear c2
                try clear p2
                try clear c3
                try clear c3b0
                try clear c4
                try clear c5
                try clear p5
                try clear q5
                try clear hx5
                try clear c6
                try clear p6
                try clear c7
                try clear c8
                try clear c14
                try clear c15
                try clear c15b0
                try clear c15b1
                try clear c15b2
                try clear c19
                try clear c21
                try clear c29
                try clear c30
                try clear c32
                try clear c36
                try clear c37
                try clear c38
                try clear c38b0
                try clear c39
                try clear c39b0
                try clear c40
                try clear c40b0
                try clear c42
                try clear c43
                try clear c43b0
                try clear c44
                try clear c44b0
                try clear c46
                try clear c47
                try clear c50
                try clear p50
                try clear q50
                try clear hx50
                try clear c51
                try clear c52
                try clear c53
                try clear c53b0
                try clear c54
                try clear c54b0
                try clear c55
                try clear c55b0
                try clear c56
                try clear c56b0
                try clear c57
                try clear c57b0
                try clear c58
                try clear c58b0
                try clear c60
                try clear c62
                try clear p64
                try clear c65
                try clear c66
                try clear c66b0
                try clear c66b1
                try clear c78
                try clear c83
                try clear c83b0
                try clear c83b1
                try clear c83b2
                try clear hcz11_0
                try clear hcz13_0
                try clear hcz25_0
                try clear hcz27_0
                try clear hcz52_0
                try clear hcz79_0
                try clear hcz81_0
                try clear hfz11_0
                try clear hfz13_0
                try clear hfz25_0
                try clear hfz27_0
                try clear hfz52_0
                try clear hfz79_0
                try clear hfz81_0
                try clear hx504_0
                try clear hx506_0
                try clear hx508_0
                try clear hx509_0
                try clear p2
                try clear p5
                try clear p50
                try clear p504
                try clear p506
                try clear p508
                try clear p509
                try clear p6
                try clear p64
                try clear q5
                try clear q50
                try clear q504
                try clear q506
                try clear q508
                try clear q509
                obtain ⟨kq, x169_73, rfl, HA, HJ73, HO_23, HO_485000, HO_517000, BK484, BK516, HB⟩ := hcut
                cases kq with
                | zero => exact absurd HA.out (by simp [laws_FnLoops.j6])
                | succ kj73 =>
                  have H := HA.out
                  clear HA
                  simp only [laws_FnLoops.j6] at H
                  by_cases c87 : x169_73 = true
                  · subst c87
                    have H1 : (some false) = some r := by rw [if_pos rfl] at H; exact H
                    clear H
                    have H := H1
                    clear H1
                    as_aux_lemma =>
                      obtain rfl := Option.some.inj H
                      go_wp2
                      go_ret
                      exact ⟨by first | rfl | (simp [errW_none, errW_some] <;> rfl) | (simp [*, errW_none, errW_some] <;> rfl), by repeat (first | (with_reducible first | exact HB.out | apply below_alloc | apply pw_below_drewN | apply below_drew1 | refine below_set ?_ GE484.out | refine below_set ?_ GE516.out) | exact HB.out)⟩
                  · replace c87 := Bool.eq_false_iff.mpr c87
                    subst c87
                    have H1 : (laws_FnLoops.l3 kj73 t517 (t517.length : Int) 0 t513) = some r := by rw [if_neg (show ¬ (false = true) by decide)] at H; exact H
                    clear H
                    have H := H1
                    clear H1
                    have H' := Aside0.mk H
                    clear H
                    obtain ⟨Ao88, co88, eo88⟩ := Kd.S_slice HO_23.out
                    (first | subst eo88 | (injection eo88 with ea_ en_ ec_; (replace ea_ := ea_.symm); (replace ec_ := ec_.symm); subst ea_; subst ec_))
                    go_wp2
                    go_loopg [172] kj73 (fun kq v172 w' => ∃ (x172_4 : Int), v172 = .int .i64 x172_4 ∧ Aside0 (laws_FnLoops.l3 kq t517 (t517.length : Int) x172_4 t513 = some r) ∧ Aside0 (kq ≤ kj73) ∧ Aside0 (Kd.S (Kd.slice 3 (Kd.int .i64)) 31 w' w.heap.size (fun k_ => some k_ ≠ ((.slice Ao10 t479.length co10) : Value).ownBlock ∧ some k_ ≠ ((.slice Ao77 t513.length co77) : Value).ownBlock) (.slice Ao88 t517.length co88) t517) ∧ Aside0 (Kd.S (Kd.slice 3 (Kd.int .i64)) 31 w' w.heap.size (fun k_ => some k_ ≠ ((.slice Ao88 t517.length co88) : Value).ownBlock ∧ some k_ ≠ ((.slice Ao77 t513.length co77) : Value).ownBlock) (.slice Ao10 t479.length co10) t479) ∧ Aside0 (Kd.S (Kd.slice 3 (Kd.int .i64)) 31 w' w.heap.size (fun k_ => some k_ ≠ ((.slice Ao88 t517.length co88) : Value).ownBlock ∧ some k_ ≠ ((.slice Ao10 t479.length co10) : Value).ownBlock) (.slice Ao77 t513.length co77) t513) ∧ Aside0 (w'.heap[gb484]? = some (.cells #[(.slice Ao10 t479.length co10)] 27 (0, 0))) ∧ Aside0 (w'.heap[gb516]? = some (.cells #[(.slice Ao77 t513.length co77)] 27 (0, 0))) ∧ Aside0 (Below w.heap.size w w'))
                    case atStart => exact ⟨(0), (by first | rfl | (simp; done) | (simp [*]; done)), H', ⟨Nat.le_refl _⟩, ⟨by (with_reducible repeat (first | apply Kd.S_alloc | apply Kd.S_drewN | apply Kd.S_drew)); exact HO_23.out⟩, ⟨by (with_reducible repeat (first | apply Kd.S_alloc | apply Kd.S_drewN | apply Kd.S_drew)); exact HO_485000.out⟩, ⟨by (with_reducible repeat (first | apply Kd.S_alloc | apply Kd.S_drewN | apply Kd.S_drew)); exact HO_517000.out⟩, ⟨by (with_reducible repeat (first | refine blk_drewN ?_ _ | refine blk_drew ?_ | refine blk_alloc ?_ _)); exact BK484.out⟩, ⟨by (with_reducible repeat (first | refine blk_drewN ?_ _ | refine blk_drew ?_ | refine blk_alloc ?_ _)); exact BK516.out⟩, ⟨by repeat (first | (with_reducible first | exact HB.out | apply below_alloc | apply pw_below_drewN | apply below_drew1 | refine below_set ?_ GE484.out | refine below_set ?_ GE516.out) | exact HB.out)⟩⟩
                    case round => as_aux_lemma =>
                      clear H'
                      try clear c1
                      try clear c2
                      try clear p2
                      try clear c3
                      try clear c3b0
                      try clear c4
                      try clear c5
                      try clear p5
                      try clear q5
                      try clear hx5
                      try clear c6
                      try clear p6
                      try clear c7
                      try clear c8
                      try clear c14
                      try clear c15
                      try clear c15b0
                      try clear c15b1
                      try clear c15b2
                      try clear c19
                      try clear c21
                      try clear c29
                      try clear c30
                      try clear c32
                      try clear c36
                      try clear c37
                      try clear c38
                      try clear c38b0
                      try clear c39
                      try clear c39b0
                      try clear c40
                      try clear c40b0
                      try clear c42
                      try clear c43
                      try clear c43b0
                      try clear c44
                      try clear c44b0
                      try clear c46
                      try clear c47
                      try clear c50
                      try clear p50
                      try clear q50
                      try clear hx50
                      try clear c51
                      try clear c52
                      try clear c53
                      try clear c53b0
                      try clear c54
                      try clear c54b0
                      try clear c55
                      try clear c55b0
                      try clear c56
                      try clear c56b0
                      try clear c57
                      try clear c57b0
                      try clear c58
                      try clear c58b0
                      try clear c60
                      try clear c62
                      try clear p64
                      try clear c65
                      try clear c66
                      try clear c66b0
                      try clear c66b1
                      try clear c78
                      try clear c83
                      try clear c83b0
                      try clear c83b1
                      try clear c83b2
                      try clear c87
                      try clear hcz11_0
                      try clear hcz13_0
                      try clear hcz25_0
                      try clear hcz27_0
                      try clear hcz52_0
                      try clear hcz79_0
                      try clear hcz81_0
                      try clear hfz11_0
                      try clear hfz13_0
                      try clear hfz25_0
                      try clear hfz27_0
                      try clear hfz52_0
                      try clear hfz79_0
                      try clear hfz81_0
                      try clear hx504_0
                      try clear hx506_0
                      try clear hx508_0
                      try clear hx509_0
                      try clear p2
                      try clear p5
                      try clear p50
                      try clear p504
                      try clear p506
                      try clear p508
                      try clear p509
                      try clear p6
                      try clear p64
                      try clear q5
                      try clear q50
                      try clear q504
                      try clear q506
                      try clear q508
                      try clear q509
                      obtain ⟨x172_4, rfl, HA, HK4, HO_170, HO_485000, HO_517000, BK484, BK516, HB⟩ := hrel
                      cases gk with
                      | zero => exact absurd HA.out (by simp [laws_FnLoops.l3])
                      | succ k4 =>
                        have H := HA.out
                        clear HA
                        simp only [laws_FnLoops.l3] at H
                        by_cases c89 : x172_4 < (t517.length : Int)
                        · rw [if_pos c89] at H
                          have c89b0 : decide (x172_4 < (t517.length : Int)) = true := decide_eq_true c89
                          clear c89
                          by_cases c90 : 0 ≤ x172_4
                          · rw [if_pos c90] at H
                            have c90b0 : decide (0 ≤ x172_4) = true := decide_eq_true c90
                            clear c90
                            by_cases c91 : x172_4 < (t517.length : Int)
                            · rw [if_pos c91] at H
                              have c91b0 : decide (x172_4 < (t517.length : Int)) = true := decide_eq_true c91
                              clear c91
                              by_cases c92 : 0 < ((rd_L1 t517 x172_4).length : Int)
                              · rw [if_pos c92] at H
                                have c92b0 : decide (0 < ((rd_L1 t517 x172_4).length : Int)) = true := decide_eq_true c92
                                have c92b1 : decide (0 < (rd_L1 t517 x172_4).length) = true := decide_eq_true (by omega)
                                clear c92
                                by_cases c93 : 1 < ((rd_L1 t517 x172_4).length : Int)
                                · rw [if_pos c93] at H
                                  have c93b0 : decide (1 < ((rd_L1 t517 x172_4).length : Int)) = true := decide_eq_true c93
                                  have c93b1 : decide (1 < (rd_L1 t517 x172_4).length) = true := decide_eq_true (by omega)
                                  clear c93
                                  replace H := Option.bind_eq_some_iff.mp H
                                  obtain ⟨⟨t529, t532⟩, A940, H⟩ := H
                                  replace H : (if t532 = true then (laws_FnLoops.l3 k4 t517 (t517.length : Int) (wrap64 (x172_4 + 1)) t513) else (some false)) = some r := H
                                  have A94 := Aside0.mk A940
                                  clear A940
                                  by_cases c95 : t532 = true
                                  · subst c95
                                    have H1 : (laws_FnLoops.l3 k4 t517 (t517.length : Int) (wrap64 (x172_4 + 1)) t513) = some r := by rw [if_pos rfl] at H; exact H
                                    clear H
                                    have H := H1
                                    clear H1
                                    as_aux_lemma =>
                                      have H' := Aside0.mk H
                                      clear H
                                      have p526 : 0 ≤ (x172_4 : Int) := of_decide_eq_true (by first | (with_reducible assumption) | assumption)
                                      have q526 : x172_4 < (t517.length : Int) := of_decide_eq_true (by first | (with_reducible assumption) | assumption)
                                      obtain ⟨ad526, A526_0, c526_0, e526, hx526_0, hl526_0, hi526_0⟩ := at_L1 (Kd.S_reads' HO_170.out).2.2 x172_4 p526 q526
                                      cases e526
                                      obtain ⟨ce526, hce526, hMe526, hcc526⟩ := Kd.S_get HO_170.out [] x172_4 p526 (by first | exact q526 | exact of_decide_eq_true (by first | (with_reducible assumption) | assumption) | (have e_ := (Kd.S_reads' HO_170.out).1; omega))
                                      obtain ⟨ve526_0, rfl, ge526_0⟩ := hMe526
                                      have hv526_0 := hcc526 0 _ rfl
                                      rw [Nat.add_zero, show ((Kd.slice 3 (Kd.int .i64))).sz = 1 from rfl, Nat.mul_one] at hv526_0
                                      replace hv526_0 := Option.some.inj (hv526_0.symm.trans hx526_0)
                                      rw [hv526_0] at ge526_0
                                      have HL526_0 := Aside0.mk (show Kd.R (Kd.int .i64) 3 _ _ _ _ (rd_L1 t517 x172_4) from ge526_0)
                                      clear hv526_0 ge526_0
                                      clear hcc526 hce526
                                      have HR526_0 := Aside0.mk hi526_0
                                      have HC526_0 := Aside0.mk hl526_0
                                      clear hi526_0 hl526_0
                                      replace p526 := eq_true p526
                                      replace q526 := eq_true q526
                                      try go_wp2
                                      have n0_ := Aside0.mk (Kd.S_drew HO_170.out)
                                      have n1_ := Aside0.mk (Kd.S_drew HO_485000.out)
                                      have n2_ := Aside0.mk (Kd.S_drew HO_517000.out)
                                      have n3_ := Aside0.mk (Kd.R_drew HL526_0.out)
                                      have n4_ := Aside0.mk (blk_drew BK484.out)
                                      have n5_ := Aside0.mk (blk_drew BK516.out)
                                      have n6_ := Aside0.mk (Kd.C_drew HR526_0.out)
                                      have n7_ := Aside0.mk (below_drew1 HB.out)
                                      clear HO_170
                                      clear HO_485000
                                      clear HO_517000
                                      clear HL526_0
                                      clear BK484
                                      clear BK516
                                      clear HR526_0
                                      clear HB
                                      have HO_170 := n0_
                                      have HO_485000 := n1_
                                      have HO_517000 := n2_
                                      have HL526_0 := n3_
                                      have BK484 := n4_
                                      have BK516 := n5_
                                      have HR526_0 := n6_
                                      have HB := n7_
                                      clear n0_ n1_ n2_ n3_ n4_ n5_ n6_ n7_
                                      have p527 : 0 ≤ (0 : Int) := (by omega)
                                      have q527 : 0 < ((rd_L1 t517 x172_4).length : Int) := of_decide_eq_true (by first | (with_reducible assumption) | assumption)
                                      obtain ⟨ad527, e527, hx527_0⟩ := Kd.at_int (by repeat (first | (with_reducible exact HR526_0.out) | (with_reducible refine Kd.C_alloc ?_ _) | (with_reducible refine Kd.C_drewN ?_ _) | (with_reducible refine Kd.C_drew ?_) | exact HR526_0.out)) 0 p527 q527
                                      cases e527
                                      have qi527 : (0 < (rd_L1 t517 x172_4).length) = True := eq_true (by omega)
                                      (try rw [show ((0 : Int)).toNat = 0 from rfl] at hx527_0)
                                      (try rw [Addr.add_zero'] at hx527_0)
                                      replace p527 := eq_true p527
                                      replace q527 := eq_true q527
                                      have p528 : 0 ≤ (1 : Int) := (by omega)
                                      have q528 : 1 < ((rd_L1 t517 x172_4).length : Int) := of_decide_eq_true (by first | (with_reducible assumption) | assumption)
                                      obtain ⟨ad528, e528, hx528_0⟩ := Kd.at_int (by repeat (first | (with_reducible exact HR526_0.out) | (with_reducible refine Kd.C_alloc ?_ _) | (with_reducible refine Kd.C_drewN ?_ _) | (with_reducible refine Kd.C_drew ?_) | exact HR526_0.out)) 1 p528 q528
                                      obtain rfl : ad527 = ad528 := (by injection e528)
                                      (try simp only [show (1 : Int).toNat = 1 from rfl, Nat.reduceMul, Nat.reduceEqDiff, Go.Addr.add, ↓reduceIte] at hx528_0)
                                      have qi528 : (1 < (rd_L1 t517 x172_4).length) = True := eq_true (by omega)
                                      (try rw [show ((1 : Int)).toNat = 1 from rfl] at hx528_0)
                                      replace p528 := eq_true p528
                                      replace q528 := eq_true q528
                                      refine start_ (n := 13) (S := fun w' => w'.cell? ⟨gb516, 0, none⟩ = some (.slice Ao77 t513.length co77) ∧ w'.cell? ad527 = some (.int .i64 (rd (rd_L1 t517 x172_4) 0)) ∧ w'.cell? ⟨ad527.block, ad527.off + 1, none⟩ = some (.int .i64 (rd (rd_L1 t517 x172_4) 1))) (ds := []) #[false, false, false, false, false, false, false, false, false, false, false, false, false] (by kernel_rfl) rfl rfl ⟨(blk_cell BK516.out 0).trans rfl, hx527_0, hx528_0⟩ (fun hHeld => ?_); refine with_tabW laws_FnLoops.tab37 laws_FnLoops.bits37 (fun HT_ HW_ => ?_)
                                      generalize wr.drew = w96 at HO_170 HO_485000 HO_517000 HL526_0 BK484 BK516 HR526_0 HB hx527_0 hx528_0 hHeld ⊢
                                      refine pure_ (i := 1) (N := some 178) (v := ?_) (a' := ?_) #[false, true, false, false, false, false, false, false, false, false, false, false, false] rfl rfl (any_of HT_.out (by kernel_rfl)) (fun _ _ _ h => h) (Or.inl ⟨by rfl, ?_⟩) ?_ ?_
                                      rotate_left
                                      · intro w'
                                        go_simp
                                        with_reducible rfl
                                      rotate_left
                                      · simp only [Act.put, List.setIfInBounds_toArray, List.set_cons_zero, List.set_cons_succ, i64_w, i32_w]
                                        rfl
                                      refine pure_ (i := 2) (N := some 179) (v := ?_) (a' := ?_) #[false, true, true, false, false, false, false, false, false, false, false, false, false] rfl rfl (any_of HT_.out (by kernel_rfl)) (fun _ _ _ h => h) (Or.inl ⟨by rfl, ?_⟩) ?_ ?_
                                      rotate_left
                                      · intro w'
                                        go_simp
                                        with_reducible rfl
                                      rotate_left
                                      · simp only [Act.put, List.setIfInBounds_toArray, List.set_cons_zero, List.set_cons_succ, i64_w, i32_w]
                                        rfl
                                      refine pure_ (i := 4) (N := some 181) (v := ?_) (a' := ?_) #[false, true, true, false, true, false, false, false, false, false, false, false, false] rfl rfl (any_of HT_.out (by kernel_rfl)) (fun _ _ _ h => h) (Or.inl ⟨by rfl, ?_⟩) ?_ ?_
                                      rotate_left
                                      · intro w'
                                        go_simp
                                        with_reducible rfl
                                      rotate_left
                                      · simp only [Act.put, List.setIfInBounds_toArray, List.set_cons_zero, List.set_cons_succ, i64_w, i32_w]
                                        rfl
                                      refine pure_ (i := 5) (N := some 182) (v := ?_) (a' := ?_) #[false, true, true, false, true, true, false, false, false, false, false, false, false] rfl rfl (any_of HT_.out (by kernel_rfl)) (fun _ _ _ h => h) (Or.inl ⟨by rfl, ?_⟩) ?_ ?_
                                      rotate_left
                                      · intro w'
                                        go_simp
                                        with_reducible rfl
                                      rotate_left
                                      · simp only [Act.put, List.setIfInBounds_toArray, List.set_cons_zero, List.set_cons_succ, i64_w, i32_w]
                                        rfl
                                      refine take_ (i := 0) (N := some 177) (v := ?_) (a' := ?_) #[true, true, true, false, true, true, false, false, false, false, false, false, false] rfl rfl (take_ofW HT_.out HW_.out (by kernel_rfl)) (fun _ _ _ h => h) (Or.inl ⟨by rfl, ?_⟩) hHeld ?_ ?_
                                      rotate_left
                                      · rintro w' ⟨s0, s1, s2⟩
                                        go_simp
                                        with_reducible rfl
                                      rotate_left
                                      · simp only [Act.put, List.setIfInBounds_toArray, List.set_cons_zero, List.set_cons_succ, i64_w, i32_w]
                                        rfl
                                      refine take_ (i := 3) (N := some 180) (v := ?_) (a' := ?_) #[true, true, true, true, true, true, false, false, false, false, false, false, false] rfl rfl (take_ofW HT_.out HW_.out (by kernel_rfl)) (fun _ _ _ h => h) (Or.inl ⟨by rfl, ?_⟩) hHeld ?_ ?_
                                      rotate_left
                                      · rintro w' ⟨s0, s1, s2⟩
                                        go_simp
                                        with_reducible rfl
                                      rotate_left
                                      · simp only [Act.put, List.setIfInBounds_toArray, List.set_cons_zero, List.set_cons_succ, i64_w, i32_w]
                                        rfl
                                      refine take_ (i := 6) (N := some 183) (v := ?_) (a' := ?_) #[true, true, true, true, true, true, true, false, false, false, false, false, false] rfl rfl (take_ofW HT_.out HW_.out (by kernel_rfl)) (fun _ _ _ h => h) (Or.inl ⟨by rfl, ?_⟩) hHeld ?_ ?_
                                      rotate_left
                                      · rintro w' ⟨s0, s1, s2⟩
                                        go_simp
                                        with_reducible rfl
                                      rotate_left
                                      · simp only [Act.put, List.setIfInBounds_toArray, List.set_cons_zero, List.set_cons_succ, i64_w, i32_w]
                                        rfl
                                      refine one_ (i := 7) (N := some 184) #[true, true, true, true, true, true, true, true, false, false, false, false, false] rfl rfl (one_of HT_.out (by kernel_rfl)) (by decide) (fun K hK => ?_)
                                      refine goes_ Try.func43 (by kernel_rfl) rfl #[.agg #[.slice Ao77 t513.length co77], .int .i64 (rd (rd_L1 t517 x172_4) 0), .int .i64 (rd (rd_L1 t517 x172_4) 1)] (by rfl) rfl rfl (by (try simp only [List.map_toArray, List.map_cons, List.map_nil]); first | done | rfl | (simp only [List.length_drop, List.length_take]; rfl)) ?_
                                      with_reducible refine (impl_LoopOf.calls _ _ t513 (rd (rd_L1 t517 x172_4) 0) (rd (rd_L1 t517 x172_4) 1) t529 true _ ?side1 ?side2 A94.out).mono ?_
                                      (case side1 => repeat (first | exact (Kd.S_reads' HO_517000.out).2.2 | (with_reducible refine Kd.C_alloc ?_ _) | (with_reducible refine Kd.C_drewN ?_ _) | (with_reducible refine Kd.C_drew ?_)))
                                      (case side2 => exact (Kd.S_reads' HO_517000.out).2.1)
                                      rintro e w97 ⟨v530, rfl, ho0, hb⟩
                                      have HS1_ := (hb.cell (World.block_lt_of_cell? _ _ (hHeld.2.1))).trans (hHeld.2.1)
                                      have HS2_ := (hb.cell (World.block_lt_of_cell? _ _ (hHeld.2.2))).trans (hHeld.2.2)
                                      refine ⟨_, rfl, ?_⟩
                                      have n0_ := Aside0.mk (Kd.S_elder' (by (with_reducible repeat (first | apply Kd.S_alloc | apply Kd.S_drewN | apply Kd.S_drew)); exact HO_170.out) (Kd.R_base ho0) hb)
                                      have n1_ := Aside0.mk (Kd.S_elder' (by (with_reducible repeat (first | apply Kd.S_alloc | apply Kd.S_drewN | apply Kd.S_drew)); exact HO_485000.out) (Kd.R_base ho0) hb)
                                      have n2_ := Aside0.mk (Kd.S_elder' (by (with_reducible repeat (first | apply Kd.S_alloc | apply Kd.S_drewN | apply Kd.S_drew)); exact HO_517000.out) (Kd.R_base ho0) hb)
                                      have n3_ := Aside0.mk (Kd.R_elder' (by (with_reducible repeat (first | apply Kd.R_alloc | apply Kd.R_drewN | apply Kd.R_drew)); exact HL526_0.out) (Kd.R_base ho0) hb)
                                      have n4_ := Aside0.mk (Kd.R_lower (Kd.R_new' ho0 (Kd.R_lt (by (with_reducible repeat (first | apply Kd.R_alloc | apply Kd.R_drewN | apply Kd.R_drew)); exact HL526_0.out))) (below_size (by repeat (first | (with_reducible first | exact HB.out | apply below_alloc | apply pw_below_drewN | apply below_drew1 | refine below_set ?_ GE484.out | refine below_set ?_ GE516.out) | exact HB.out))))
                                      have n5_ := Aside0.mk (blk_below (g := gb484) (o := .cells #[.slice Ao10 t479.length co10] 27 (0, 0)) (by (with_reducible repeat (first | refine blk_drewN ?_ _ | refine blk_drew ?_ | refine blk_alloc ?_ _)); exact BK484.out) hb)
                                      have n6_ := Aside0.mk (blk_below (g := gb516) (o := .cells #[.slice Ao77 t513.length co77] 27 (0, 0)) (by (with_reducible repeat (first | refine blk_drewN ?_ _ | refine blk_drew ?_ | refine blk_alloc ?_ _)); exact BK516.out) hb)
                                      have n7_ := Aside0.mk (Kd.C_below (by repeat (first | (with_reducible exact HR526_0.out) | (with_reducible refine Kd.C_alloc ?_ _) | (with_reducible refine Kd.C_drewN ?_ _) | (with_reducible refine Kd.C_drew ?_) | exact HR526_0.out)) hb)
                                      have n8_ := Aside0.mk (below_step (by repeat (first | (with_reducible first | exact HB.out | apply below_alloc | apply pw_below_drewN | apply below_drew1 | refine below_set ?_ GE484.out | refine below_set ?_ GE516.out) | exact HB.out)) hb)
                                      clear HO_170
                                      clear HO_485000
                                      clear HO_517000
                                      clear HL526_0
                                      clear BK484
                                      clear BK516
                                      clear HR526_0
                                      clear HB
                                      have HO_170 := n0_
                                      have HO_485000 := n1_
                                      have HO_517000 := n2_
                                      have HL526_0 := n3_
                                      have HO531 := n4_
                                      have BK484 := n5_
                                      have BK516 := n6_
                                      have HR526_0 := n7_
                                      have HB := n8_
                                      clear n0_ n1_ n2_ n3_ n4_ n5_ n6_ n7_ n8_
                                      (try clear hb)
                                      (try clear hb2)
                                      (try clear hk)
                                      (try clear hi)
                                      (try clear ho0)
                                      refine hK.out _ _ ⟨(blk_cell BK516.out 0).trans rfl, HS1_, HS2_⟩ (fun hHeld => ?_)
                                      clear hK K
                                      refine norm_ (a' := ?_) ?_ ?_
                                      rotate_left
                                      · show Act.put _ (some 184) _ = _
                                        simp only [Act.put, List.setIfInBounds_toArray, List.set_cons_zero, List.set_cons_succ, i64_w, i32_w]
                                        rfl
                                      refine pure_ (i := 8) (N := some 176) (v := ?_) (a' := ?_) #[true, true, true, true, true, true, true, true, true, false, false, false, false] rfl rfl (any_of HT_.out (by kernel_rfl)) (fun _ _ _ h => h) (Or.inl ⟨by rfl, ?_⟩) ?_ ?_
                                      rotate_left
                                      · intro w'
                                        go_simp
                                        with_reducible rfl
                                      rotate_left
                                      · simp only [Act.put, List.setIfInBounds_toArray, List.set_cons_zero, List.set_cons_succ, i64_w, i32_w]
                                        rfl
                                      refine pure_ (i := 9) (N := some 185) (v := ?_) (a' := ?_) #[true, true, true, true, true, true, true, true, true, true, false, false, false] rfl rfl (any_of HT_.out (by kernel_rfl)) (fun _ _ _ h => h) (Or.inl ⟨by rfl, ?_⟩) ?_ ?_
                                      rotate_left
                                      · intro w'
                                        go_simp
                                        with_reducible rfl
                                      rotate_left
                                      · simp only [Act.put, List.setIfInBounds_toArray, List.set_cons_zero, List.set_cons_succ, i64_w, i32_w]
                                        rfl
                                      refine pure_ (i := 10) (N := some 186) (v := ?_) (a' := ?_) #[true, true, true, true, true, true, true, true, true, true, true, false, false] rfl rfl (any_of HT_.out (by kernel_rfl)) (fun _ _ _ h => h) (Or.inl ⟨by rfl, ?_⟩) ?_ ?_
                                      rotate_left
                                      · intro w'
                                        go_simp
                                        with_reducible rfl
                                      rotate_left
                                      · simp only [Act.put, List.setIfInBounds_toArray, List.set_cons_zero, List.set_cons_succ, i64_w, i32_w]
                                        rfl
                                      refine pure_ (i := 11) (N := some 29) (v := ?_) (a' := ?_) #[true, true, true, true, true, true, true, true, true, true, true, true, false] rfl rfl (any_of HT_.out (by kernel_rfl)) (fun _ _ _ h => h) (Or.inl ⟨by rfl, ?_⟩) ?_ ?_
                                      rotate_left
                                      · intro w'
                                        go_simp
                                        with_reducible rfl
                                      rotate_left
                                      · simp only [Act.put, List.setIfInBounds_toArray, List.set_cons_zero, List.set_cons_succ, i64_w, i32_w]
                                        rfl
                                      refine pure_ (i := 12) (N := some 30) (v := ?_) (a' := ?_) #[true, true, true, true, true, true, true, true, true, true, true, true, true] rfl rfl (any_of HT_.out (by kernel_rfl)) (fun _ _ _ h => h) (Or.inl ⟨by rfl, ?_⟩) ?_ ?_
                                      rotate_left
                                      · intro w'
                                        go_simp
                                        with_reducible rfl
                                      rotate_left
                                      · simp only [Act.put, List.setIfInBounds_toArray, List.set_cons_zero, List.set_cons_succ, i64_w, i32_w]
                                        rfl
                                      refine done_ (done_of HT_.out (by kernel_rfl)) ?_
                                      try go_wp2
                                      go_roundg k4
                                      case measure => have := HJ6.out; have := HJ19.out; have := HJ73.out; have := HK4.out; omega
                                      case rel => exact ⟨(wrap64 (x172_4 + 1)), (by first | rfl | (simp; done) | (simp [*]; done)), H', ⟨by have := HJ6.out; have := HJ19.out; have := HJ73.out; have := HK4.out; omega⟩, ⟨by (with_reducible repeat (first | apply Kd.S_alloc | apply Kd.S_drewN | apply Kd.S_drew)); exact Kd.S_mono HO_170.out (fun _ hk => ⟨hk.1.1, hk.1.2⟩)⟩, ⟨by (with_reducible repeat (first | apply Kd.S_alloc | apply Kd.S_drewN | apply Kd.S_drew)); exact Kd.S_mono HO_485000.out (fun _ hk => ⟨hk.1.1, hk.1.2⟩)⟩, ⟨by (with_reducible repeat (first | apply Kd.S_alloc | apply Kd.S_drewN | apply Kd.S_drew)); exact Kd.S_mono HO_517000.out (fun _ hk => ⟨hk.1.1, hk.1.2⟩)⟩, ⟨by (with_reducible repeat (first | refine blk_drewN ?_ _ | refine blk_drew ?_ | refine blk_alloc ?_ _)); exact BK484.out⟩, ⟨by (with_reducible repeat (first | refine blk_drewN ?_ _ | refine blk_drew ?_ | refine blk_alloc ?_ _)); exact BK516.out⟩, ⟨by repeat (first | (with_reducible first | exact HB.out | apply below_alloc | apply pw_below_drewN | apply below_drew1 | refine below_set ?_ GE484.out | refine below_set ?_ GE516.out) | exact HB.out)⟩⟩
                                  · replace c95 := Bool.eq_false_iff.mpr c95
                                    subst c95
                                    have H1 : (some false) = some r := by rw [if_neg (show ¬ (false = true) by decide)] at H; exact H
                                    clear H
                                    have H := H1
                                    clear H1
                                    as_aux_lemma =>
                                      obtain rfl := Option.some.inj H
                                      have p526 : 0 ≤ (x172_4 : Int) := of_decide_eq_true (by first | (with_reducible assumption) | assumption)
                                      have q526 : x172_4 < (t517.length : Int) := of_decide_eq_true (by first | (with_reducible assumption) | assumption)
                                      obtain ⟨ad526, A526_0, c526_0, e526, hx526_0, hl526_0, hi526_0⟩ := at_L1 (Kd.S_reads' HO_170.out).2.2 x172_4 p526 q526
                                      cases e526
                                      obtain ⟨ce526, hce526, hMe526, hcc526⟩ := Kd.S_get HO_170.out [] x172_4 p526 (by first | exact q526 | exact of_decide_eq_true (by first | (with_reducible assumption) | assumption) | (have e_ := (Kd.S_reads' HO_170.out).1; omega))
                                      obtain ⟨ve526_0, rfl, ge526_0⟩ := hMe526
                                      have hv526_0 := hcc526 0 _ rfl
                                      rw [Nat.add_zero, show ((Kd.slice 3 (Kd.int .i64))).sz = 1 from rfl, Nat.mul_one] at hv526_0
                                      replace hv526_0 := Option.some.inj (hv526_0.symm.trans hx526_0)
                                      rw [hv526_0] at ge526_0
                                      have HL526_0 := Aside0.mk (show Kd.R (Kd.int .i64) 3 _ _ _ _ (rd_L1 t517 x172_4) from ge526_0)
                                      clear hv526_0 ge526_0
                                      clear hcc526 hce526
                                      have HR526_0 := Aside0.mk hi526_0
                                      have HC526_0 := Aside0.mk hl526_0
                                      clear hi526_0 hl526_0
                                      replace p526 := eq_true p526
                                      replace q526 := eq_true q526
                                      try go_wp2
                                      have n0_ := Aside0.mk (Kd.S_drew HO_170.out)
                                      have n1_ := Aside0.mk (Kd.S_drew HO_485000.out)
                                      have n2_ := Aside0.mk (Kd.S_drew HO_517000.out)
                                      have n3_ := Aside0.mk (Kd.R_drew HL526_0.out)
                                      have n4_ := Aside0.mk (blk_drew BK484.out)
                                      have n5_ := Aside0.mk (blk_drew BK516.out)
                                      have n6_ := Aside0.mk (Kd.C_drew HR526_0.out)
                                      have n7_ := Aside0.mk (below_drew1 HB.out)
                                      clear HO_170
                                      clear HO_485000
                                      clear HO_517000
                                      clear HL526_0
                                      clear BK484
                                      clear BK516
                                      clear HR526_0
                                      clear HB
                                      have HO_170 := n0_
                                      have HO_485000 := n1_
                                      have HO_517000 := n2_
                                      have HL526_0 := n3_
                                      have BK484 := n4_
                                      have BK516 := n5_
                                      have HR526_0 := n6_
                                      have HB := n7_
                                      clear n0_ n1_ n2_ n3_ n4_ n5_ n6_ n7_
                                      have p527 : 0 ≤ (0 : Int) := (by omega)
                                      have q527 : 0 < ((rd_L1 t517 x172_4).length : Int) := of_decide_eq_true (by first | (with_reducible assumption) | assumption)
                                      obtain ⟨ad527, e527, hx527_0⟩ := Kd.at_int (by repeat (first | (with_reducible exact HR526_0.out) | (with_reducible refine Kd.C_alloc ?_ _) | (with_reducible refine Kd.C_drewN ?_ _) | (with_reducible refine Kd.C_drew ?_) | exact HR526_0.out)) 0 p527 q527
                                      cases e527
                                      have qi527 : (0 < (rd_L1 t517 x172_4).length) = True := eq_true (by omega)
                                      (try rw [show ((0 : Int)).toNat = 0 from rfl] at hx527_0)
                                      (try rw [Addr.add_zero'] at hx527_0)
                                      replace p527 := eq_true p527
                                      replace q527 := eq_true q527
                                      have p528 : 0 ≤ (1 : Int) := (by omega)
                                      have q528 : 1 < ((rd_L1 t517 x172_4).length : Int) := of_decide_eq_true (by first | (with_reducible assumption) | assumption)
                                      obtain ⟨ad528, e528, hx528_0⟩ := Kd.at_int (by repeat (first | (with_reducible exact HR526_0.out) | (with_reducible refine Kd.C_alloc ?_ _) | (with_reducible refine Kd.C_drewN ?_ _) | (with_reducible refine Kd.C_drew ?_) | exact HR526_0.out)) 1 p528 q528
                                      obtain rfl : ad527 = ad528 := (by injection e528)
                                      (try simp only [show (1 : Int).toNat = 1 from rfl, Nat.reduceMul, Nat.reduceEqDiff, Go.Addr.add, ↓reduceIte] at hx528_0)
                                      have qi528 : (1 < (rd_L1 t517 x172_4).length) = True := eq_true (by omega)
                                      (try rw [show ((1 : Int)).toNat = 1 from rfl] at hx528_0)
                                      replace p528 := eq_true p528
                                      replace q528 := eq_true q528
                                      refine start_ (n := 13) (S := fun w' => w'.cell? ⟨gb516, 0, none⟩ = some (.slice Ao77 t513.length co77) ∧ w'.cell? ad527 = some (.int .i64 (rd (rd_L1 t517 x172_4) 0)) ∧ w'.cell? ⟨ad527.block, ad527.off + 1, none⟩ = some (.int .i64 (rd (rd_L1 t517 x172_4) 1))) (ds := []) #[false, false, false, false, false, false, false, false, false, false, false, false, false] (by kernel_rfl) rfl rfl ⟨(blk_cell BK516.out 0).trans rfl, hx527_0, hx528_0⟩ (fun hHeld => ?_); refine with_tabW laws_FnLoops.tab37 laws_FnLoops.bits37 (fun HT_ HW_ => ?_)
                                      generalize wr.drew = w98 at HO_170 HO_485000 HO_517000 HL526_0 BK484 BK516 HR526_0 HB hx527_0 hx528_0 hHeld ⊢
                                      refine pure_ (i := 1) (N := some 178) (v := ?_) (a' := ?_) #[false, true, false, false, false, false, false, false, false, false, false, false, false] rfl rfl (any_of HT_.out (by kernel_rfl)) (fun _ _ _ h => h) (Or.inl ⟨by rfl, ?_⟩) ?_ ?_
                                      rotate_left
                                      · intro w'
                                        go_simp
                                        with_reducible rfl
                                      rotate_left
                                      · simp only [Act.put, List.setIfInBounds_toArray, List.set_cons_zero, List.set_cons_succ, i64_w, i32_w]
                                        rfl
                                      refine pure_ (i := 2) (N := some 179) (v := ?_) (a' := ?_) #[false, true, true, false, false, false, false, false, false, false, false, false, false] rfl rfl (any_of HT_.out (by kernel_rfl)) (fun _ _ _ h => h) (Or.inl ⟨by rfl, ?_⟩) ?_ ?_
                                      rotate_left
                                      · intro w'
                                        go_simp
                                        with_reducible rfl
                                      rotate_left
                                      · simp only [Act.put, List.setIfInBounds_toArray, List.set_cons_zero, List.set_cons_succ, i64_w, i32_w]
                                        rfl
                                      refine pure_ (i := 4) (N := some 181) (v := ?_) (a' := ?_) #[false, true, true, false, true, false, false, false, false, false, false, false, false] rfl rfl (any_of HT_.out (by kernel_rfl)) (fun _ _ _ h => h) (Or.inl ⟨by rfl, ?_⟩) ?_ ?_
                                      rotate_left
                                      · intro w'
                                        go_simp
                                        with_reducible rfl
                                      rotate_left
                                      · simp only [Act.put, List.setIfInBounds_toArray, List.set_cons_zero, List.set_cons_succ, i64_w, i32_w]
                                        rfl
                                      refine pure_ (i := 5) (N := some 182) (v := ?_) (a' := ?_) #[false, true, true, false, true, true, false, false, false, false, false, false, false] rfl rfl (any_of HT_.out (by kernel_rfl)) (fun _ _ _ h => h) (Or.inl ⟨by rfl, ?_⟩) ?_ ?_
                                      rotate_left
                                      · intro w'
                                        go_simp
                                        with_reducible rfl
                                      rotate_left
                                      · simp only [Act.put, List.setIfInBounds_toArray, List.set_cons_zero, List.set_cons_succ, i64_w, i32_w]
                                        rfl
                                      refine take_ (i := 0) (N := some 177) (v := ?_) (a' := ?_) #[true, true, true, false, true, true, false, false, false, false, false, false, false] rfl rfl (take_ofW HT_.out HW_.out (by kernel_rfl)) (fun _ _ _ h => h) (Or.inl ⟨by rfl, ?_⟩) hHeld ?_ ?_
                                      rotate_left
                                      · rintro w' ⟨s0, s1, s2⟩
                                        go_simp
                                        with_reducible rfl
                                      rotate_left
                                      · simp only [Act.put, List.setIfInBounds_toArray, List.set_cons_zero, List.set_cons_succ, i64_w, i32_w]
                                        rfl
                                      refine take_ (i := 3) (N := some 180) (v := ?_) (a' := ?_) #[true, true, true, true, true, true, false, false, false, false, false, false, false] rfl rfl (take_ofW HT_.out HW_.out (by kernel_rfl)) (fun _ _ _ h => h) (Or.inl ⟨by rfl, ?_⟩) hHeld ?_ ?_
                                      rotate_left
                                      · rintro w' ⟨s0, s1, s2⟩
                                        go_simp
                                        with_reducible rfl
                                      rotate_left
                                      · simp only [Act.put, List.setIfInBounds_toArray, List.set_cons_zero, List.set_cons_succ, i64_w, i32_w]
                                        rfl
                                      refine take_ (i := 6) (N := some 183) (v := ?_) (a' := ?_) #[true, true, true, true, true, true, true, false, false, false, false, false, false] rfl rfl (take_ofW HT_.out HW_.out (by kernel_rfl)) (fun _ _ _ h => h) (Or.inl ⟨by rfl, ?_⟩) hHeld ?_ ?_
                                      rotate_left
                                      · rintro w' ⟨s0, s1, s2⟩
                                        go_simp
                                        with_reducible rfl
                                      rotate_left
                                      · simp only [Act.put, List.setIfInBounds_toArray, List.set_cons_zero, List.set_cons_succ, i64_w, i32_w]
                                        rfl
                                      refine one_ (i := 7) (N := some 184) #[true, true, true, true, true, true, true, true, false, false, false, false, false] rfl rfl (one_of HT_.out (by kernel_rfl)) (by decide) (fun K hK => ?_)
                                      refine goes_ Try.func43 (by kernel_rfl) rfl #[.agg #[.slice Ao77 t513.length co77], .int .i64 (rd (rd_L1 t517 x172_4) 0), .int .i64 (rd (rd_L1 t517 x172_4) 1)] (by rfl) rfl rfl (by (try simp only [List.map_toArray, List.map_cons, List.map_nil]); first | done | rfl | (simp only [List.length_drop, List.length_take]; rfl)) ?_
                                      with_reducible refine (impl_LoopOf.calls _ _ t513 (rd (rd_L1 t517 x172_4) 0) (rd (rd_L1 t517 x172_4) 1) t529 false _ ?side1 ?side2 A94.out).mono ?_
                                      (case side1 => repeat (first | exact (Kd.S_reads' HO_517000.out).2.2 | (with_reducible refine Kd.C_alloc ?_ _) | (with_reducible refine Kd.C_drewN ?_ _) | (with_reducible refine Kd.C_drew ?_)))
                                      (case side2 => exact (Kd.S_reads' HO_517000.out).2.1)
                                      rintro e w99 ⟨v530, rfl, ho0, hb⟩
                                      have HS1_ := (hb.cell (World.block_lt_of_cell? _ _ (hHeld.2.1))).trans (hHeld.2.1)
                                      have HS2_ := (hb.cell (World.block_lt_of_cell? _ _ (hHeld.2.2))).trans (hHeld.2.2)
                                      refine ⟨_, rfl, ?_⟩
                                      have n0_ := Aside0.mk (Kd.S_elder' (by (with_reducible repeat (first | apply Kd.S_alloc | apply Kd.S_drewN | apply Kd.S_drew)); exact HO_170.out) (Kd.R_base ho0) hb)
                                      have n1_ := Aside0.mk (Kd.S_elder' (by (with_reducible repeat (first | apply Kd.S_alloc | apply Kd.S_drewN | apply Kd.S_drew)); exact HO_485000.out) (Kd.R_base ho0) hb)
                                      have n2_ := Aside0.mk (Kd.S_elder' (by (with_reducible repeat (first | apply Kd.S_alloc | apply Kd.S_drewN | apply Kd.S_drew)); exact HO_517000.out) (Kd.R_base ho0) hb)
                                      have n3_ := Aside0.mk (Kd.R_elder' (by (with_reducible repeat (first | apply Kd.R_alloc | apply Kd.R_drewN | apply Kd.R_drew)); exact HL526_0.out) (Kd.R_base ho0) hb)
                                      have n4_ := Aside0.mk (Kd.R_lower (Kd.R_new' ho0 (Kd.R_lt (by (with_reducible repeat (first | apply Kd.R_alloc | apply Kd.R_drewN | apply Kd.R_drew)); exact HL526_0.out))) (below_size (by repeat (first | (with_reducible first | exact HB.out | apply below_alloc | apply pw_below_drewN | apply below_drew1 | refine below_set ?_ GE484.out | refine below_set ?_ GE516.out) | exact HB.out))))
                                      have n5_ := Aside0.mk (blk_below (g := gb484) (o := .cells #[.slice Ao10 t479.length co10] 27 (0, 0)) (by (with_reducible repeat (first | refine blk_drewN ?_ _ | refine blk_drew ?_ | refine blk_alloc ?_ _)); exact BK484.out) hb)
                                      have n6_ := Aside0.mk (blk_below (g := gb516) (o := .cells #[.slice Ao77 t513.length co77] 27 (0, 0)) (by (with_reducible repeat (first | refine blk_drewN ?_ _ | refine blk_drew ?_ | refine blk_alloc ?_ _)); exact BK516.out) hb)
                                      have n7_ := Aside0.mk (Kd.C_below (by repeat (first | (with_reducible exact HR526_0.out) | (with_reducible refine Kd.C_alloc ?_ _) | (with_reducible refine Kd.C_drewN ?_ _) | (with_reducible refine Kd.C_drew ?_) | exact HR526_0.out)) hb)
                                      have n8_ := Aside0.mk (below_step (by repeat (first | (with_reducible first | exact HB.out | apply below_alloc | apply pw_below_drewN | apply below_drew1 | refine below_set ?_ GE484.out | refine below_set ?_ GE516.out) | exact HB.out)) hb)
                                      clear HO_170
                                      clear HO_485000
                                      clear HO_517000
                                      clear HL526_0
                                      clear BK484
                                      clear BK516
                                      clear HR526_0
                                      clear HB
                                      have HO_170 := n0_
                                      have HO_485000 := n1_
                                      have HO_517000 := n2_
                                      have HL526_0 := n3_
                                      have HO531 := n4_
                                      have BK484 := n5_
                                      have BK516 := n6_
                                      have HR526_0 := n7_
                                      have HB := n8_
                                      clear n0_ n1_ n2_ n3_ n4_ n5_ n6_ n7_ n8_
                                      (try clear hb)
                                      (try clear hb2)
                                      (try clear hk)
                                      (try clear hi)
                                      (try clear ho0)
                                      refine hK.out _ _ ⟨(blk_cell BK516.out 0).trans rfl, HS1_, HS2_⟩ (fun hHeld => ?_)
                                      clear hK K
                                      refine norm_ (a' := ?_) ?_ ?_
                                      rotate_left
                                      · show Act.put _ (some 184) _ = _
                                        simp only [Act.put, List.setIfInBounds_toArray, List.set_cons_zero, List.set_cons_succ, i64_w, i32_w]
                                        rfl
                                      refine pure_ (i := 8) (N := some 176) (v := ?_) (a' := ?_) #[true, true, true, true, true, true, true, true, true, false, false, false, false] rfl rfl (any_of HT_.out (by kernel_rfl)) (fun _ _ _ h => h) (Or.inl ⟨by rfl, ?_⟩) ?_ ?_
                                      rotate_left
                                      · intro w'
                                        go_simp
                                        with_reducible rfl
                                      rotate_left
                                      · simp only [Act.put, List.setIfInBounds_toArray, List.set_cons_zero, List.set_cons_succ, i64_w, i32_w]
                                        rfl
                                      refine pure_ (i := 9) (N := some 185) (v := ?_) (a' := ?_) #[true, true, true, true, true, true, true, true, true, true, false, false, false] rfl rfl (any_of HT_.out (by kernel_rfl)) (fun _ _ _ h => h) (Or.inl ⟨by rfl, ?_⟩) ?_ ?_
                                      rotate_left
                                      · intro w'
                                        go_simp
                                        with_reducible rfl
                                      rotate_left
                                      · simp only [Act.put, List.setIfInBounds_toArray, List.set_cons_zero, List.set_cons_succ, i64_w, i32_w]
                                        rfl
                                      refine pure_ (i := 10) (N := some 186) (v := ?_) (a' := ?_) #[true, true, true, true, true, true, true, true, true, true, true, false, false] rfl rfl (any_of HT_.out (by kernel_rfl)) (fun _ _ _ h => h) (Or.inl ⟨by rfl, ?_⟩) ?_ ?_
                                      rotate_left
                                      · intro w'
                                        go_simp
                                        with_reducible rfl
                                      rotate_left
                                      · simp only [Act.put, List.setIfInBounds_toArray, List.set_cons_zero, List.set_cons_succ, i64_w, i32_w]
                                        rfl
                                      refine pure_ (i := 11) (N := some 29) (v := ?_) (a' := ?_) #[true, true, true, true, true, true, true, true, true, true, true, true, false] rfl rfl (any_of HT_.out (by kernel_rfl)) (fun _ _ _ h => h) (Or.inl ⟨by rfl, ?_⟩) ?_ ?_
                                      rotate_left
                                      · intro w'
                                        go_simp
                                        with_reducible rfl
                                      rotate_left
                                      · simp only [Act.put, List.setIfInBounds_toArray, List.set_cons_zero, List.set_cons_succ, i64_w, i32_w]
                                        rfl
                                      refine pure_ (i := 12) (N := some 30) (v := ?_) (a' := ?_) #[true, true, true, true, true, true, true, true, true, true, true, true, true] rfl rfl (any_of HT_.out (by kernel_rfl)) (fun _ _ _ h => h) (Or.inl ⟨by rfl, ?_⟩) ?_ ?_
                                      rotate_left
                                      · intro w'
                                        go_simp
                                        with_reducible rfl
                                      rotate_left
                                      · simp only [Act.put, List.setIfInBounds_toArray, List.set_cons_zero, List.set_cons_succ, i64_w, i32_w]
                                        rfl
                                      refine done_ (done_of HT_.out (by kernel_rfl)) ?_
                                      try go_wp2
                                      go_ret
                                      exact ⟨by first | rfl | (simp [errW_none, errW_some] <;> rfl) | (simp [*, errW_none, errW_some] <;> rfl), by repeat (first | (with_reducible first | exact HB.out | apply below_alloc | apply pw_below_drewN | apply below_drew1 | refine below_set ?_ GE484.out | refine below_set ?_ GE516.out) | exact HB.out)⟩
                                · rw [if_neg c93] at H
                                  exact absurd H (by simp)
                              · rw [if_neg c92] at H
                                exact absurd H (by simp)
                            · rw [if_neg c91] at H
                              exact absurd H (by simp)
                          · rw [if_neg c90] at H
                            exact absurd H (by simp)
                        · rw [if_neg c89] at H
                          have c89b0 : decide (x172_4 < (t517.length : Int)) = false := decide_eq_false c89
                          clear c89
                          as_aux_lemma =>
                            obtain rfl := Option.some.inj H
                            go_wp2
                            go_ret
                            exact ⟨by first | rfl | (simp [errW_none, errW_some] <;> rfl) | (simp [*, errW_none, errW_some] <;> rfl), by repeat (first | (with_reducible first | exact HB.out | apply below_alloc | apply pw_below_drewN | apply below_drew1 | refine below_set ?_ GE484.out | refine below_set ?_ GE516.out) | exact HB.out)⟩
def laws_FnLoops.Pure : Prop := ∀ (l0 : List Int) (l1 : List Int), l0.length ≤ maxLen → l0.length * 1 ≤ 140737488351232 → (∀ x ∈ l0, (Lit.int .u8 x).wf = true) → l1.length ≤ maxLen → l1.length * 1 ≤ 140737488351232 → (∀ x ∈ l1, (Lit.int .u8 x).wf = true) → ∃ k, laws_FnLoops.f k l0 l1 = some true
theorem laws_FnLoops.walk (P : laws_FnLoops.Pure) (a0 : Option Addr) (len0 cap0 : Nat) (z0 : List Int) (a1 : Option Addr) (len1 cap1 : Nat) (z1 : List Int) (w : World) (w0 : (a0 = none ∧ len0 = 0 ∧ cap0 = 0 ∧ z0 = []) ∨ ∃ x, a0 = some x ∧ len0 ≤ cap0 ∧ cap0 ≤ maxLen ∧ z0.length = cap0 ∧ (∀ i, i < z0.length → w.cell? (x.add i) = some (.int .u8 (z0.getD i 0))) ∧ ∀ n ∈ z0, (Lit.int .u8 n).wf = true) (y0 : len0 * 1 ≤ 140737488351232) (w1 : (a1 = none ∧ len1 = 0 ∧ cap1 = 0 ∧ z1 = []) ∨ ∃ x, a1 = some x ∧ len1 ≤ cap1 ∧ cap1 ≤ maxLen ∧ z1.length = cap1 ∧ (∀ i, i < z1.length → w.cell? (x.add i) = some (.int .u8 (z1.getD i 0))) ∧ ∀ n ∈ z1, (Lit.int .u8 n).wf = true) (y1 : len1 * 1 ≤ 140737488351232) :
    Calls Try.prog 14 #[.slice a0 len0 cap0, .slice a1 len1 cap1] w fun e w' => e = .returned (.bool true) ∧ Below w.heap.size w w' := by
  obtain ⟨l0, rfl, hr0, hm0, hw0, hc0⟩ := ReadsInt.ofRowC w0
  obtain ⟨l1, rfl, hr1, hm1, hw1, hc1⟩ := ReadsInt.ofRowC w1
  obtain ⟨k, h⟩ := P l0 l1 hm0 y0 hw0 hm1 y1 hw1
  refine (laws_FnLoops.calls k _ _ l0 _ _ l1 true w (Kd.C_of_reads (d := (0 : Int)) (h1 := fun _ => rfl) hr0) hc0 (Kd.C_of_reads (d := (0 : Int)) (h1 := fun _ => rfl) hr1) hc1 h ⟨rfl⟩).mono ?_
  rintro e w' ⟨rfl, hd⟩
  exact ⟨rfl, hd⟩
end Go.Proofs.Ytplcipjlkogadaa.P

namespace Go.Proofs.Ytplcipjlkogadaa.P
open Go.RowKit Go.Proofs.YtplcipjlkogadaaW.PrintWords Go.Proofs.YtplcipjlkogadaaW.PrintLast Go.Proofs.YtplcipjlkogadaaW.PrintMore
attribute [local go_sem] max2_int min2_int max_two min_two max_three min_three max_four min_four
def nrTo (D : List (List Bool)) (s : List Bool) : Nat → Int × Nat
  | 0 => (-1, 0)
  | i + 1 => if s.getD i false && decide ((nrTo D s i).2 < (listTo (D.getD i []) 12).length) then ((i : Int), (listTo (D.getD i []) 12).length) else nrTo D s i
def nearestF (D : List (List Bool)) (s : List Bool) : Int := (nrTo D s 12).1
end Go.Proofs.Ytplcipjlkogadaa.P

namespace Go.Proofs.Ytplcipjlkogadaa.P
open Go.RowKit Go.Proofs.YtplcipjlkogadaaW.PrintWords Go.Proofs.YtplcipjlkogadaaW.PrintLast Go.Proofs.YtplcipjlkogadaaW.PrintMore
attribute [local go_sem] max2_int min2_int max_two min_two max_three min_three max_four min_four
def nfB (D : List (List Bool)) (b : Nat) : Int := nearestF D ((D.getD b []).set b false)
def nfTo (D : List (List Bool)) (n i : Nat) : List Int := (List.range n).map (fun b => if b < i then nfB D b else 0)
def impl_NearestOf.f (l0_0 : List (List Int)) : Option (List Int × Bool) := some (if H.goodG l0_0 then (nfTo (H.domF l0_0) l0_0.length l0_0.length, true) else ([], false))
end Go.Proofs.Ytplcipjlkogadaa.P

