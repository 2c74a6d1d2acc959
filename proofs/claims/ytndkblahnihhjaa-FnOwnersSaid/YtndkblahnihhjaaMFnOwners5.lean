import Derived.Test.YtndkblahnihhjaaMFnOwners1
import Derived.Test.YtndkblahnihhjaaMFnOwners2
import Derived.Test.YtndkblahnihhjaaMFnOwners3
import Derived.Test.YtndkblahnihhjaaMFnOwners4
set_option linter.unusedVariables false
set_option linter.unusedSimpArgs false
set_option linter.unusedSectionVars false
namespace Go.Proofs.Ytndkblahnihhjaa.P
open Go.RowKit Go.Proofs.YtndkblahnihhjaaW.PrintWords Go.Proofs.YtndkblahnihhjaaW.PrintLast Go.Proofs.YtndkblahnihhjaaW.PrintMore
attribute [local go_sem] max2_int min2_int max_two min_two max_three min_three max_four min_four
mutual
def spec_OwnerAt.l0 : Nat → List Int → List Int → List (List Int) → List Int → List (List Int) → Int → Int → Option (List Int × Bool)
  | 0, _, _, _, _, _, _, _ => none
  | k + 1, x1, x6, x8, x9, x25, x26, x27 => if x27 < x26 then (if 0 ≤ x27 then (if x27 < (x25.length : Int) then (spec_OwnerAt.l1 k x1 x6 x8 x9 (-1) x25 x26 x27 (rd_L1 x25 x27) ((rd_L1 x25 x27).length : Int) 0) else (none)) else (none)) else (some (x9, true))
def spec_OwnerAt.l1 : Nat → List Int → List Int → List (List Int) → List Int → Int → List (List Int) → Int → Int → List Int → Int → Int → Option (List Int × Bool)
  | 0, _, _, _, _, _, _, _, _, _, _, _ => none
  | k + 1, x1, x6, x8, x9, x12, x25, x26, x27, x31, x32, x33 => if x33 < x32 then (if 0 ≤ x33 then (if x33 < (x31.length : Int) then ((spec_l1Has.f k x1 (rd x31 x33)).bind fun t263 => (if t263 = true then (if x12 < 0 then (spec_OwnerAt.l1 k x1 x6 x8 x9 (rd x31 x33) x25 x26 x27 x31 x32 (wrap64 (x33 + 1))) else (if 0 ≤ (rd x31 x33) then (if (rd x31 x33) < (x8.length : Int) then (if 0 ≤ x12 then (if x12 < (x8.length : Int) then (if ((rd_L1 x8 (rd x31 x33)).length : Int) > ((rd_L1 x8 x12).length : Int) then (spec_OwnerAt.l1 k x1 x6 x8 x9 (rd x31 x33) x25 x26 x27 x31 x32 (wrap64 (x33 + 1))) else (spec_OwnerAt.l1 k x1 x6 x8 x9 x12 x25 x26 x27 x31 x32 (wrap64 (x33 + 1)))) else (none)) else (none)) else (none)) else (none))) else ((spec_l1Has.f k x6 (rd x31 x33)).bind fun t266 => (if t266 = true then (if x12 < 0 then (spec_OwnerAt.l1 k x1 x6 x8 x9 (rd x31 x33) x25 x26 x27 x31 x32 (wrap64 (x33 + 1))) else (if 0 ≤ (rd x31 x33) then (if (rd x31 x33) < (x8.length : Int) then (if 0 ≤ x12 then (if x12 < (x8.length : Int) then (if ((rd_L1 x8 (rd x31 x33)).length : Int) > ((rd_L1 x8 x12).length : Int) then (spec_OwnerAt.l1 k x1 x6 x8 x9 (rd x31 x33) x25 x26 x27 x31 x32 (wrap64 (x33 + 1))) else (spec_OwnerAt.l1 k x1 x6 x8 x9 x12 x25 x26 x27 x31 x32 (wrap64 (x33 + 1)))) else (none)) else (none)) else (none)) else (none))) else (spec_OwnerAt.l1 k x1 x6 x8 x9 x12 x25 x26 x27 x31 x32 (wrap64 (x33 + 1))))))) else (none)) else (none)) else (if x9.length < 17592186044416 then (spec_OwnerAt.l0 k x1 x6 x8 (x9 ++ [x12]) x25 x26 (wrap64 (x27 + 1))) else (none))
end
def spec_OwnerAt.f (k : Nat) (l0_0 : List (List Int)) (l1 : List Int) : Option (List Int × Bool) := (spec_JoinsOf.f k l0_0 l1).bind fun bt251 => (if bt251.2 = true then ((spec_l10Dominators.f l0_0).bind fun t255 => (spec_OwnerAt.l0 k l1 bt251.1 t255 ([] : List Int) t255 (t255.length : Int) 0)) else (some (([] : List Int), false)))
set_option maxHeartbeats 8000000 in
set_option maxRecDepth 100000 in
theorem spec_OwnerAt.calls (k : Nat) (A0_0 : Option Addr) (c0_0 : Nat) (l0_0 : List (List Int)) (A1 : Option Addr) (c1 : Nat) (l1 : List Int) (r1 : List Int) (r2 : Bool) (w : World) (hr0_0 : Kd.C (Kd.slice 3 (Kd.int .i64)) w A0_0 l0_0.length l0_0) (hc0_0 : l0_0.length ≤ c0_0) (hr1 : Kd.C (Kd.int .i64) w A1 l1.length l1) (hc1 : l1.length ≤ c1) (h : spec_OwnerAt.f k l0_0 l1 = some (r1, r2)) :
    Calls Try.prog 20 #[.agg #[.slice A0_0 l0_0.length c0_0], .slice A1 l1.length c1] w fun e w' => ∃ v0_ : Value, e = .returned (.tuple #[v0_, .bool r2]) ∧ Kd.R (Kd.int .i64) 3 w' w.heap.size (fun _ => True) v0_ r1 ∧ Below w.heap.size w w' := by
  have hu28 := Try.underlying28
  have HR0_0 := Aside0.mk hr0_0
  have HC0_0 := Aside0.mk hc0_0
  clear hr0_0 hc0_0
  have HR1 := Aside0.mk hr1
  have HC1 := Aside0.mk hc1
  clear hr1 hc1
  have HB := Aside0.mk (Below.refl w.heap.size w)
  have H : ((spec_JoinsOf.f k l0_0 l1).bind fun bt251 => (if bt251.2 = true then ((spec_l10Dominators.f l0_0).bind fun t255 => (spec_OwnerAt.l0 k l1 bt251.1 t255 ([] : List Int) t255 (t255.length : Int) 0)) else (some (([] : List Int), false)))) = some (r1, r2) := h
  clear h
  replace H := Option.bind_eq_some_iff.mp H
  obtain ⟨⟨t251, t254⟩, A30, H⟩ := H
  replace H : (if t254 = true then ((spec_l10Dominators.f l0_0).bind fun t255 => (spec_OwnerAt.l0 k l1 t251 t255 ([] : List Int) t255 (t255.length : Int) 0)) else (some (([] : List Int), false))) = some (r1, r2) := H
  have A3 := Aside0.mk A30
  clear A30
  by_cases c4 : t254 = true
  · subst c4
    have H1 : ((spec_l10Dominators.f l0_0).bind fun t255 => (spec_OwnerAt.l0 k l1 t251 t255 ([] : List Int) t255 (t255.length : Int) 0)) = some (r1, r2) := by rw [if_pos rfl] at H; exact H
    clear H
    have H := H1
    clear H1
    replace H := Option.bind_eq_some_iff.mp H
    obtain ⟨t255, A50, H⟩ := H
    replace H : (spec_OwnerAt.l0 k l1 t251 t255 ([] : List Int) t255 (t255.length : Int) 0) = some (r1, r2) := H
    have A5 := Aside0.mk A50
    clear A50
    have H' := Aside0.mk H
    clear H
    go_enter Try.func20, Try.ntmps20
    go_wp2_with (first | ((with_reducible refine gate_dst (N := 2) rfl ?_); (try (refine gate_guard (by rfl) ?_; dsimp only)); refine box_event ?hg (N := 2) ?hd (cs := #[.slice A0_0 l0_0.length c0_0]) (t := 28) ?hr ?_; (case hd => rfl); (case hg => rfl); (case hr => first | (go_simp; done) | (go_simp; rfl)); intro gb250 hg w6 hbox hb; have n0_ := Aside0.mk (below_step (by repeat (first | (with_reducible first | exact HB.out | apply below_alloc | apply pw_below_drewN | apply below_drew1) | exact HB.out)) hb); have n1_ := Aside0.mk (hbox); have n2_ := Aside0.mk ((by rw [hg]; exact (below_size (by repeat (first | (with_reducible first | exact HB.out | apply below_alloc | apply pw_below_drewN | apply below_drew1) | exact HB.out))) : w.heap.size ≤ gb250)); have n3_ := Aside0.mk ((by rw [hg]; exact (below_size (by repeat (first | (with_reducible first | exact HB.out | apply below_alloc | apply pw_below_drewN | apply below_drew1) | exact HB.out))) : w.heap.size ≤ gb250)); clear HB; have HB := n0_; have BK250 := n1_; have GW250 := n2_; have GE250 := n3_; clear n0_ n1_ n2_ n3_; clear hb hbox hg; have hcz7_0 : w6.cell? ⟨gb250, 0, none⟩ = some (.slice A0_0 l0_0.length c0_0) := (blk_cell BK250.out 0).trans rfl; have hfz7_0 := blk_frozen BK250.out 0) | (go_at_call 13; (with_reducible refine (spec_JoinsOf.calls k _ _ l0_0 _ _ l1 t251 true _ ?side1 ?side2 ?side3 ?side4 A3.out).mono ?_); (case side1 => repeat (first | exact (Kd.C_below HR0_0.out HB.out) | (with_reducible refine Kd.C_alloc ?_ _) | (with_reducible refine Kd.C_drewN ?_ _) | (with_reducible refine Kd.C_drew ?_))); (case side2 => exact HC0_0.out); (case side3 => repeat (first | exact (Kd.C_below HR1.out HB.out) | (with_reducible refine Kd.C_alloc ?_ _) | (with_reducible refine Kd.C_drewN ?_ _) | (with_reducible refine Kd.C_drew ?_))); (case side4 => exact HC1.out); rintro e w8 ⟨v252, rfl, ho0, hb⟩; have n0_ := Aside0.mk (Kd.R_lower ho0 (below_size (by repeat (first | (with_reducible first | exact HB.out | apply below_alloc | apply pw_below_drewN | apply below_drew1 | refine below_set ?_ GE250.out) | exact HB.out)))); have n1_ := Aside0.mk (blk_below (g := gb250) (o := .cells #[.slice A0_0 l0_0.length c0_0] 28 (0, 0)) (by (with_reducible repeat (first | refine blk_drewN ?_ _ | refine blk_drew ?_ | refine blk_alloc ?_ _)); exact BK250.out) hb); have n2_ := Aside0.mk (below_step (by repeat (first | (with_reducible first | exact HB.out | apply below_alloc | apply pw_below_drewN | apply below_drew1 | refine below_set ?_ GE250.out) | exact HB.out)) hb); clear BK250; clear HB; have HO253 := n0_; have BK250 := n1_; have HB := n2_; clear n0_ n1_ n2_; (try clear hb); (try clear hb2); (try clear hk); (try clear hi); (try clear ho0); have hcz9_0 : w8.cell? ⟨gb250, 0, none⟩ = some (.slice A0_0 l0_0.length c0_0) := (blk_cell BK250.out 0).trans rfl; have hfz9_0 := blk_frozen BK250.out 0) | (go_at_call 53; (with_reducible refine (spec_l10Dominators.calls _ _ l0_0 t255 _ ?side1 ?side2 A5.out).mono ?_); (case side1 => repeat (first | exact (Kd.C_below HR0_0.out HB.out) | (with_reducible refine Kd.C_alloc ?_ _) | (with_reducible refine Kd.C_drewN ?_ _) | (with_reducible refine Kd.C_drew ?_))); (case side2 => exact HC0_0.out); rintro e w10 ⟨v256, rfl, ho0, hb⟩; have n0_ := Aside0.mk (Kd.R_below (by (with_reducible repeat (first | apply Kd.R_alloc | apply Kd.R_drewN | apply Kd.R_drew)); exact HO253.out) hb); have n1_ := Aside0.mk (Kd.S_lower (Kd.S_new' ho0 (Kd.R_lt (by (with_reducible repeat (first | apply Kd.R_alloc | apply Kd.R_drewN | apply Kd.R_drew)); exact HO253.out))) (below_size (by repeat (first | (with_reducible first | exact HB.out | apply below_alloc | apply pw_below_drewN | apply below_drew1 | refine below_set ?_ GE250.out) | exact HB.out)))); have n2_ := Aside0.mk (blk_below (g := gb250) (o := .cells #[.slice A0_0 l0_0.length c0_0] 28 (0, 0)) (by (with_reducible repeat (first | refine blk_drewN ?_ _ | refine blk_drew ?_ | refine blk_alloc ?_ _)); exact BK250.out) hb); have n3_ := Aside0.mk (below_step (by repeat (first | (with_reducible first | exact HB.out | apply below_alloc | apply pw_below_drewN | apply below_drew1 | refine below_set ?_ GE250.out) | exact HB.out)) hb); clear HO253; clear BK250; clear HB; have HO253 := n0_; have HO257 := n1_; have BK250 := n2_; have HB := n3_; clear n0_ n1_ n2_ n3_; (try clear hb); (try clear hb2); (try clear hk); (try clear hi); (try clear ho0); obtain ⟨Ao11, co11, eo11⟩ := Kd.S_slice HO257.out; subst eo11))
    repeat (go_quiet (first | ((with_reducible refine gate_dst (N := 2) rfl ?_); (try (refine gate_guard (by rfl) ?_; dsimp only)); refine box_event ?hg (N := 2) ?hd (cs := #[.slice A0_0 l0_0.length c0_0]) (t := 28) ?hr ?_; (case hd => rfl); (case hg => rfl); (case hr => first | (go_simp; done) | (go_simp; rfl)); intro gb250 hg w6 hbox hb; have n0_ := Aside0.mk (below_step (by repeat (first | (with_reducible first | exact HB.out | apply below_alloc | apply pw_below_drewN | apply below_drew1) | exact HB.out)) hb); have n1_ := Aside0.mk (hbox); have n2_ := Aside0.mk ((by rw [hg]; exact (below_size (by repeat (first | (with_reducible first | exact HB.out | apply below_alloc | apply pw_below_drewN | apply below_drew1) | exact HB.out))) : w.heap.size ≤ gb250)); have n3_ := Aside0.mk ((by rw [hg]; exact (below_size (by repeat (first | (with_reducible first | exact HB.out | apply below_alloc | apply pw_below_drewN | apply below_drew1) | exact HB.out))) : w.heap.size ≤ gb250)); clear HB; have HB := n0_; have BK250 := n1_; have GW250 := n2_; have GE250 := n3_; clear n0_ n1_ n2_ n3_; clear hb hbox hg; have hcz7_0 : w6.cell? ⟨gb250, 0, none⟩ = some (.slice A0_0 l0_0.length c0_0) := (blk_cell BK250.out 0).trans rfl; have hfz7_0 := blk_frozen BK250.out 0) | (go_at_call 13; (with_reducible refine (spec_JoinsOf.calls k _ _ l0_0 _ _ l1 t251 true _ ?side1 ?side2 ?side3 ?side4 A3.out).mono ?_); (case side1 => repeat (first | exact (Kd.C_below HR0_0.out HB.out) | (with_reducible refine Kd.C_alloc ?_ _) | (with_reducible refine Kd.C_drewN ?_ _) | (with_reducible refine Kd.C_drew ?_))); (case side2 => exact HC0_0.out); (case side3 => repeat (first | exact (Kd.C_below HR1.out HB.out) | (with_reducible refine Kd.C_alloc ?_ _) | (with_reducible refine Kd.C_drewN ?_ _) | (with_reducible refine Kd.C_drew ?_))); (case side4 => exact HC1.out); rintro e w8 ⟨v252, rfl, ho0, hb⟩; have n0_ := Aside0.mk (Kd.R_lower ho0 (below_size (by repeat (first | (with_reducible first | exact HB.out | apply below_alloc | apply pw_below_drewN | apply below_drew1 | refine below_set ?_ GE250.out) | exact HB.out)))); have n1_ := Aside0.mk (blk_below (g := gb250) (o := .cells #[.slice A0_0 l0_0.length c0_0] 28 (0, 0)) (by (with_reducible repeat (first | refine blk_drewN ?_ _ | refine blk_drew ?_ | refine blk_alloc ?_ _)); exact BK250.out) hb); have n2_ := Aside0.mk (below_step (by repeat (first | (with_reducible first | exact HB.out | apply below_alloc | apply pw_below_drewN | apply below_drew1 | refine below_set ?_ GE250.out) | exact HB.out)) hb); clear BK250; clear HB; have HO253 := n0_; have BK250 := n1_; have HB := n2_; clear n0_ n1_ n2_; (try clear hb); (try clear hb2); (try clear hk); (try clear hi); (try clear ho0); have hcz9_0 : w8.cell? ⟨gb250, 0, none⟩ = some (.slice A0_0 l0_0.length c0_0) := (blk_cell BK250.out 0).trans rfl; have hfz9_0 := blk_frozen BK250.out 0) | (go_at_call 53; (with_reducible refine (spec_l10Dominators.calls _ _ l0_0 t255 _ ?side1 ?side2 A5.out).mono ?_); (case side1 => repeat (first | exact (Kd.C_below HR0_0.out HB.out) | (with_reducible refine Kd.C_alloc ?_ _) | (with_reducible refine Kd.C_drewN ?_ _) | (with_reducible refine Kd.C_drew ?_))); (case side2 => exact HC0_0.out); rintro e w10 ⟨v256, rfl, ho0, hb⟩; have n0_ := Aside0.mk (Kd.R_below (by (with_reducible repeat (first | apply Kd.R_alloc | apply Kd.R_drewN | apply Kd.R_drew)); exact HO253.out) hb); have n1_ := Aside0.mk (Kd.S_lower (Kd.S_new' ho0 (Kd.R_lt (by (with_reducible repeat (first | apply Kd.R_alloc | apply Kd.R_drewN | apply Kd.R_drew)); exact HO253.out))) (below_size (by repeat (first | (with_reducible first | exact HB.out | apply below_alloc | apply pw_below_drewN | apply below_drew1 | refine below_set ?_ GE250.out) | exact HB.out)))); have n2_ := Aside0.mk (blk_below (g := gb250) (o := .cells #[.slice A0_0 l0_0.length c0_0] 28 (0, 0)) (by (with_reducible repeat (first | refine blk_drewN ?_ _ | refine blk_drew ?_ | refine blk_alloc ?_ _)); exact BK250.out) hb); have n3_ := Aside0.mk (below_step (by repeat (first | (with_reducible first | exact HB.out | apply below_alloc | apply pw_below_drewN | apply below_drew1 | refine below_set ?_ GE250.out) | exact HB.out)) hb); clear HO253; clear BK250; clear HB; have HO253 := n0_; have HO257 := n1_; have BK250 := n2_; have HB := n3_; clear n0_ n1_ n2_ n3_; (try clear hb); (try clear hb2); (try clear hk); (try clear hi); (try clear ho0); obtain ⟨Ao11, co11, eo11⟩ := Kd.S_slice HO257.out; subst eo11)); try go_wp2_with (first | ((with_reducible refine gate_dst (N := 2) rfl ?_); (try (refine gate_guard (by rfl) ?_; dsimp only)); refine box_event ?hg (N := 2) ?hd (cs := #[.slice A0_0 l0_0.length c0_0]) (t := 28) ?hr ?_; (case hd => rfl); (case hg => rfl); (case hr => first | (go_simp; done) | (go_simp; rfl)); intro gb250 hg w6 hbox hb; have n0_ := Aside0.mk (below_step (by repeat (first | (with_reducible first | exact HB.out | apply below_alloc | apply pw_below_drewN | apply below_drew1) | exact HB.out)) hb); have n1_ := Aside0.mk (hbox); have n2_ := Aside0.mk ((by rw [hg]; exact (below_size (by repeat (first | (with_reducible first | exact HB.out | apply below_alloc | apply pw_below_drewN | apply below_drew1) | exact HB.out))) : w.heap.size ≤ gb250)); have n3_ := Aside0.mk ((by rw [hg]; exact (below_size (by repeat (first | (with_reducible first | exact HB.out | apply below_alloc | apply pw_below_drewN | apply below_drew1) | exact HB.out))) : w.heap.size ≤ gb250)); clear HB; have HB := n0_; have BK250 := n1_; have GW250 := n2_; have GE250 := n3_; clear n0_ n1_ n2_ n3_; clear hb hbox hg; have hcz7_0 : w6.cell? ⟨gb250, 0, none⟩ = some (.slice A0_0 l0_0.length c0_0) := (blk_cell BK250.out 0).trans rfl; have hfz7_0 := blk_frozen BK250.out 0) | (go_at_call 13; (with_reducible refine (spec_JoinsOf.calls k _ _ l0_0 _ _ l1 t251 true _ ?side1 ?side2 ?side3 ?side4 A3.out).mono ?_); (case side1 => repeat (first | exact (Kd.C_below HR0_0.out HB.out) | (with_reducible refine Kd.C_alloc ?_ _) | (with_reducible refine Kd.C_drewN ?_ _) | (with_reducible refine Kd.C_drew ?_))); (case side2 => exact HC0_0.out); (case side3 => repeat (first | exact (Kd.C_below HR1.out HB.out) | (with_reducible refine Kd.C_alloc ?_ _) | (with_reducible refine Kd.C_drewN ?_ _) | (with_reducible refine Kd.C_drew ?_))); (case side4 => exact HC1.out); rintro e w8 ⟨v252, rfl, ho0, hb⟩; have n0_ := Aside0.mk (Kd.R_lower ho0 (below_size (by repeat (first | (with_reducible first | exact HB.out | apply below_alloc | apply pw_below_drewN | apply below_drew1 | refine below_set ?_ GE250.out) | exact HB.out)))); have n1_ := Aside0.mk (blk_below (g := gb250) (o := .cells #[.slice A0_0 l0_0.length c0_0] 28 (0, 0)) (by (with_reducible repeat (first | refine blk_drewN ?_ _ | refine blk_drew ?_ | refine blk_alloc ?_ _)); exact BK250.out) hb); have n2_ := Aside0.mk (below_step (by repeat (first | (with_reducible first | exact HB.out | apply below_alloc | apply pw_below_drewN | apply below_drew1 | refine below_set ?_ GE250.out) | exact HB.out)) hb); clear BK250; clear HB; have HO253 := n0_; have BK250 := n1_; have HB := n2_; clear n0_ n1_ n2_; (try clear hb); (try clear hb2); (try clear hk); (try clear hi); (try clear ho0); have hcz9_0 : w8.cell? ⟨gb250, 0, none⟩ = some (.slice A0_0 l0_0.length c0_0) := (blk_cell BK250.out 0).trans rfl; have hfz9_0 := blk_frozen BK250.out 0) | (go_at_call 53; (with_reducible refine (spec_l10Dominators.calls _ _ l0_0 t255 _ ?side1 ?side2 A5.out).mono ?_); (case side1 => repeat (first | exact (Kd.C_below HR0_0.out HB.out) | (with_reducible refine Kd.C_alloc ?_ _) | (with_reducible refine Kd.C_drewN ?_ _) | (with_reducible refine Kd.C_drew ?_))); (case side2 => exact HC0_0.out); rintro e w10 ⟨v256, rfl, ho0, hb⟩; have n0_ := Aside0.mk (Kd.R_below (by (with_reducible repeat (first | apply Kd.R_alloc | apply Kd.R_drewN | apply Kd.R_drew)); exact HO253.out) hb); have n1_ := Aside0.mk (Kd.S_lower (Kd.S_new' ho0 (Kd.R_lt (by (with_reducible repeat (first | apply Kd.R_alloc | apply Kd.R_drewN | apply Kd.R_drew)); exact HO253.out))) (below_size (by repeat (first | (with_reducible first | exact HB.out | apply below_alloc | apply pw_below_drewN | apply below_drew1 | refine below_set ?_ GE250.out) | exact HB.out)))); have n2_ := Aside0.mk (blk_below (g := gb250) (o := .cells #[.slice A0_0 l0_0.length c0_0] 28 (0, 0)) (by (with_reducible repeat (first | refine blk_drewN ?_ _ | refine blk_drew ?_ | refine blk_alloc ?_ _)); exact BK250.out) hb); have n3_ := Aside0.mk (below_step (by repeat (first | (with_reducible first | exact HB.out | apply below_alloc | apply pw_below_drewN | apply below_drew1 | refine below_set ?_ GE250.out) | exact HB.out)) hb); clear HO253; clear BK250; clear HB; have HO253 := n0_; have HO257 := n1_; have BK250 := n2_; have HB := n3_; clear n0_ n1_ n2_ n3_; (try clear hb); (try clear hb2); (try clear hk); (try clear hi); (try clear ho0); obtain ⟨Ao11, co11, eo11⟩ := Kd.S_slice HO257.out; subst eo11)))
    go_loopg [9, 27] k (fun kq v9 v27 w' => ∃ (x9_1 : List Int) (x27_1 : Int), v27 = .int .i64 x27_1 ∧ Aside0 (spec_OwnerAt.l0 kq l1 t251 t255 x9_1 t255 (t255.length : Int) x27_1 = some (r1, r2)) ∧ Aside0 (kq ≤ k) ∧ Aside0 (Kd.R (Kd.int .i64) 3 w' w.heap.size (fun k_ => some k_ ≠ (v9 : Value).ownBlock) v252 t251) ∧ Aside0 (Kd.S (Kd.slice 3 (Kd.int .i64)) 32 w' w.heap.size (fun k_ => some k_ ≠ (v252 : Value).ownBlock ∧ some k_ ≠ (v9 : Value).ownBlock) (.slice Ao11 t255.length co11) t255) ∧ Aside0 (Kd.R (Kd.int .i64) 3 w' w.heap.size (fun k_ => some k_ ≠ (v252 : Value).ownBlock) v9 x9_1) ∧ Aside0 (Kd.S (Kd.slice 3 (Kd.int .i64)) 32 w' w.heap.size (fun k_ => some k_ ≠ (v252 : Value).ownBlock ∧ some k_ ≠ (v9 : Value).ownBlock) (.slice Ao11 t255.length co11) t255) ∧ Aside0 (w'.heap[gb250]? = some (.cells #[(.slice A0_0 l0_0.length c0_0)] 28 (0, 0))) ∧ Aside0 (Below w.heap.size w w'))
    case atStart => exact ⟨(([] : List Int)), (0), (by first | rfl | (simp; done) | (simp [*]; done)), H', ⟨Nat.le_refl _⟩, ⟨by (with_reducible repeat (first | apply Kd.R_alloc | apply Kd.R_drewN | apply Kd.R_drew)); exact Kd.R_mono HO253.out (fun _ hk => (by simp [Value.ownBlock]))⟩, ⟨by (with_reducible repeat (first | apply Kd.S_alloc | apply Kd.S_drewN | apply Kd.S_drew)); exact Kd.S_mono HO257.out (fun _ hk => ⟨hk.2, (by simp [Value.ownBlock])⟩)⟩, ⟨by first | exact Kd.R_nil _ _ _ _ _ | exact Kd.N_nil _ _ _ _ _ | exact Kd.V_nil _ _ _ _ _ | exact Kd.Q_nil _ _ _ _ _ | exact Kd.S_nil _ _ _ _ _⟩, ⟨by (with_reducible repeat (first | apply Kd.S_alloc | apply Kd.S_drewN | apply Kd.S_drew)); exact Kd.S_mono HO257.out (fun _ hk => ⟨hk.2, (by simp [Value.ownBlock])⟩)⟩, ⟨by (with_reducible repeat (first | refine blk_drewN ?_ _ | refine blk_drew ?_ | refine blk_alloc ?_ _)); exact BK250.out⟩, ⟨by repeat (first | (with_reducible first | exact HB.out | apply below_alloc | apply pw_below_drewN | apply below_drew1 | refine below_set ?_ GE250.out) | exact HB.out)⟩⟩
    case round =>
      clear H'
      try clear c1
      try clear c2
      try clear p2
      try clear c4
      try clear hcz7_0
      try clear hcz9_0
      try clear hfz7_0
      try clear hfz9_0
      obtain ⟨x9_1, x27_1, rfl, HA, HK1, HO_6, HO_8, HO_9, HO_25, BK250, HB⟩ := hrel
      cases gk with
      | zero => exact absurd HA.out (by simp [spec_OwnerAt.l0])
      | succ k1 =>
        have H := HA.out
        clear HA
        simp only [spec_OwnerAt.l0] at H
        by_cases c12 : x27_1 < (t255.length : Int)
        · rw [if_pos c12] at H
          have c12b0 : decide (x27_1 < (t255.length : Int)) = true := decide_eq_true c12
          clear c12
          by_cases c13 : 0 ≤ x27_1
          · rw [if_pos c13] at H
            have c13b0 : decide (0 ≤ x27_1) = true := decide_eq_true c13
            clear c13
            by_cases c14 : x27_1 < (t255.length : Int)
            · rw [if_pos c14] at H
              have c14b0 : decide (x27_1 < (t255.length : Int)) = true := decide_eq_true c14
              clear c14
              have H' := Aside0.mk H
              clear H
              have p258 : 0 ≤ (x27_1 : Int) := of_decide_eq_true (by first | (with_reducible assumption) | assumption)
              have q258 : x27_1 < (t255.length : Int) := of_decide_eq_true (by first | (with_reducible assumption) | assumption)
              obtain ⟨ad258, A258_0, c258_0, e258, hx258_0, hl258_0, hi258_0⟩ := at_L1 (Kd.S_reads' HO_25.out).2.2 x27_1 p258 q258
              cases e258
              obtain ⟨ce258, hce258, hMe258, hcc258⟩ := Kd.S_get HO_25.out [] x27_1 p258 (by first | exact q258 | exact of_decide_eq_true (by first | (with_reducible assumption) | assumption) | (have e_ := (Kd.S_reads' HO_25.out).1; omega))
              obtain ⟨ve258_0, rfl, ge258_0⟩ := hMe258
              have hv258_0 := hcc258 0 _ rfl
              rw [Nat.add_zero, show ((Kd.slice 3 (Kd.int .i64))).sz = 1 from rfl, Nat.mul_one] at hv258_0
              replace hv258_0 := Option.some.inj (hv258_0.symm.trans hx258_0)
              rw [hv258_0] at ge258_0
              have HL258_0 := Aside0.mk (show Kd.R (Kd.int .i64) 3 _ _ _ _ (rd_L1 t255 x27_1) from ge258_0)
              clear hv258_0 ge258_0
              clear hcc258 hce258
              have HR258_0 := Aside0.mk hi258_0
              have HC258_0 := Aside0.mk hl258_0
              clear hi258_0 hl258_0
              replace p258 := eq_true p258
              replace q258 := eq_true q258
              go_wp2
              repeat (go_quiet (fail); try go_wp2)
              go_loopg [12, 33] k1 (fun kq v12 v33 w' => ∃ (x12_2 : Int) (x33_2 : Int), v12 = .int .i64 x12_2 ∧ v33 = .int .i64 x33_2 ∧ Aside0 (spec_OwnerAt.l1 kq l1 t251 t255 x9_1 x12_2 t255 (t255.length : Int) x27_1 (rd_L1 t255 x27_1) ((rd_L1 t255 x27_1).length : Int) x33_2 = some (r1, r2)) ∧ Aside0 (kq ≤ k1) ∧ Aside0 (Kd.R (Kd.int .i64) 3 w' w.heap.size (fun k_ => some k_ ≠ (u9 : Value).ownBlock) v252 t251) ∧ Aside0 (Kd.S (Kd.slice 3 (Kd.int .i64)) 32 w' w.heap.size (fun k_ => some k_ ≠ (v252 : Value).ownBlock ∧ some k_ ≠ (u9 : Value).ownBlock) (.slice (some ad258) t255.length co11) t255) ∧ Aside0 (Kd.R (Kd.int .i64) 3 w' w.heap.size (fun k_ => some k_ ≠ (v252 : Value).ownBlock) u9 x9_1) ∧ Aside0 (Kd.S (Kd.slice 3 (Kd.int .i64)) 32 w' w.heap.size (fun k_ => some k_ ≠ (v252 : Value).ownBlock ∧ some k_ ≠ (u9 : Value).ownBlock) (.slice (some ad258) t255.length co11) t255) ∧ Aside0 (w'.heap[gb250]? = some (.cells #[(.slice A0_0 l0_0.length c0_0)] 28 (0, 0))) ∧ Aside0 (Kd.C (Kd.int .i64) w' A258_0 (rd_L1 t255 x27_1).length (rd_L1 t255 x27_1)) ∧ Aside0 (Below w.heap.size w w'))
              case atStart => exact ⟨((-1)), (0), (by first | rfl | (simp; done) | (simp [*]; done)), (by first | rfl | (simp; done) | (simp [*]; done)), H', ⟨Nat.le_refl _⟩, ⟨by (with_reducible repeat (first | apply Kd.R_alloc | apply Kd.R_drewN | apply Kd.R_drew)); exact HO_6.out⟩, ⟨by (with_reducible repeat (first | apply Kd.S_alloc | apply Kd.S_drewN | apply Kd.S_drew)); exact HO_8.out⟩, ⟨by (with_reducible repeat (first | apply Kd.R_alloc | apply Kd.R_drewN | apply Kd.R_drew)); exact HO_9.out⟩, ⟨by (with_reducible repeat (first | apply Kd.S_alloc | apply Kd.S_drewN | apply Kd.S_drew)); exact HO_25.out⟩, ⟨by (with_reducible repeat (first | refine blk_drewN ?_ _ | refine blk_drew ?_ | refine blk_alloc ?_ _)); exact BK250.out⟩, ⟨by repeat (first | (with_reducible exact HR258_0.out) | (with_reducible refine Kd.C_alloc ?_ _) | (with_reducible refine Kd.C_drewN ?_ _) | (with_reducible refine Kd.C_drew ?_) | exact HR258_0.out)⟩, ⟨by repeat (first | (with_reducible first | exact HB.out | apply below_alloc | apply pw_below_drewN | apply below_drew1 | refine below_set ?_ GE250.out) | exact HB.out)⟩⟩
              case round =>
                clear H'
                try clear c1
                try clear c2
                try clear p2
                try clear q2
                try clear hx2
                try clear c4
                try clear c12
                try clear c12b0
                try clear c13
                try clear c13b0
                try clear c14
                try clear c14b0
                try clear hcz7_0
                try clear hcz9_0
                try clear hfz7_0
                try clear hfz9_0
                try clear hx258_0
                try clear p2
                try clear p258
                try clear q258
                obtain ⟨x12_2, x33_2, rfl, rfl, HA, HK2, HO_6, HO_8, HO_9, HO_25, BK250, HR258_0, HB⟩ := hrel
                cases gk with
                | zero => exact absurd HA.out (by simp [spec_OwnerAt.l1])
                | succ k2 =>
                  have H := HA.out
                  clear HA
                  simp only [spec_OwnerAt.l1] at H
                  by_cases c15 : x33_2 < ((rd_L1 t255 x27_1).length : Int)
                  · rw [if_pos c15] at H
                    have c15b0 : decide (x33_2 < ((rd_L1 t255 x27_1).length : Int)) = true := decide_eq_true c15
                    clear c15
                    by_cases c16 : 0 ≤ x33_2
                    · rw [if_pos c16] at H
                      have c16b0 : decide (0 ≤ x33_2) = true := decide_eq_true c16
                      clear c16
                      by_cases c17 : x33_2 < ((rd_L1 t255 x27_1).length : Int)
                      · rw [if_pos c17] at H
                        have c17b0 : decide (x33_2 < ((rd_L1 t255 x27_1).length : Int)) = true := decide_eq_true c17
                        clear c17
                        replace H := Option.bind_eq_some_iff.mp H
                        obtain ⟨t263, A180, H⟩ := H
                        replace H : (if t263 = true then (if x12_2 < 0 then (spec_OwnerAt.l1 k2 l1 t251 t255 x9_1 (rd (rd_L1 t255 x27_1) x33_2) t255 (t255.length : Int) x27_1 (rd_L1 t255 x27_1) ((rd_L1 t255 x27_1).length : Int) (wrap64 (x33_2 + 1))) else (if 0 ≤ (rd (rd_L1 t255 x27_1) x33_2) then (if (rd (rd_L1 t255 x27_1) x33_2) < (t255.length : Int) then (if 0 ≤ x12_2 then (if x12_2 < (t255.length : Int) then (if ((rd_L1 t255 (rd (rd_L1 t255 x27_1) x33_2)).length : Int) > ((rd_L1 t255 x12_2).length : Int) then (spec_OwnerAt.l1 k2 l1 t251 t255 x9_1 (rd (rd_L1 t255 x27_1) x33_2) t255 (t255.length : Int) x27_1 (rd_L1 t255 x27_1) ((rd_L1 t255 x27_1).length : Int) (wrap64 (x33_2 + 1))) else (spec_OwnerAt.l1 k2 l1 t251 t255 x9_1 x12_2 t255 (t255.length : Int) x27_1 (rd_L1 t255 x27_1) ((rd_L1 t255 x27_1).length : Int) (wrap64 (x33_2 + 1)))) else (none)) else (none)) else (none)) else (none))) else ((spec_l1Has.f k2 t251 (rd (rd_L1 t255 x27_1) x33_2)).bind fun t266 => (if t266 = true then (if x12_2 < 0 then (spec_OwnerAt.l1 k2 l1 t251 t255 x9_1 (rd (rd_L1 t255 x27_1) x33_2) t255 (t255.length : Int) x27_1 (rd_L1 t255 x27_1) ((rd_L1 t255 x27_1).length : Int) (wrap64 (x33_2 + 1))) else (if 0 ≤ (rd (rd_L1 t255 x27_1) x33_2) then (if (rd (rd_L1 t255 x27_1) x33_2) < (t255.length : Int) then (if 0 ≤ x12_2 then (if x12_2 < (t255.length : Int) then (if ((rd_L1 t255 (rd (rd_L1 t255 x27_1) x33_2)).length : Int) > ((rd_L1 t255 x12_2).length : Int) then (spec_OwnerAt.l1 k2 l1 t251 t255 x9_1 (rd (rd_L1 t255 x27_1) x33_2) t255 (t255.length : Int) x27_1 (rd_L1 t255 x27_1) ((rd_L1 t255 x27_1).length : Int) (wrap64 (x33_2 + 1))) else (spec_OwnerAt.l1 k2 l1 t251 t255 x9_1 x12_2 t255 (t255.length : Int) x27_1 (rd_L1 t255 x27_1) ((rd_L1 t255 x27_1).length : Int) (wrap64 (x33_2 + 1)))) else (none)) else (none)) else (none)) else (none))) else (spec_OwnerAt.l1 k2 l1 t251 t255 x9_1 x12_2 t255 (t255.length : Int) x27_1 (rd_L1 t255 x27_1) ((rd_L1 t255 x27_1).length : Int) (wrap64 (x33_2 + 1)))))) = some (r1, r2) := H
                        have A18 := Aside0.mk A180
                        clear A180
                        by_cases c19 : t263 = true
                        · subst c19
                          have H1 : (if x12_2 < 0 then (spec_OwnerAt.l1 k2 l1 t251 t255 x9_1 (rd (rd_L1 t255 x27_1) x33_2) t255 (t255.length : Int) x27_1 (rd_L1 t255 x27_1) ((rd_L1 t255 x27_1).length : Int) (wrap64 (x33_2 + 1))) else (if 0 ≤ (rd (rd_L1 t255 x27_1) x33_2) then (if (rd (rd_L1 t255 x27_1) x33_2) < (t255.length : Int) then (if 0 ≤ x12_2 then (if x12_2 < (t255.length : Int) then (if ((rd_L1 t255 (rd (rd_L1 t255 x27_1) x33_2)).length : Int) > ((rd_L1 t255 x12_2).length : Int) then (spec_OwnerAt.l1 k2 l1 t251 t255 x9_1 (rd (rd_L1 t255 x27_1) x33_2) t255 (t255.length : Int) x27_1 (rd_L1 t255 x27_1) ((rd_L1 t255 x27_1).length : Int) (wrap64 (x33_2 + 1))) else (spec_OwnerAt.l1 k2 l1 t251 t255 x9_1 x12_2 t255 (t255.length : Int) x27_1 (rd_L1 t255 x27_1) ((rd_L1 t255 x27_1).length : Int) (wrap64 (x33_2 + 1)))) else (none)) else (none)) else (none)) else (none))) = some (r1, r2) := by rw [if_pos rfl] at H; exact H
                          clear H
                          have H := H1
                          clear H1
                          by_cases c20 : x12_2 < 0
                          · rw [if_pos c20] at H
                            have c20b0 : decide (x12_2 < 0) = true := decide_eq_true c20
                            clear c20
                            have H' := Aside0.mk H
                            clear H
                            have p262 : 0 ≤ (x33_2 : Int) := of_decide_eq_true (by first | (with_reducible assumption) | assumption)
                            have q262 : x33_2 < ((rd_L1 t255 x27_1).length : Int) := of_decide_eq_true (by first | (with_reducible assumption) | assumption)
                            obtain ⟨ad262, e262, hx262_0⟩ := Kd.at_int HR258_0.out x33_2 p262 q262
                            cases e262
                            try replace hx262_0 := (HB.out.cell (World.block_lt_of_cell? w _ hx262_0)).trans hx262_0
                            replace p262 := eq_true p262
                            replace q262 := eq_true q262
                            go_wp2_with (first | (go_at_call 43; (with_reducible refine (spec_l1Has.calls k2 _ _ l1 (rd (rd_L1 t255 x27_1) x33_2) true _ ?side1 ?side2 A18.out).mono ?_); (case side1 => repeat (first | exact (Kd.C_below HR1.out HB.out) | (with_reducible refine Kd.C_alloc ?_ _) | (with_reducible refine Kd.C_drewN ?_ _) | (with_reducible refine Kd.C_drew ?_))); (case side2 => exact HC1.out); rintro e w' ⟨rfl, ⟨nd, rfl⟩⟩; (try first | exact ⟨rfl, _, World.drewN_drewN _ _ _⟩ | exact ⟨rfl, _, Eq.trans (World.drewN_drewN _ _ _) (congrArg (World.drewN _) (Nat.add_assoc _ _ _))⟩)))
                            repeat (go_quiet (first | (go_at_call 43; (with_reducible refine (spec_l1Has.calls k2 _ _ l1 (rd (rd_L1 t255 x27_1) x33_2) true _ ?side1 ?side2 A18.out).mono ?_); (case side1 => repeat (first | exact (Kd.C_below HR1.out HB.out) | (with_reducible refine Kd.C_alloc ?_ _) | (with_reducible refine Kd.C_drewN ?_ _) | (with_reducible refine Kd.C_drew ?_))); (case side2 => exact HC1.out); rintro e w' ⟨rfl, ⟨nd, rfl⟩⟩; (try first | exact ⟨rfl, _, World.drewN_drewN _ _ _⟩ | exact ⟨rfl, _, Eq.trans (World.drewN_drewN _ _ _) (congrArg (World.drewN _) (Nat.add_assoc _ _ _))⟩))); try go_wp2_with (first | (go_at_call 43; (with_reducible refine (spec_l1Has.calls k2 _ _ l1 (rd (rd_L1 t255 x27_1) x33_2) true _ ?side1 ?side2 A18.out).mono ?_); (case side1 => repeat (first | exact (Kd.C_below HR1.out HB.out) | (with_reducible refine Kd.C_alloc ?_ _) | (with_reducible refine Kd.C_drewN ?_ _) | (with_reducible refine Kd.C_drew ?_))); (case side2 => exact HC1.out); rintro e w' ⟨rfl, ⟨nd, rfl⟩⟩; (try first | exact ⟨rfl, _, World.drewN_drewN _ _ _⟩ | exact ⟨rfl, _, Eq.trans (World.drewN_drewN _ _ _) (congrArg (World.drewN _) (Nat.add_assoc _ _ _))⟩))))
                            go_roundg k2
                            case measure => have := HK1.out; have := HK2.out; omega
                            case rel => exact ⟨(rd (rd_L1 t255 x27_1) x33_2), (wrap64 (x33_2 + 1)), (by first | rfl | (simp; done) | (simp [*]; done)), (by first | rfl | (simp; done) | (simp [*]; done)), H', ⟨by have := HK1.out; have := HK2.out; omega⟩, ⟨by (with_reducible repeat (first | apply Kd.R_alloc | apply Kd.R_drewN | apply Kd.R_drew)); exact HO_6.out⟩, ⟨by (with_reducible repeat (first | apply Kd.S_alloc | apply Kd.S_drewN | apply Kd.S_drew)); exact HO_8.out⟩, ⟨by (with_reducible repeat (first | apply Kd.R_alloc | apply Kd.R_drewN | apply Kd.R_drew)); exact HO_9.out⟩, ⟨by (with_reducible repeat (first | apply Kd.S_alloc | apply Kd.S_drewN | apply Kd.S_drew)); exact HO_25.out⟩, ⟨by (with_reducible repeat (first | refine blk_drewN ?_ _ | refine blk_drew ?_ | refine blk_alloc ?_ _)); exact BK250.out⟩, ⟨by repeat (first | (with_reducible exact HR258_0.out) | (with_reducible refine Kd.C_alloc ?_ _) | (with_reducible refine Kd.C_drewN ?_ _) | (with_reducible refine Kd.C_drew ?_) | exact HR258_0.out)⟩, ⟨by repeat (first | (with_reducible first | exact HB.out | apply below_alloc | apply pw_below_drewN | apply below_drew1 | refine below_set ?_ GE250.out) | exact HB.out)⟩⟩
                          · rw [if_neg c20] at H
                            have c20b0 : decide (x12_2 < 0) = false := decide_eq_false c20
                            clear c20
                            by_cases c21 : 0 ≤ (rd (rd_L1 t255 x27_1) x33_2)
                            · rw [if_pos c21] at H
                              have c21b0 : decide (0 ≤ (rd (rd_L1 t255 x27_1) x33_2)) = true := decide_eq_true c21
                              clear c21
                              by_cases c22 : (rd (rd_L1 t255 x27_1) x33_2) < (t255.length : Int)
                              · rw [if_pos c22] at H
                                have c22b0 : decide ((rd (rd_L1 t255 x27_1) x33_2) < (t255.length : Int)) = true := decide_eq_true c22
                                clear c22
                                by_cases c23 : 0 ≤ x12_2
                                · rw [if_pos c23] at H
                                  have c23b0 : decide (0 ≤ x12_2) = true := decide_eq_true c23
                                  clear c23
                                  by_cases c24 : x12_2 < (t255.length : Int)
                                  · rw [if_pos c24] at H
                                    have c24b0 : decide (x12_2 < (t255.length : Int)) = true := decide_eq_true c24
                                    clear c24
                                    by_cases c25 : ((rd_L1 t255 (rd (rd_L1 t255 x27_1) x33_2)).length : Int) > ((rd_L1 t255 x12_2).length : Int)
                                    · rw [if_pos c25] at H
                                      have c25b0 : decide (((rd_L1 t255 x12_2).length : Int) < ((rd_L1 t255 (rd (rd_L1 t255 x27_1) x33_2)).length : Int)) = true := decide_eq_true c25
                                      have c25b1 : decide ((rd_L1 t255 x12_2).length < (rd_L1 t255 (rd (rd_L1 t255 x27_1) x33_2)).length) = true := decide_eq_true (Int.ofNat_lt.mp c25)
                                      clear c25
                                      have H' := Aside0.mk H
                                      clear H
                                      have p262 : 0 ≤ (x33_2 : Int) := of_decide_eq_true (by first | (with_reducible assumption) | assumption)
                                      have q262 : x33_2 < ((rd_L1 t255 x27_1).length : Int) := of_decide_eq_true (by first | (with_reducible assumption) | assumption)
                                      obtain ⟨ad262, e262, hx262_0⟩ := Kd.at_int HR258_0.out x33_2 p262 q262
                                      cases e262
                                      try replace hx262_0 := (HB.out.cell (World.block_lt_of_cell? w _ hx262_0)).trans hx262_0
                                      replace p262 := eq_true p262
                                      replace q262 := eq_true q262
                                      go_wp2_with (first | (go_at_call 43; (with_reducible refine (spec_l1Has.calls k2 _ _ l1 (rd (rd_L1 t255 x27_1) x33_2) true _ ?side1 ?side2 A18.out).mono ?_); (case side1 => repeat (first | exact (Kd.C_below HR1.out HB.out) | (with_reducible refine Kd.C_alloc ?_ _) | (with_reducible refine Kd.C_drewN ?_ _) | (with_reducible refine Kd.C_drew ?_))); (case side2 => exact HC1.out); rintro e w' ⟨rfl, ⟨nd, rfl⟩⟩; (try first | exact ⟨rfl, _, World.drewN_drewN _ _ _⟩ | exact ⟨rfl, _, Eq.trans (World.drewN_drewN _ _ _) (congrArg (World.drewN _) (Nat.add_assoc _ _ _))⟩); have p264 : 0 ≤ ((rd (rd_L1 t255 x27_1) x33_2) : Int) := of_decide_eq_true (by first | (with_reducible assumption) | assumption); have q264 : (rd (rd_L1 t255 x27_1) x33_2) < (t255.length : Int) := of_decide_eq_true (by first | (with_reducible assumption) | assumption); obtain ⟨ad264, A264_0, c264_0, e264, hx264_0, hl264_0, hi264_0⟩ := at_L1 (Kd.S_reads' HO_8.out).2.2 (rd (rd_L1 t255 x27_1) x33_2) p264 q264; obtain rfl : ad258 = ad264 := (by injection e264); obtain ⟨ce264, hce264, hMe264, hcc264⟩ := Kd.S_get HO_8.out [] (rd (rd_L1 t255 x27_1) x33_2) p264 (by first | exact q264 | exact of_decide_eq_true (by first | (with_reducible assumption) | assumption) | (have e_ := (Kd.S_reads' HO_8.out).1; omega)); obtain ⟨ve264_0, rfl, ge264_0⟩ := hMe264; have hv264_0 := hcc264 0 _ rfl; rw [Nat.add_zero, show ((Kd.slice 3 (Kd.int .i64))).sz = 1 from rfl, Nat.mul_one] at hv264_0; replace hv264_0 := Option.some.inj (hv264_0.symm.trans hx264_0); rw [hv264_0] at ge264_0; have HL264_0 := Aside0.mk (show Kd.R (Kd.int .i64) 3 _ _ _ _ (rd_L1 t255 (rd (rd_L1 t255 x27_1) x33_2)) from ge264_0); clear hv264_0 ge264_0; clear hcc264 hce264; have HR264_0 := Aside0.mk hi264_0; have HC264_0 := Aside0.mk hl264_0; clear hi264_0 hl264_0; replace p264 := eq_true p264; replace q264 := eq_true q264; have p265 : 0 ≤ (x12_2 : Int) := of_decide_eq_true (by first | (with_reducible assumption) | assumption); have q265 : x12_2 < (t255.length : Int) := of_decide_eq_true (by first | (with_reducible assumption) | assumption); obtain ⟨ad265, A265_0, c265_0, e265, hx265_0, hl265_0, hi265_0⟩ := at_L1 (Kd.S_reads' HO_8.out).2.2 x12_2 p265 q265; obtain rfl : ad258 = ad265 := (by injection e265); obtain ⟨ce265, hce265, hMe265, hcc265⟩ := Kd.S_get HO_8.out [] x12_2 p265 (by first | exact q265 | exact of_decide_eq_true (by first | (with_reducible assumption) | assumption) | (have e_ := (Kd.S_reads' HO_8.out).1; omega)); obtain ⟨ve265_0, rfl, ge265_0⟩ := hMe265; have hv265_0 := hcc265 0 _ rfl; rw [Nat.add_zero, show ((Kd.slice 3 (Kd.int .i64))).sz = 1 from rfl, Nat.mul_one] at hv265_0; replace hv265_0 := Option.some.inj (hv265_0.symm.trans hx265_0); rw [hv265_0] at ge265_0; have HL265_0 := Aside0.mk (show Kd.R (Kd.int .i64) 3 _ _ _ _ (rd_L1 t255 x12_2) from ge265_0); clear hv265_0 ge265_0; clear hcc265 hce265; have HR265_0 := Aside0.mk hi265_0; have HC265_0 := Aside0.mk hl265_0; clear hi265_0 hl265_0; replace p265 := eq_true p265; replace q265 := eq_true q265))
                                      have p264 : 0 ≤ ((rd (rd_L1 t255 x27_1) x33_2) : Int) := of_decide_eq_true (by first | (with_reducible assumption) | assumption)
                                      have q264 : (rd (rd_L1 t255 x27_1) x33_2) < (t255.length : Int) := of_decide_eq_true (by first | (with_reducible assumption) | assumption)
                                      obtain ⟨ad264, A264_0, c264_0, e264, hx264_0, hl264_0, hi264_0⟩ := at_L1 (Kd.S_reads' HO_8.out).2.2 (rd (rd_L1 t255 x27_1) x33_2) p264 q264
                                      obtain rfl : ad258 = ad264 := (by injection e264)
                                      obtain ⟨ce264, hce264, hMe264, hcc264⟩ := Kd.S_get HO_8.out [] (rd (rd_L1 t255 x27_1) x33_2) p264 (by first | exact q264 | exact of_decide_eq_true (by first | (with_reducible assumption) | assumption) | (have e_ := (Kd.S_reads' HO_8.out).1; omega))
                                      obtain ⟨ve264_0, rfl, ge264_0⟩ := hMe264
                                      have hv264_0 := hcc264 0 _ rfl
                                      rw [Nat.add_zero, show ((Kd.slice 3 (Kd.int .i64))).sz = 1 from rfl, Nat.mul_one] at hv264_0
                                      replace hv264_0 := Option.some.inj (hv264_0.symm.trans hx264_0)
                                      rw [hv264_0] at ge264_0
                                      have HL264_0 := Aside0.mk (show Kd.R (Kd.int .i64) 3 _ _ _ _ (rd_L1 t255 (rd (rd_L1 t255 x27_1) x33_2)) from ge264_0)
                                      clear hv264_0 ge264_0
                                      clear hcc264 hce264
                                      have HR264_0 := Aside0.mk hi264_0
                                      have HC264_0 := Aside0.mk hl264_0
                                      clear hi264_0 hl264_0
                                      replace p264 := eq_true p264
                                      replace q264 := eq_true q264
                                      have p265 : 0 ≤ (x12_2 : Int) := of_decide_eq_true (by first | (with_reducible assumption) | assumption)
                                      have q265 : x12_2 < (t255.length : Int) := of_decide_eq_true (by first | (with_reducible assumption) | assumption)
                                      obtain ⟨ad265, A265_0, c265_0, e265, hx265_0, hl265_0, hi265_0⟩ := at_L1 (Kd.S_reads' HO_8.out).2.2 x12_2 p265 q265
                                      obtain rfl : ad258 = ad265 := (by injection e265)
                                      obtain ⟨ce265, hce265, hMe265, hcc265⟩ := Kd.S_get HO_8.out [] x12_2 p265 (by first | exact q265 | exact of_decide_eq_true (by first | (with_reducible assumption) | assumption) | (have e_ := (Kd.S_reads' HO_8.out).1; omega))
                                      obtain ⟨ve265_0, rfl, ge265_0⟩ := hMe265
                                      have hv265_0 := hcc265 0 _ rfl
                                      rw [Nat.add_zero, show ((Kd.slice 3 (Kd.int .i64))).sz = 1 from rfl, Nat.mul_one] at hv265_0
                                      replace hv265_0 := Option.some.inj (hv265_0.symm.trans hx265_0)
                                      rw [hv265_0] at ge265_0
                                      have HL265_0 := Aside0.mk (show Kd.R (Kd.int .i64) 3 _ _ _ _ (rd_L1 t255 x12_2) from ge265_0)
                                      clear hv265_0 ge265_0
                                      clear hcc265 hce265
                                      have HR265_0 := Aside0.mk hi265_0
                                      have HC265_0 := Aside0.mk hl265_0
                                      clear hi265_0 hl265_0
                                      replace p265 := eq_true p265
                                      replace q265 := eq_true q265
                                      repeat (go_quiet (first | (go_at_call 43; (with_reducible refine (spec_l1Has.calls k2 _ _ l1 (rd (rd_L1 t255 x27_1) x33_2) true _ ?side1 ?side2 A18.out).mono ?_); (case side1 => repeat (first | exact (Kd.C_below HR1.out HB.out) | (with_reducible refine Kd.C_alloc ?_ _) | (with_reducible refine Kd.C_drewN ?_ _) | (with_reducible refine Kd.C_drew ?_))); (case side2 => exact HC1.out); rintro e w' ⟨rfl, ⟨nd, rfl⟩⟩; (try first | exact ⟨rfl, _, World.drewN_drewN _ _ _⟩ | exact ⟨rfl, _, Eq.trans (World.drewN_drewN _ _ _) (congrArg (World.drewN _) (Nat.add_assoc _ _ _))⟩))); try go_wp2_with (first | (go_at_call 43; (with_reducible refine (spec_l1Has.calls k2 _ _ l1 (rd (rd_L1 t255 x27_1) x33_2) true _ ?side1 ?side2 A18.out).mono ?_); (case side1 => repeat (first | exact (Kd.C_below HR1.out HB.out) | (with_reducible refine Kd.C_alloc ?_ _) | (with_reducible refine Kd.C_drewN ?_ _) | (with_reducible refine Kd.C_drew ?_))); (case side2 => exact HC1.out); rintro e w' ⟨rfl, ⟨nd, rfl⟩⟩; (try first | exact ⟨rfl, _, World.drewN_drewN _ _ _⟩ | exact ⟨rfl, _, Eq.trans (World.drewN_drewN _ _ _) (congrArg (World.drewN _) (Nat.add_assoc _ _ _))⟩); have p264 : 0 ≤ ((rd (rd_L1 t255 x27_1) x33_2) : Int) := of_decide_eq_true (by first | (with_reducible assumption) | assumption); have q264 : (rd (rd_L1 t255 x27_1) x33_2) < (t255.length : Int) := of_decide_eq_true (by first | (with_reducible assumption) | assumption); obtain ⟨ad264, A264_0, c264_0, e264, hx264_0, hl264_0, hi264_0⟩ := at_L1 (Kd.S_reads' HO_8.out).2.2 (rd (rd_L1 t255 x27_1) x33_2) p264 q264; obtain rfl : ad258 = ad264 := (by injection e264); obtain ⟨ce264, hce264, hMe264, hcc264⟩ := Kd.S_get HO_8.out [] (rd (rd_L1 t255 x27_1) x33_2) p264 (by first | exact q264 | exact of_decide_eq_true (by first | (with_reducible assumption) | assumption) | (have e_ := (Kd.S_reads' HO_8.out).1; omega)); obtain ⟨ve264_0, rfl, ge264_0⟩ := hMe264; have hv264_0 := hcc264 0 _ rfl; rw [Nat.add_zero, show ((Kd.slice 3 (Kd.int .i64))).sz = 1 from rfl, Nat.mul_one] at hv264_0; replace hv264_0 := Option.some.inj (hv264_0.symm.trans hx264_0); rw [hv264_0] at ge264_0; have HL264_0 := Aside0.mk (show Kd.R (Kd.int .i64) 3 _ _ _ _ (rd_L1 t255 (rd (rd_L1 t255 x27_1) x33_2)) from ge264_0); clear hv264_0 ge264_0; clear hcc264 hce264; have HR264_0 := Aside0.mk hi264_0; have HC264_0 := Aside0.mk hl264_0; clear hi264_0 hl264_0; replace p264 := eq_true p264; replace q264 := eq_true q264; have p265 : 0 ≤ (x12_2 : Int) := of_decide_eq_true (by first | (with_reducible assumption) | assumption); have q265 : x12_2 < (t255.length : Int) := of_decide_eq_true (by first | (with_reducible assumption) | assumption); obtain ⟨ad265, A265_0, c265_0, e265, hx265_0, hl265_0, hi265_0⟩ := at_L1 (Kd.S_reads' HO_8.out).2.2 x12_2 p265 q265; obtain rfl : ad258 = ad265 := (by injection e265); obtain ⟨ce265, hce265, hMe265, hcc265⟩ := Kd.S_get HO_8.out [] x12_2 p265 (by first | exact q265 | exact of_decide_eq_true (by first | (with_reducible assumption) | assumption) | (have e_ := (Kd.S_reads' HO_8.out).1; omega)); obtain ⟨ve265_0, rfl, ge265_0⟩ := hMe265; have hv265_0 := hcc265 0 _ rfl; rw [Nat.add_zero, show ((Kd.slice 3 (Kd.int .i64))).sz = 1 from rfl, Nat.mul_one] at hv265_0; replace hv265_0 := Option.some.inj (hv265_0.symm.trans hx265_0); rw [hv265_0] at ge265_0; have HL265_0 := Aside0.mk (show Kd.R (Kd.int .i64) 3 _ _ _ _ (rd_L1 t255 x12_2) from ge265_0); clear hv265_0 ge265_0; clear hcc265 hce265; have HR265_0 := Aside0.mk hi265_0; have HC265_0 := Aside0.mk hl265_0; clear hi265_0 hl265_0; replace p265 := eq_true p265; replace q265 := eq_true q265)))
                                      go_roundg k2
                                      case measure => have := HK1.out; have := HK2.out; omega
                                      case rel => exact ⟨(rd (rd_L1 t255 x27_1) x33_2), (wrap64 (x33_2 + 1)), (by first | rfl | (simp; done) | (simp [*]; done)), (by first | rfl | (simp; done) | (simp [*]; done)), H', ⟨by have := HK1.out; have := HK2.out; omega⟩, ⟨by (with_reducible repeat (first | apply Kd.R_alloc | apply Kd.R_drewN | apply Kd.R_drew)); exact HO_6.out⟩, ⟨by (with_reducible repeat (first | apply Kd.S_alloc | apply Kd.S_drewN | apply Kd.S_drew)); exact HO_8.out⟩, ⟨by (with_reducible repeat (first | apply Kd.R_alloc | apply Kd.R_drewN | apply Kd.R_drew)); exact HO_9.out⟩, ⟨by (with_reducible repeat (first | apply Kd.S_alloc | apply Kd.S_drewN | apply Kd.S_drew)); exact HO_25.out⟩, ⟨by (with_reducible repeat (first | refine blk_drewN ?_ _ | refine blk_drew ?_ | refine blk_alloc ?_ _)); exact BK250.out⟩, ⟨by repeat (first | (with_reducible exact HR258_0.out) | (with_reducible refine Kd.C_alloc ?_ _) | (with_reducible refine Kd.C_drewN ?_ _) | (with_reducible refine Kd.C_drew ?_) | exact HR258_0.out)⟩, ⟨by repeat (first | (with_reducible first | exact HB.out | apply below_alloc | apply pw_below_drewN | apply below_drew1 | refine below_set ?_ GE250.out) | exact HB.out)⟩⟩
                                    · rw [if_neg c25] at H
                                      have c25b0 : decide (((rd_L1 t255 x12_2).length : Int) < ((rd_L1 t255 (rd (rd_L1 t255 x27_1) x33_2)).length : Int)) = false := decide_eq_false c25
                                      have c25b1 : decide ((rd_L1 t255 x12_2).length < (rd_L1 t255 (rd (rd_L1 t255 x27_1) x33_2)).length) = false := decide_eq_false (fun h => c25 (Int.ofNat_lt.mpr h))
                                      clear c25
                                      have H' := Aside0.mk H
                                      clear H
                                      have p262 : 0 ≤ (x33_2 : Int) := of_decide_eq_true (by first | (with_reducible assumption) | assumption)
                                      have q262 : x33_2 < ((rd_L1 t255 x27_1).length : Int) := of_decide_eq_true (by first | (with_reducible assumption) | assumption)
                                      obtain ⟨ad262, e262, hx262_0⟩ := Kd.at_int HR258_0.out x33_2 p262 q262
                                      cases e262
                                      try replace hx262_0 := (HB.out.cell (World.block_lt_of_cell? w _ hx262_0)).trans hx262_0
                                      replace p262 := eq_true p262
                                      replace q262 := eq_true q262
                                      go_wp2_with (first | (go_at_call 43; (with_reducible refine (spec_l1Has.calls k2 _ _ l1 (rd (rd_L1 t255 x27_1) x33_2) true _ ?side1 ?side2 A18.out).mono ?_); (case side1 => repeat (first | exact (Kd.C_below HR1.out HB.out) | (with_reducible refine Kd.C_alloc ?_ _) | (with_reducible refine Kd.C_drewN ?_ _) | (with_reducible refine Kd.C_drew ?_))); (case side2 => exact HC1.out); rintro e w' ⟨rfl, ⟨nd, rfl⟩⟩; (try first | exact ⟨rfl, _, World.drewN_drewN _ _ _⟩ | exact ⟨rfl, _, Eq.trans (World.drewN_drewN _ _ _) (congrArg (World.drewN _) (Nat.add_assoc _ _ _))⟩); have p264 : 0 ≤ ((rd (rd_L1 t255 x27_1) x33_2) : Int) := of_decide_eq_true (by first | (with_reducible assumption) | assumption); have q264 : (rd (rd_L1 t255 x27_1) x33_2) < (t255.length : Int) := of_decide_eq_true (by first | (with_reducible assumption) | assumption); obtain ⟨ad264, A264_0, c264_0, e264, hx264_0, hl264_0, hi264_0⟩ := at_L1 (Kd.S_reads' HO_8.out).2.2 (rd (rd_L1 t255 x27_1) x33_2) p264 q264; obtain rfl : ad258 = ad264 := (by injection e264); obtain ⟨ce264, hce264, hMe264, hcc264⟩ := Kd.S_get HO_8.out [] (rd (rd_L1 t255 x27_1) x33_2) p264 (by first | exact q264 | exact of_decide_eq_true (by first | (with_reducible assumption) | assumption) | (have e_ := (Kd.S_reads' HO_8.out).1; omega)); obtain ⟨ve264_0, rfl, ge264_0⟩ := hMe264; have hv264_0 := hcc264 0 _ rfl; rw [Nat.add_zero, show ((Kd.slice 3 (Kd.int .i64))).sz = 1 from rfl, Nat.mul_one] at hv264_0; replace hv264_0 := Option.some.inj (hv264_0.symm.trans hx264_0); rw [hv264_0] at ge264_0; have HL264_0 := Aside0.mk (show Kd.R (Kd.int .i64) 3 _ _ _ _ (rd_L1 t255 (rd (rd_L1 t255 x27_1) x33_2)) from ge264_0); clear hv264_0 ge264_0; clear hcc264 hce264; have HR264_0 := Aside0.mk hi264_0; have HC264_0 := Aside0.mk hl264_0; clear hi264_0 hl264_0; replace p264 := eq_true p264; replace q264 := eq_true q264; have p265 : 0 ≤ (x12_2 : Int) := of_decide_eq_true (by first | (with_reducible assumption) | assumption); have q265 : x12_2 < (t255.length : Int) := of_decide_eq_true (by first | (with_reducible assumption) | assumption); obtain ⟨ad265, A265_0, c265_0, e265, hx265_0, hl265_0, hi265_0⟩ := at_L1 (Kd.S_reads' HO_8.out).2.2 x12_2 p265 q265; obtain rfl : ad258 = ad265 := (by injection e265); obtain ⟨ce265, hce265, hMe265, hcc265⟩ := Kd.S_get HO_8.out [] x12_2 p265 (by first | exact q265 | exact of_decide_eq_true (by first | (with_reducible assumption) | assumption) | (have e_ := (Kd.S_reads' HO_8.out).1; omega)); obtain ⟨ve265_0, rfl, ge265_0⟩ := hMe265; have hv265_0 := hcc265 0 _ rfl; rw [Nat.add_zero, show ((Kd.slice 3 (Kd.int .i64))).sz = 1 from rfl, Nat.mul_one] at hv265_0; replace hv265_0 := Option.some.inj (hv265_0.symm.trans hx265_0); rw [hv265_0] at ge265_0; have HL265_0 := Aside0.mk (show Kd.R (Kd.int .i64) 3 _ _ _ _ (rd_L1 t255 x12_2) from ge265_0); clear hv265_0 ge265_0; clear hcc265 hce265; have HR265_0 := Aside0.mk hi265_0; have HC265_0 := Aside0.mk hl265_0; clear hi265_0 hl265_0; replace p265 := eq_true p265; replace q265 := eq_true q265))
                                      have p264 : 0 ≤ ((rd (rd_L1 t255 x27_1) x33_2) : Int) := of_decide_eq_true (by first | (with_reducible assumption) | assumption)
                                      have q264 : (rd (rd_L1 t255 x27_1) x33_2) < (t255.length : Int) := of_decide_eq_true (by first | (with_reducible assumption) | assumption)
                                      obtain ⟨ad264, A264_0, c264_0, e264, hx264_0, hl264_0, hi264_0⟩ := at_L1 (Kd.S_reads' HO_8.out).2.2 (rd (rd_L1 t255 x27_1) x33_2) p264 q264
                                      obtain rfl : ad258 = ad264 := (by injection e264)
                                      obtain ⟨ce264, hce264, hMe264, hcc264⟩ := Kd.S_get HO_8.out [] (rd (rd_L1 t255 x27_1) x33_2) p264 (by first | exact q264 | exact of_decide_eq_true (by first | (with_reducible assumption) | assumption) | (have e_ := (Kd.S_reads' HO_8.out).1; omega))
                                      obtain ⟨ve264_0, rfl, ge264_0⟩ := hMe264
                                      have hv264_0 := hcc264 0 _ rfl
                                      rw [Nat.add_zero, show ((Kd.slice 3 (Kd.int .i64))).sz = 1 from rfl, Nat.mul_one] at hv264_0
                                      replace hv264_0 := Option.some.inj (hv264_0.symm.trans hx264_0)
                                      rw [hv264_0] at ge264_0
                                      have HL264_0 := Aside0.mk (show Kd.R (Kd.int .i64) 3 _ _ _ _ (rd_L1 t255 (rd (rd_L1 t255 x27_1) x33_2)) from ge264_0)
                                      clear hv264_0 ge264_0
                                      clear hcc264 hce264
                                      have HR264_0 := Aside0.mk hi264_0
                                      have HC264_0 := Aside0.mk hl264_0
                                      clear hi264_0 hl264_0
                                      replace p264 := eq_true p264
                                      replace q264 := eq_true q264
                                      have p265 : 0 ≤ (x12_2 : Int) := of_decide_eq_true (by first | (with_reducible assumption) | assumption)
                                      have q265 : x12_2 < (t255.length : Int) := of_decide_eq_true (by first | (with_reducible assumption) | assumption)
                                      obtain ⟨ad265, A265_0, c265_0, e265, hx265_0, hl265_0, hi265_0⟩ := at_L1 (Kd.S_reads' HO_8.out).2.2 x12_2 p265 q265
                                      obtain rfl : ad258 = ad265 := (by injection e265)
                                      obtain ⟨ce265, hce265, hMe265, hcc265⟩ := Kd.S_get HO_8.out [] x12_2 p265 (by first | exact q265 | exact of_decide_eq_true (by first | (with_reducible assumption) | assumption) | (have e_ := (Kd.S_reads' HO_8.out).1; omega))
                                      obtain ⟨ve265_0, rfl, ge265_0⟩ := hMe265
                                      have hv265_0 := hcc265 0 _ rfl
                                      rw [Nat.add_zero, show ((Kd.slice 3 (Kd.int .i64))).sz = 1 from rfl, Nat.mul_one] at hv265_0
                                      replace hv265_0 := Option.some.inj (hv265_0.symm.trans hx265_0)
                                      rw [hv265_0] at ge265_0
                                      have HL265_0 := Aside0.mk (show Kd.R (Kd.int .i64) 3 _ _ _ _ (rd_L1 t255 x12_2) from ge265_0)
                                      clear hv265_0 ge265_0
                                      clear hcc265 hce265
                                      have HR265_0 := Aside0.mk hi265_0
                                      have HC265_0 := Aside0.mk hl265_0
                                      clear hi265_0 hl265_0
                                      replace p265 := eq_true p265
                                      replace q265 := eq_true q265
                                      repeat (go_quiet (first | (go_at_call 43; (with_reducible refine (spec_l1Has.calls k2 _ _ l1 (rd (rd_L1 t255 x27_1) x33_2) true _ ?side1 ?side2 A18.out).mono ?_); (case side1 => repeat (first | exact (Kd.C_below HR1.out HB.out) | (with_reducible refine Kd.C_alloc ?_ _) | (with_reducible refine Kd.C_drewN ?_ _) | (with_reducible refine Kd.C_drew ?_))); (case side2 => exact HC1.out); rintro e w' ⟨rfl, ⟨nd, rfl⟩⟩; (try first | exact ⟨rfl, _, World.drewN_drewN _ _ _⟩ | exact ⟨rfl, _, Eq.trans (World.drewN_drewN _ _ _) (congrArg (World.drewN _) (Nat.add_assoc _ _ _))⟩))); try go_wp2_with (first | (go_at_call 43; (with_reducible refine (spec_l1Has.calls k2 _ _ l1 (rd (rd_L1 t255 x27_1) x33_2) true _ ?side1 ?side2 A18.out).mono ?_); (case side1 => repeat (first | exact (Kd.C_below HR1.out HB.out) | (with_reducible refine Kd.C_alloc ?_ _) | (with_reducible refine Kd.C_drewN ?_ _) | (with_reducible refine Kd.C_drew ?_))); (case side2 => exact HC1.out); rintro e w' ⟨rfl, ⟨nd, rfl⟩⟩; (try first | exact ⟨rfl, _, World.drewN_drewN _ _ _⟩ | exact ⟨rfl, _, Eq.trans (World.drewN_drewN _ _ _) (congrArg (World.drewN _) (Nat.add_assoc _ _ _))⟩); have p264 : 0 ≤ ((rd (rd_L1 t255 x27_1) x33_2) : Int) := of_decide_eq_true (by first | (with_reducible assumption) | assumption); have q264 : (rd (rd_L1 t255 x27_1) x33_2) < (t255.length : Int) := of_decide_eq_true (by first | (with_reducible assumption) | assumption); obtain ⟨ad264, A264_0, c264_0, e264, hx264_0, hl264_0, hi264_0⟩ := at_L1 (Kd.S_reads' HO_8.out).2.2 (rd (rd_L1 t255 x27_1) x33_2) p264 q264; obtain rfl : ad258 = ad264 := (by injection e264); obtain ⟨ce264, hce264, hMe264, hcc264⟩ := Kd.S_get HO_8.out [] (rd (rd_L1 t255 x27_1) x33_2) p264 (by first | exact q264 | exact of_decide_eq_true (by first | (with_reducible assumption) | assumption) | (have e_ := (Kd.S_reads' HO_8.out).1; omega)); obtain ⟨ve264_0, rfl, ge264_0⟩ := hMe264; have hv264_0 := hcc264 0 _ rfl; rw [Nat.add_zero, show ((Kd.slice 3 (Kd.int .i64))).sz = 1 from rfl, Nat.mul_one] at hv264_0; replace hv264_0 := Option.some.inj (hv264_0.symm.trans hx264_0); rw [hv264_0] at ge264_0; have HL264_0 := Aside0.mk (show Kd.R (Kd.int .i64) 3 _ _ _ _ (rd_L1 t255 (rd (rd_L1 t255 x27_1) x33_2)) from ge264_0); clear hv264_0 ge264_0; clear hcc264 hce264; have HR264_0 := Aside0.mk hi264_0; have HC264_0 := Aside0.mk hl264_0; clear hi264_0 hl264_0; replace p264 := eq_true p264; replace q264 := eq_true q264; have p265 : 0 ≤ (x12_2 : Int) := of_decide_eq_true (by first | (with_reducible assumption) | assumption); have q265 : x12_2 < (t255.length : Int) := of_decide_eq_true (by first | (with_reducible assumption) | assumption); obtain ⟨ad265, A265_0, c265_0, e265, hx265_0, hl265_0, hi265_0⟩ := at_L1 (Kd.S_reads' HO_8.out).2.2 x12_2 p265 q265; obtain rfl : ad258 = ad265 := (by injection e265); obtain ⟨ce265, hce265, hMe265, hcc265⟩ := Kd.S_get HO_8.out [] x12_2 p265 (by first | exact q265 | exact of_decide_eq_true (by first | (with_reducible assumption) | assumption) | (have e_ := (Kd.S_reads' HO_8.out).1; omega)); obtain ⟨ve265_0, rfl, ge265_0⟩ := hMe265; have hv265_0 := hcc265 0 _ rfl; rw [Nat.add_zero, show ((Kd.slice 3 (Kd.int .i64))).sz = 1 from rfl, Nat.mul_one] at hv265_0; replace hv265_0 := Option.some.inj (hv265_0.symm.trans hx265_0); rw [hv265_0] at ge265_0; have HL265_0 := Aside0.mk (show Kd.R (Kd.int .i64) 3 _ _ _ _ (rd_L1 t255 x12_2) from ge265_0); clear hv265_0 ge265_0; clear hcc265 hce265; have HR265_0 := Aside0.mk hi265_0; have HC265_0 := Aside0.mk hl265_0; clear hi265_0 hl265_0; replace p265 := eq_true p265; replace q265 := eq_true q265)))
                                      go_roundg k2
                                      case measure => have := HK1.out; have := HK2.out; omega
                                      case rel => exact ⟨(x12_2), (wrap64 (x33_2 + 1)), (by first | rfl | (simp; done) | (simp [*]; done)), (by first | rfl | (simp; done) | (simp [*]; done)), H', ⟨by have := HK1.out; have := HK2.out; omega⟩, ⟨by (with_reducible repeat (first | apply Kd.R_alloc | apply Kd.R_drewN | apply Kd.R_drew)); exact HO_6.out⟩, ⟨by (with_reducible repeat (first | apply Kd.S_alloc | apply Kd.S_drewN | apply Kd.S_drew)); exact HO_8.out⟩, ⟨by (with_reducible repeat (first | apply Kd.R_alloc | apply Kd.R_drewN | apply Kd.R_drew)); exact HO_9.out⟩, ⟨by (with_reducible repeat (first | apply Kd.S_alloc | apply Kd.S_drewN | apply Kd.S_drew)); exact HO_25.out⟩, ⟨by (with_reducible repeat (first | refine blk_drewN ?_ _ | refine blk_drew ?_ | refine blk_alloc ?_ _)); exact BK250.out⟩, ⟨by repeat (first | (with_reducible exact HR258_0.out) | (with_reducible refine Kd.C_alloc ?_ _) | (with_reducible refine Kd.C_drewN ?_ _) | (with_reducible refine Kd.C_drew ?_) | exact HR258_0.out)⟩, ⟨by repeat (first | (with_reducible first | exact HB.out | apply below_alloc | apply pw_below_drewN | apply below_drew1 | refine below_set ?_ GE250.out) | exact HB.out)⟩⟩
                                  · rw [if_neg c24] at H
                                    exact absurd H (by simp)
                                · rw [if_neg c23] at H
                                  exact absurd H (by simp)
                              · rw [if_neg c22] at H
                                exact absurd H (by simp)
                            · rw [if_neg c21] at H
                              exact absurd H (by simp)
                        · replace c19 := Bool.eq_false_iff.mpr c19
                          subst c19
                          have H1 : ((spec_l1Has.f k2 t251 (rd (rd_L1 t255 x27_1) x33_2)).bind fun t266 => (if t266 = true then (if x12_2 < 0 then (spec_OwnerAt.l1 k2 l1 t251 t255 x9_1 (rd (rd_L1 t255 x27_1) x33_2) t255 (t255.length : Int) x27_1 (rd_L1 t255 x27_1) ((rd_L1 t255 x27_1).length : Int) (wrap64 (x33_2 + 1))) else (if 0 ≤ (rd (rd_L1 t255 x27_1) x33_2) then (if (rd (rd_L1 t255 x27_1) x33_2) < (t255.length : Int) then (if 0 ≤ x12_2 then (if x12_2 < (t255.length : Int) then (if ((rd_L1 t255 (rd (rd_L1 t255 x27_1) x33_2)).length : Int) > ((rd_L1 t255 x12_2).length : Int) then (spec_OwnerAt.l1 k2 l1 t251 t255 x9_1 (rd (rd_L1 t255 x27_1) x33_2) t255 (t255.length : Int) x27_1 (rd_L1 t255 x27_1) ((rd_L1 t255 x27_1).length : Int) (wrap64 (x33_2 + 1))) else (spec_OwnerAt.l1 k2 l1 t251 t255 x9_1 x12_2 t255 (t255.length : Int) x27_1 (rd_L1 t255 x27_1) ((rd_L1 t255 x27_1).length : Int) (wrap64 (x33_2 + 1)))) else (none)) else (none)) else (none)) else (none))) else (spec_OwnerAt.l1 k2 l1 t251 t255 x9_1 x12_2 t255 (t255.length : Int) x27_1 (rd_L1 t255 x27_1) ((rd_L1 t255 x27_1).length : Int) (wrap64 (x33_2 + 1))))) = some (r1, r2) := by rw [if_neg (show ¬ (false = true) by decide)] at H; exact H
                          clear H
                          have H := H1
                          clear H1
                          replace H := Option.bind_eq_some_iff.mp H
                          obtain ⟨t266, A260, H⟩ := H
                          replace H : (if t266 = true then (if x12_2 < 0 then (spec_OwnerAt.l1 k2 l1 t251 t255 x9_1 (rd (rd_L1 t255 x27_1) x33_2) t255 (t255.length : Int) x27_1 (rd_L1 t255 x27_1) ((rd_L1 t255 x27_1).length : Int) (wrap64 (x33_2 + 1))) else (if 0 ≤ (rd (rd_L1 t255 x27_1) x33_2) then (if (rd (rd_L1 t255 x27_1) x33_2) < (t255.length : Int) then (if 0 ≤ x12_2 then (if x12_2 < (t255.length : Int) then (if ((rd_L1 t255 (rd (rd_L1 t255 x27_1) x33_2)).length : Int) > ((rd_L1 t255 x12_2).length : Int) then (spec_OwnerAt.l1 k2 l1 t251 t255 x9_1 (rd (rd_L1 t255 x27_1) x33_2) t255 (t255.length : Int) x27_1 (rd_L1 t255 x27_1) ((rd_L1 t255 x27_1).length : Int) (wrap64 (x33_2 + 1))) else (spec_OwnerAt.l1 k2 l1 t251 t255 x9_1 x12_2 t255 (t255.length : Int) x27_1 (rd_L1 t255 x27_1) ((rd_L1 t255 x27_1).length : Int) (wrap64 (x33_2 + 1)))) else (none)) else (none)) else (none)) else (none))) else (spec_OwnerAt.l1 k2 l1 t251 t255 x9_1 x12_2 t255 (t255.length : Int) x27_1 (rd_L1 t255 x27_1) ((rd_L1 t255 x27_1).length : Int) (wrap64 (x33_2 + 1)))) = some (r1, r2) := H
                          have A26 := Aside0.mk A260
                          clear A260
                          by_cases c27 : t266 = true
                          · subst c27
                            have H1 : (if x12_2 < 0 then (spec_OwnerAt.l1 k2 l1 t251 t255 x9_1 (rd (rd_L1 t255 x27_1) x33_2) t255 (t255.length : Int) x27_1 (rd_L1 t255 x27_1) ((rd_L1 t255 x27_1).length : Int) (wrap64 (x33_2 + 1))) else (if 0 ≤ (rd (rd_L1 t255 x27_1) x33_2) then (if (rd (rd_L1 t255 x27_1) x33_2) < (t255.length : Int) then (if 0 ≤ x12_2 then (if x12_2 < (t255.length : Int) then (if ((rd_L1 t255 (rd (rd_L1 t255 x27_1) x33_2)).length : Int) > ((rd_L1 t255 x12_2).length : Int) then (spec_OwnerAt.l1 k2 l1 t251 t255 x9_1 (rd (rd_L1 t255 x27_1) x33_2) t255 (t255.length : Int) x27_1 (rd_L1 t255 x27_1) ((rd_L1 t255 x27_1).length : Int) (wrap64 (x33_2 + 1))) else (spec_OwnerAt.l1 k2 l1 t251 t255 x9_1 x12_2 t255 (t255.length : Int) x27_1 (rd_L1 t255 x27_1) ((rd_L1 t255 x27_1).length : Int) (wrap64 (x33_2 + 1)))) else (none)) else (none)) else (none)) else (none))) = some (r1, r2) := by rw [if_pos rfl] at H; exact H
                            clear H
                            have H := H1
                            clear H1
                            by_cases c28 : x12_2 < 0
                            · rw [if_pos c28] at H
                              have c28b0 : decide (x12_2 < 0) = true := decide_eq_true c28
                              clear c28
                              have H' := Aside0.mk H
                              clear H
                              have p262 : 0 ≤ (x33_2 : Int) := of_decide_eq_true (by first | (with_reducible assumption) | assumption)
                              have q262 : x33_2 < ((rd_L1 t255 x27_1).length : Int) := of_decide_eq_true (by first | (with_reducible assumption) | assumption)
                              obtain ⟨ad262, e262, hx262_0⟩ := Kd.at_int HR258_0.out x33_2 p262 q262
                              cases e262
                              try replace hx262_0 := (HB.out.cell (World.block_lt_of_cell? w _ hx262_0)).trans hx262_0
                              replace p262 := eq_true p262
                              replace q262 := eq_true q262
                              go_wp2_with (first | (go_at_call 43; (with_reducible refine (spec_l1Has.calls k2 _ _ l1 (rd (rd_L1 t255 x27_1) x33_2) false _ ?side1 ?side2 A18.out).mono ?_); (case side1 => repeat (first | exact (Kd.C_below HR1.out HB.out) | (with_reducible refine Kd.C_alloc ?_ _) | (with_reducible refine Kd.C_drewN ?_ _) | (with_reducible refine Kd.C_drew ?_))); (case side2 => exact HC1.out); rintro e w' ⟨rfl, ⟨nd, rfl⟩⟩; (try first | exact ⟨rfl, _, World.drewN_drewN _ _ _⟩ | exact ⟨rfl, _, Eq.trans (World.drewN_drewN _ _ _) (congrArg (World.drewN _) (Nat.add_assoc _ _ _))⟩); obtain ⟨Ao29, co29, eo29⟩ := Kd.R_slice HO_6.out; subst eo29) | (go_at_call 43; (with_reducible refine (spec_l1Has.calls k2 _ _ t251 (rd (rd_L1 t255 x27_1) x33_2) true _ ?side1 ?side2 A26.out).mono ?_); (case side1 => repeat (first | exact (Kd.R_reads' HO_6.out).2.2 | (with_reducible refine Kd.C_alloc ?_ _) | (with_reducible refine Kd.C_drewN ?_ _) | (with_reducible refine Kd.C_drew ?_))); (case side2 => exact (Kd.R_reads' HO_6.out).2.1); rintro e w' ⟨rfl, ⟨nd, rfl⟩⟩; (try first | exact ⟨rfl, _, World.drewN_drewN _ _ _⟩ | exact ⟨rfl, _, Eq.trans (World.drewN_drewN _ _ _) (congrArg (World.drewN _) (Nat.add_assoc _ _ _))⟩)))
                              obtain ⟨Ao29, co29, eo29⟩ := Kd.R_slice HO_6.out
                              subst eo29
                              repeat (go_quiet (first | (go_at_call 43; (with_reducible refine (spec_l1Has.calls k2 _ _ l1 (rd (rd_L1 t255 x27_1) x33_2) false _ ?side1 ?side2 A18.out).mono ?_); (case side1 => repeat (first | exact (Kd.C_below HR1.out HB.out) | (with_reducible refine Kd.C_alloc ?_ _) | (with_reducible refine Kd.C_drewN ?_ _) | (with_reducible refine Kd.C_drew ?_))); (case side2 => exact HC1.out); rintro e w' ⟨rfl, ⟨nd, rfl⟩⟩; (try first | exact ⟨rfl, _, World.drewN_drewN _ _ _⟩ | exact ⟨rfl, _, Eq.trans (World.drewN_drewN _ _ _) (congrArg (World.drewN _) (Nat.add_assoc _ _ _))⟩)) | (go_at_call 43; (with_reducible refine (spec_l1Has.calls k2 _ _ t251 (rd (rd_L1 t255 x27_1) x33_2) true _ ?side1 ?side2 A26.out).mono ?_); (case side1 => repeat (first | exact (Kd.R_reads' HO_6.out).2.2 | (with_reducible refine Kd.C_alloc ?_ _) | (with_reducible refine Kd.C_drewN ?_ _) | (with_reducible refine Kd.C_drew ?_))); (case side2 => exact (Kd.R_reads' HO_6.out).2.1); rintro e w' ⟨rfl, ⟨nd, rfl⟩⟩; (try first | exact ⟨rfl, _, World.drewN_drewN _ _ _⟩ | exact ⟨rfl, _, Eq.trans (World.drewN_drewN _ _ _) (congrArg (World.drewN _) (Nat.add_assoc _ _ _))⟩))); try go_wp2_with (first | (go_at_call 43; (with_reducible refine (spec_l1Has.calls k2 _ _ l1 (rd (rd_L1 t255 x27_1) x33_2) false _ ?side1 ?side2 A18.out).mono ?_); (case side1 => repeat (first | exact (Kd.C_below HR1.out HB.out) | (with_reducible refine Kd.C_alloc ?_ _) | (with_reducible refine Kd.C_drewN ?_ _) | (with_reducible refine Kd.C_drew ?_))); (case side2 => exact HC1.out); rintro e w' ⟨rfl, ⟨nd, rfl⟩⟩; (try first | exact ⟨rfl, _, World.drewN_drewN _ _ _⟩ | exact ⟨rfl, _, Eq.trans (World.drewN_drewN _ _ _) (congrArg (World.drewN _) (Nat.add_assoc _ _ _))⟩); obtain ⟨Ao29, co29, eo29⟩ := Kd.R_slice HO_6.out; subst eo29) | (go_at_call 43; (with_reducible refine (spec_l1Has.calls k2 _ _ t251 (rd (rd_L1 t255 x27_1) x33_2) true _ ?side1 ?side2 A26.out).mono ?_); (case side1 => repeat (first | exact (Kd.R_reads' HO_6.out).2.2 | (with_reducible refine Kd.C_alloc ?_ _) | (with_reducible refine Kd.C_drewN ?_ _) | (with_reducible refine Kd.C_drew ?_))); (case side2 => exact (Kd.R_reads' HO_6.out).2.1); rintro e w' ⟨rfl, ⟨nd, rfl⟩⟩; (try first | exact ⟨rfl, _, World.drewN_drewN _ _ _⟩ | exact ⟨rfl, _, Eq.trans (World.drewN_drewN _ _ _) (congrArg (World.drewN _) (Nat.add_assoc _ _ _))⟩))))
                              go_roundg k2
                              case measure => have := HK1.out; have := HK2.out; omega
                              case rel => exact ⟨(rd (rd_L1 t255 x27_1) x33_2), (wrap64 (x33_2 + 1)), (by first | rfl | (simp; done) | (simp [*]; done)), (by first | rfl | (simp; done) | (simp [*]; done)), H', ⟨by have := HK1.out; have := HK2.out; omega⟩, ⟨by (with_reducible repeat (first | apply Kd.R_alloc | apply Kd.R_drewN | apply Kd.R_drew)); exact HO_6.out⟩, ⟨by (with_reducible repeat (first | apply Kd.S_alloc | apply Kd.S_drewN | apply Kd.S_drew)); exact HO_8.out⟩, ⟨by (with_reducible repeat (first | apply Kd.R_alloc | apply Kd.R_drewN | apply Kd.R_drew)); exact HO_9.out⟩, ⟨by (with_reducible repeat (first | apply Kd.S_alloc | apply Kd.S_drewN | apply Kd.S_drew)); exact HO_25.out⟩, ⟨by (with_reducible repeat (first | refine blk_drewN ?_ _ | refine blk_drew ?_ | refine blk_alloc ?_ _)); exact BK250.out⟩, ⟨by repeat (first | (with_reducible exact HR258_0.out) | (with_reducible refine Kd.C_alloc ?_ _) | (with_reducible refine Kd.C_drewN ?_ _) | (with_reducible refine Kd.C_drew ?_) | exact HR258_0.out)⟩, ⟨by repeat (first | (with_reducible first | exact HB.out | apply below_alloc | apply pw_below_drewN | apply below_drew1 | refine below_set ?_ GE250.out) | exact HB.out)⟩⟩
                            · rw [if_neg c28] at H
                              have c28b0 : decide (x12_2 < 0) = false := decide_eq_false c28
                              clear c28
                              by_cases c30 : 0 ≤ (rd (rd_L1 t255 x27_1) x33_2)
                              · rw [if_pos c30] at H
                                have c30b0 : decide (0 ≤ (rd (rd_L1 t255 x27_1) x33_2)) = true := decide_eq_true c30
                                clear c30
                                by_cases c31 : (rd (rd_L1 t255 x27_1) x33_2) < (t255.length : Int)
                                · rw [if_pos c31] at H
                                  have c31b0 : decide ((rd (rd_L1 t255 x27_1) x33_2) < (t255.length : Int)) = true := decide_eq_true c31
                                  clear c31
                                  by_cases c32 : 0 ≤ x12_2
                                  · rw [if_pos c32] at H
                                    have c32b0 : decide (0 ≤ x12_2) = true := decide_eq_true c32
                                    clear c32
                                    by_cases c33 : x12_2 < (t255.length : Int)
                                    · rw [if_pos c33] at H
                                      have c33b0 : decide (x12_2 < (t255.length : Int)) = true := decide_eq_true c33
                                      clear c33
                                      by_cases c34 : ((rd_L1 t255 (rd (rd_L1 t255 x27_1) x33_2)).length : Int) > ((rd_L1 t255 x12_2).length : Int)
                                      · rw [if_pos c34] at H
                                        have c34b0 : decide (((rd_L1 t255 x12_2).length : Int) < ((rd_L1 t255 (rd (rd_L1 t255 x27_1) x33_2)).length : Int)) = true := decide_eq_true c34
                                        have c34b1 : decide ((rd_L1 t255 x12_2).length < (rd_L1 t255 (rd (rd_L1 t255 x27_1) x33_2)).length) = true := decide_eq_true (Int.ofNat_lt.mp c34)
                                        clear c34
                                        have H' := Aside0.mk H
                                        clear H
                                        have p262 : 0 ≤ (x33_2 : Int) := of_decide_eq_true (by first | (with_reducible assumption) | assumption)
                                        have q262 : x33_2 < ((rd_L1 t255 x27_1).length : Int) := of_decide_eq_true (by first | (with_reducible assumption) | assumption)
                                        obtain ⟨ad262, e262, hx262_0⟩ := Kd.at_int HR258_0.out x33_2 p262 q262
                                        cases e262
                                        try replace hx262_0 := (HB.out.cell (World.block_lt_of_cell? w _ hx262_0)).trans hx262_0
                                        replace p262 := eq_true p262
                                        replace q262 := eq_true q262
                                        go_wp2_with (first | (go_at_call 43; (with_reducible refine (spec_l1Has.calls k2 _ _ l1 (rd (rd_L1 t255 x27_1) x33_2) false _ ?side1 ?side2 A18.out).mono ?_); (case side1 => repeat (first | exact (Kd.C_below HR1.out HB.out) | (with_reducible refine Kd.C_alloc ?_ _) | (with_reducible refine Kd.C_drewN ?_ _) | (with_reducible refine Kd.C_drew ?_))); (case side2 => exact HC1.out); rintro e w' ⟨rfl, ⟨nd, rfl⟩⟩; (try first | exact ⟨rfl, _, World.drewN_drewN _ _ _⟩ | exact ⟨rfl, _, Eq.trans (World.drewN_drewN _ _ _) (congrArg (World.drewN _) (Nat.add_assoc _ _ _))⟩); obtain ⟨Ao35, co35, eo35⟩ := Kd.R_slice HO_6.out; subst eo35) | (go_at_call 43; (with_reducible refine (spec_l1Has.calls k2 _ _ t251 (rd (rd_L1 t255 x27_1) x33_2) true _ ?side1 ?side2 A26.out).mono ?_); (case side1 => repeat (first | exact (Kd.R_reads' HO_6.out).2.2 | (with_reducible refine Kd.C_alloc ?_ _) | (with_reducible refine Kd.C_drewN ?_ _) | (with_reducible refine Kd.C_drew ?_))); (case side2 => exact (Kd.R_reads' HO_6.out).2.1); rintro e w' ⟨rfl, ⟨nd, rfl⟩⟩; (try first | exact ⟨rfl, _, World.drewN_drewN _ _ _⟩ | exact ⟨rfl, _, Eq.trans (World.drewN_drewN _ _ _) (congrArg (World.drewN _) (Nat.add_assoc _ _ _))⟩); have p267 : 0 ≤ ((rd (rd_L1 t255 x27_1) x33_2) : Int) := of_decide_eq_true (by first | (with_reducible assumption) | assumption); have q267 : (rd (rd_L1 t255 x27_1) x33_2) < (t255.length : Int) := of_decide_eq_true (by first | (with_reducible assumption) | assumption); obtain ⟨ad267, A267_0, c267_0, e267, hx267_0, hl267_0, hi267_0⟩ := at_L1 (Kd.S_reads' HO_8.out).2.2 (rd (rd_L1 t255 x27_1) x33_2) p267 q267; obtain rfl : ad258 = ad267 := (by injection e267); obtain ⟨ce267, hce267, hMe267, hcc267⟩ := Kd.S_get HO_8.out [] (rd (rd_L1 t255 x27_1) x33_2) p267 (by first | exact q267 | exact of_decide_eq_true (by first | (with_reducible assumption) | assumption) | (have e_ := (Kd.S_reads' HO_8.out).1; omega)); obtain ⟨ve267_0, rfl, ge267_0⟩ := hMe267; have hv267_0 := hcc267 0 _ rfl; rw [Nat.add_zero, show ((Kd.slice 3 (Kd.int .i64))).sz = 1 from rfl, Nat.mul_one] at hv267_0; replace hv267_0 := Option.some.inj (hv267_0.symm.trans hx267_0); rw [hv267_0] at ge267_0; have HL267_0 := Aside0.mk (show Kd.R (Kd.int .i64) 3 _ _ _ _ (rd_L1 t255 (rd (rd_L1 t255 x27_1) x33_2)) from ge267_0); clear hv267_0 ge267_0; clear hcc267 hce267; have HR267_0 := Aside0.mk hi267_0; have HC267_0 := Aside0.mk hl267_0; clear hi267_0 hl267_0; replace p267 := eq_true p267; replace q267 := eq_true q267; have p268 : 0 ≤ (x12_2 : Int) := of_decide_eq_true (by first | (with_reducible assumption) | assumption); have q268 : x12_2 < (t255.length : Int) := of_decide_eq_true (by first | (with_reducible assumption) | assumption); obtain ⟨ad268, A268_0, c268_0, e268, hx268_0, hl268_0, hi268_0⟩ := at_L1 (Kd.S_reads' HO_8.out).2.2 x12_2 p268 q268; obtain rfl : ad258 = ad268 := (by injection e268); obtain ⟨ce268, hce268, hMe268, hcc268⟩ := Kd.S_get HO_8.out [] x12_2 p268 (by first | exact q268 | exact of_decide_eq_true (by first | (with_reducible assumption) | assumption) | (have e_ := (Kd.S_reads' HO_8.out).1; omega)); obtain ⟨ve268_0, rfl, ge268_0⟩ := hMe268; have hv268_0 := hcc268 0 _ rfl; rw [Nat.add_zero, show ((Kd.slice 3 (Kd.int .i64))).sz = 1 from rfl, Nat.mul_one] at hv268_0; replace hv268_0 := Option.some.inj (hv268_0.symm.trans hx268_0); rw [hv268_0] at ge268_0; have HL268_0 := Aside0.mk (show Kd.R (Kd.int .i64) 3 _ _ _ _ (rd_L1 t255 x12_2) from ge268_0); clear hv268_0 ge268_0; clear hcc268 hce268; have HR268_0 := Aside0.mk hi268_0; have HC268_0 := Aside0.mk hl268_0; clear hi268_0 hl268_0; replace p268 := eq_true p268; replace q268 := eq_true q268))
                                        obtain ⟨Ao35, co35, eo35⟩ := Kd.R_slice HO_6.out
                                        subst eo35
                                        have p267 : 0 ≤ ((rd (rd_L1 t255 x27_1) x33_2) : Int) := of_decide_eq_true (by first | (with_reducible assumption) | assumption)
                                        have q267 : (rd (rd_L1 t255 x27_1) x33_2) < (t255.length : Int) := of_decide_eq_true (by first | (with_reducible assumption) | assumption)
                                        obtain ⟨ad267, A267_0, c267_0, e267, hx267_0, hl267_0, hi267_0⟩ := at_L1 (Kd.S_reads' HO_8.out).2.2 (rd (rd_L1 t255 x27_1) x33_2) p267 q267
                                        obtain rfl : ad258 = ad267 := (by injection e267)
                                        obtain ⟨ce267, hce267, hMe267, hcc267⟩ := Kd.S_get HO_8.out [] (rd (rd_L1 t255 x27_1) x33_2) p267 (by first | exact q267 | exact of_decide_eq_true (by first | (with_reducible assumption) | assumption) | (have e_ := (Kd.S_reads' HO_8.out).1; omega))
                                        obtain ⟨ve267_0, rfl, ge267_0⟩ := hMe267
                                        have hv267_0 := hcc267 0 _ rfl
                                        rw [Nat.add_zero, show ((Kd.slice 3 (Kd.int .i64))).sz = 1 from rfl, Nat.mul_one] at hv267_0
                                        replace hv267_0 := Option.some.inj (hv267_0.symm.trans hx267_0)
                                        rw [hv267_0] at ge267_0
                                        have HL267_0 := Aside0.mk (show Kd.R (Kd.int .i64) 3 _ _ _ _ (rd_L1 t255 (rd (rd_L1 t255 x27_1) x33_2)) from ge267_0)
                                        clear hv267_0 ge267_0
                                        clear hcc267 hce267
                                        have HR267_0 := Aside0.mk hi267_0
                                        have HC267_0 := Aside0.mk hl267_0
                                        clear hi267_0 hl267_0
                                        replace p267 := eq_true p267
                                        replace q267 := eq_true q267
                                        have p268 : 0 ≤ (x12_2 : Int) := of_decide_eq_true (by first | (with_reducible assumption) | assumption)
                                        have q268 : x12_2 < (t255.length : Int) := of_decide_eq_true (by first | (with_reducible assumption) | assumption)
                                        obtain ⟨ad268, A268_0, c268_0, e268, hx268_0, hl268_0, hi268_0⟩ := at_L1 (Kd.S_reads' HO_8.out).2.2 x12_2 p268 q268
                                        obtain rfl : ad258 = ad268 := (by injection e268)
                                        obtain ⟨ce268, hce268, hMe268, hcc268⟩ := Kd.S_get HO_8.out [] x12_2 p268 (by first | exact q268 | exact of_decide_eq_true (by first | (with_reducible assumption) | assumption) | (have e_ := (Kd.S_reads' HO_8.out).1; omega))
                                        obtain ⟨ve268_0, rfl, ge268_0⟩ := hMe268
                                        have hv268_0 := hcc268 0 _ rfl
                                        rw [Nat.add_zero, show ((Kd.slice 3 (Kd.int .i64))).sz = 1 from rfl, Nat.mul_one] at hv268_0
                                        replace hv268_0 := Option.some.inj (hv268_0.symm.trans hx268_0)
                                        rw [hv268_0] at ge268_0
                                        have HL268_0 := Aside0.mk (show Kd.R (Kd.int .i64) 3 _ _ _ _ (rd_L1 t255 x12_2) from ge268_0)
                                        clear hv268_0 ge268_0
                                        clear hcc268 hce268
                                        have HR268_0 := Aside0.mk hi268_0
                                        have HC268_0 := Aside0.mk hl268_0
                                        clear hi268_0 hl268_0
                                        replace p268 := eq_true p268
                                        replace q268 := eq_true q268
                                        repeat (go_quiet (first | (go_at_call 43; (with_reducible refine (spec_l1Has.calls k2 _ _ l1 (rd (rd_L1 t255 x27_1) x33_2) false _ ?side1 ?side2 A18.out).mono ?_); (case side1 => repeat (first | exact (Kd.C_below HR1.out HB.out) | (with_reducible refine Kd.C_alloc ?_ _) | (with_reducible refine Kd.C_drewN ?_ _) | (with_reducible refine Kd.C_drew ?_))); (case side2 => exact HC1.out); rintro e w' ⟨rfl, ⟨nd, rfl⟩⟩; (try first | exact ⟨rfl, _, World.drewN_drewN _ _ _⟩ | exact ⟨rfl, _, Eq.trans (World.drewN_drewN _ _ _) (congrArg (World.drewN _) (Nat.add_assoc _ _ _))⟩)) | (go_at_call 43; (with_reducible refine (spec_l1Has.calls k2 _ _ t251 (rd (rd_L1 t255 x27_1) x33_2) true _ ?side1 ?side2 A26.out).mono ?_); (case side1 => repeat (first | exact (Kd.R_reads' HO_6.out).2.2 | (with_reducible refine Kd.C_alloc ?_ _) | (with_reducible refine Kd.C_drewN ?_ _) | (with_reducible refine Kd.C_drew ?_))); (case side2 => exact (Kd.R_reads' HO_6.out).2.1); rintro e w' ⟨rfl, ⟨nd, rfl⟩⟩; (try first | exact ⟨rfl, _, World.drewN_drewN _ _ _⟩ | exact ⟨rfl, _, Eq.trans (World.drewN_drewN _ _ _) (congrArg (World.drewN _) (Nat.add_assoc _ _ _))⟩))); try go_wp2_with (first | (go_at_call 43; (with_reducible refine (spec_l1Has.calls k2 _ _ l1 (rd (rd_L1 t255 x27_1) x33_2) false _ ?side1 ?side2 A18.out).mono ?_); (case side1 => repeat (first | exact (Kd.C_below HR1.out HB.out) | (with_reducible refine Kd.C_alloc ?_ _) | (with_reducible refine Kd.C_drewN ?_ _) | (with_reducible refine Kd.C_drew ?_))); (case side2 => exact HC1.out); rintro e w' ⟨rfl, ⟨nd, rfl⟩⟩; (try first | exact ⟨rfl, _, World.drewN_drewN _ _ _⟩ | exact ⟨rfl, _, Eq.trans (World.drewN_drewN _ _ _) (congrArg (World.drewN _) (Nat.add_assoc _ _ _))⟩); obtain ⟨Ao35, co35, eo35⟩ := Kd.R_slice HO_6.out; subst eo35) | (go_at_call 43; (with_reducible refine (spec_l1Has.calls k2 _ _ t251 (rd (rd_L1 t255 x27_1) x33_2) true _ ?side1 ?side2 A26.out).mono ?_); (case side1 => repeat (first | exact (Kd.R_reads' HO_6.out).2.2 | (with_reducible refine Kd.C_alloc ?_ _) | (with_reducible refine Kd.C_drewN ?_ _) | (with_reducible refine Kd.C_drew ?_))); (case side2 => exact (Kd.R_reads' HO_6.out).2.1); rintro e w' ⟨rfl, ⟨nd, rfl⟩⟩; (try first | exact ⟨rfl, _, World.drewN_drewN _ _ _⟩ | exact ⟨rfl, _, Eq.trans (World.drewN_drewN _ _ _) (congrArg (World.drewN _) (Nat.add_assoc _ _ _))⟩); have p267 : 0 ≤ ((rd (rd_L1 t255 x27_1) x33_2) : Int) := of_decide_eq_true (by first | (with_reducible assumption) | assumption); have q267 : (rd (rd_L1 t255 x27_1) x33_2) < (t255.length : Int) := of_decide_eq_true (by first | (with_reducible assumption) | assumption); obtain ⟨ad267, A267_0, c267_0, e267, hx267_0, hl267_0, hi267_0⟩ := at_L1 (Kd.S_reads' HO_8.out).2.2 (rd (rd_L1 t255 x27_1) x33_2) p267 q267; obtain rfl : ad258 = ad267 := (by injection e267); obtain ⟨ce267, hce267, hMe267, hcc267⟩ := Kd.S_get HO_8.out [] (rd (rd_L1 t255 x27_1) x33_2) p267 (by first | exact q267 | exact of_decide_eq_true (by first | (with_reducible assumption) | assumption) | (have e_ := (Kd.S_reads' HO_8.out).1; omega)); obtain ⟨ve267_0, rfl, ge267_0⟩ := hMe267; have hv267_0 := hcc267 0 _ rfl; rw [Nat.add_zero, show ((Kd.slice 3 (Kd.int .i64))).sz = 1 from rfl, Nat.mul_one] at hv267_0; replace hv267_0 := Option.some.inj (hv267_0.symm.trans hx267_0); rw [hv267_0] at ge267_0; have HL267_0 := Aside0.mk (show Kd.R (Kd.int .i64) 3 _ _ _ _ (rd_L1 t255 (rd (rd_L1 t255 x27_1) x33_2)) from ge267_0); clear hv267_0 ge267_0; clear hcc267 hce267; have HR267_0 := Aside0.mk hi267_0; have HC267_0 := Aside0.mk hl267_0; clear hi267_0 hl267_0; replace p267 := eq_true p267; replace q267 := eq_true q267; have p268 : 0 ≤ (x12_2 : Int) := of_decide_eq_true (by first | (with_reducible assumption) | assumption); have q268 : x12_2 < (t255.length : Int) := of_decide_eq_true (by first | (with_reducible assumption) | assumption); obtain ⟨ad268, A268_0, c268_0, e268, hx268_0, hl268_0, hi268_0⟩ := at_L1 (Kd.S_reads' HO_8.out).2.2 x12_2 p268 q268; obtain rfl : ad258 = ad268 := (by injection e268); obtain ⟨ce268, hce268, hMe268, hcc268⟩ := Kd.S_get HO_8.out [] x12_2 p268 (by first | exact q268 | exact of_decide_eq_true (by first | (with_reducible assumption) | assumption) | (have e_ := (Kd.S_reads' HO_8.out).1; omega)); obtain ⟨ve268_0, rfl, ge268_0⟩ := hMe268; have hv268_0 := hcc268 0 _ rfl; rw [Nat.add_zero, show ((Kd.slice 3 (Kd.int .i64))).sz = 1 from rfl, Nat.mul_one] at hv268_0; replace hv268_0 := Option.some.inj (hv268_0.symm.trans hx268_0); rw [hv268_0] at ge268_0; have HL268_0 := Aside0.mk (show Kd.R (Kd.int .i64) 3 _ _ _ _ (rd_L1 t255 x12_2) from ge268_0); clear hv268_0 ge268_0; clear hcc268 hce268; have HR268_0 := Aside0.mk hi268_0; have HC268_0 := Aside0.mk hl268_0; clear hi268_0 hl268_0; replace p268 := eq_true p268; replace q268 := eq_true q268)))
                                        go_roundg k2
                                        case measure => have := HK1.out; have := HK2.out; omega
                                        case rel => exact ⟨(rd (rd_L1 t255 x27_1) x33_2), (wrap64 (x33_2 + 1)), (by first | rfl | (simp; done) | (simp [*]; done)), (by first | rfl | (simp; done) | (simp [*]; done)), H', ⟨by have := HK1.out; have := HK2.out; omega⟩, ⟨by (with_reducible repeat (first | apply Kd.R_alloc | apply Kd.R_drewN | apply Kd.R_drew)); exact HO_6.out⟩, ⟨by (with_reducible repeat (first | apply Kd.S_alloc | apply Kd.S_drewN | apply Kd.S_drew)); exact HO_8.out⟩, ⟨by (with_reducible repeat (first | apply Kd.R_alloc | apply Kd.R_drewN | apply Kd.R_drew)); exact HO_9.out⟩, ⟨by (with_reducible repeat (first | apply Kd.S_alloc | apply Kd.S_drewN | apply Kd.S_drew)); exact HO_25.out⟩, ⟨by (with_reducible repeat (first | refine blk_drewN ?_ _ | refine blk_drew ?_ | refine blk_alloc ?_ _)); exact BK250.out⟩, ⟨by repeat (first | (with_reducible exact HR258_0.out) | (with_reducible refine Kd.C_alloc ?_ _) | (with_reducible refine Kd.C_drewN ?_ _) | (with_reducible refine Kd.C_drew ?_) | exact HR258_0.out)⟩, ⟨by repeat (first | (with_reducible first | exact HB.out | apply below_alloc | apply pw_below_drewN | apply below_drew1 | refine below_set ?_ GE250.out) | exact HB.out)⟩⟩
                                      · rw [if_neg c34] at H
                                        have c34b0 : decide (((rd_L1 t255 x12_2).length : Int) < ((rd_L1 t255 (rd (rd_L1 t255 x27_1) x33_2)).length : Int)) = false := decide_eq_false c34
                                        have c34b1 : decide ((rd_L1 t255 x12_2).length < (rd_L1 t255 (rd (rd_L1 t255 x27_1) x33_2)).length) = false := decide_eq_false (fun h => c34 (Int.ofNat_lt.mpr h))
                                        clear c34
                                        have H' := Aside0.mk H
                                        clear H
                                        have p262 : 0 ≤ (x33_2 : Int) := of_decide_eq_true (by first | (with_reducible assumption) | assumption)
                                        have q262 : x33_2 < ((rd_L1 t255 x27_1).length : Int) := of_decide_eq_true (by first | (with_reducible assumption) | assumption)
                                        obtain ⟨ad262, e262, hx262_0⟩ := Kd.at_int HR258_0.out x33_2 p262 q262
                                        cases e262
                                        try replace hx262_0 := (HB.out.cell (World.block_lt_of_cell? w _ hx262_0)).trans hx262_0
                                        replace p262 := eq_true p262
                                        replace q262 := eq_true q262
                                        go_wp2_with (first | (go_at_call 43; (with_reducible refine (spec_l1Has.calls k2 _ _ l1 (rd (rd_L1 t255 x27_1) x33_2) false _ ?side1 ?side2 A18.out).mono ?_); (case side1 => repeat (first | exact (Kd.C_below HR1.out HB.out) | (with_reducible refine Kd.C_alloc ?_ _) | (with_reducible refine Kd.C_drewN ?_ _) | (with_reducible refine Kd.C_drew ?_))); (case side2 => exact HC1.out); rintro e w' ⟨rfl, ⟨nd, rfl⟩⟩; (try first | exact ⟨rfl, _, World.drewN_drewN _ _ _⟩ | exact ⟨rfl, _, Eq.trans (World.drewN_drewN _ _ _) (congrArg (World.drewN _) (Nat.add_assoc _ _ _))⟩); obtain ⟨Ao36, co36, eo36⟩ := Kd.R_slice HO_6.out; subst eo36) | (go_at_call 43; (with_reducible refine (spec_l1Has.calls k2 _ _ t251 (rd (rd_L1 t255 x27_1) x33_2) true _ ?side1 ?side2 A26.out).mono ?_); (case side1 => repeat (first | exact (Kd.R_reads' HO_6.out).2.2 | (with_reducible refine Kd.C_alloc ?_ _) | (with_reducible refine Kd.C_drewN ?_ _) | (with_reducible refine Kd.C_drew ?_))); (case side2 => exact (Kd.R_reads' HO_6.out).2.1); rintro e w' ⟨rfl, ⟨nd, rfl⟩⟩; (try first | exact ⟨rfl, _, World.drewN_drewN _ _ _⟩ | exact ⟨rfl, _, Eq.trans (World.drewN_drewN _ _ _) (congrArg (World.drewN _) (Nat.add_assoc _ _ _))⟩); have p267 : 0 ≤ ((rd (rd_L1 t255 x27_1) x33_2) : Int) := of_decide_eq_true (by first | (with_reducible assumption) | assumption); have q267 : (rd (rd_L1 t255 x27_1) x33_2) < (t255.length : Int) := of_decide_eq_true (by first | (with_reducible assumption) | assumption); obtain ⟨ad267, A267_0, c267_0, e267, hx267_0, hl267_0, hi267_0⟩ := at_L1 (Kd.S_reads' HO_8.out).2.2 (rd (rd_L1 t255 x27_1) x33_2) p267 q267; obtain rfl : ad258 = ad267 := (by injection e267); obtain ⟨ce267, hce267, hMe267, hcc267⟩ := Kd.S_get HO_8.out [] (rd (rd_L1 t255 x27_1) x33_2) p267 (by first | exact q267 | exact of_decide_eq_true (by first | (with_reducible assumption) | assumption) | (have e_ := (Kd.S_reads' HO_8.out).1; omega)); obtain ⟨ve267_0, rfl, ge267_0⟩ := hMe267; have hv267_0 := hcc267 0 _ rfl; rw [Nat.add_zero, show ((Kd.slice 3 (Kd.int .i64))).sz = 1 from rfl, Nat.mul_one] at hv267_0; replace hv267_0 := Option.some.inj (hv267_0.symm.trans hx267_0); rw [hv267_0] at ge267_0; have HL267_0 := Aside0.mk (show Kd.R (Kd.int .i64) 3 _ _ _ _ (rd_L1 t255 (rd (rd_L1 t255 x27_1) x33_2)) from ge267_0); clear hv267_0 ge267_0; clear hcc267 hce267; have HR267_0 := Aside0.mk hi267_0; have HC267_0 := Aside0.mk hl267_0; clear hi267_0 hl267_0; replace p267 := eq_true p267; replace q267 := eq_true q267; have p268 : 0 ≤ (x12_2 : Int) := of_decide_eq_true (by first | (with_reducible assumption) | assumption); have q268 : x12_2 < (t255.length : Int) := of_decide_eq_true (by first | (with_reducible assumption) | assumption); obtain ⟨ad268, A268_0, c268_0, e268, hx268_0, hl268_0, hi268_0⟩ := at_L1 (Kd.S_reads' HO_8.out).2.2 x12_2 p268 q268; obtain rfl : ad258 = ad268 := (by injection e268); obtain ⟨ce268, hce268, hMe268, hcc268⟩ := Kd.S_get HO_8.out [] x12_2 p268 (by first | exact q268 | exact of_decide_eq_true (by first | (with_reducible assumption) | assumption) | (have e_ := (Kd.S_reads' HO_8.out).1; omega)); obtain ⟨ve268_0, rfl, ge268_0⟩ := hMe268; have hv268_0 := hcc268 0 _ rfl; rw [Nat.add_zero, show ((Kd.slice 3 (Kd.int .i64))).sz = 1 from rfl, Nat.mul_one] at hv268_0; replace hv268_0 := Option.some.inj (hv268_0.symm.trans hx268_0); rw [hv268_0] at ge268_0; have HL268_0 := Aside0.mk (show Kd.R (Kd.int .i64) 3 _ _ _ _ (rd_L1 t255 x12_2) from ge268_0); clear hv268_0 ge268_0; clear hcc268 hce268; have HR268_0 := Aside0.mk hi268_0; have HC268_0 := Aside0.mk hl268_0; clear hi268_0 hl268_0; replace p268 := eq_true p268; replace q268 := eq_true q268))
                                        obtain ⟨Ao36, co36, eo36⟩ := Kd.R_slice HO_6.out
                                        subst eo36
                                        have p267 : 0 ≤ ((rd (rd_L1 t255 x27_1) x33_2) : Int) := of_decide_eq_true (by first | (with_reducible assumption) | assumption)
                                        have q267 : (rd (rd_L1 t255 x27_1) x33_2) < (t255.length : Int) := of_decide_eq_true (by first | (with_reducible assumption) | assumption)
                                        obtain ⟨ad267, A267_0, c267_0, e267, hx267_0, hl267_0, hi267_0⟩ := at_L1 (Kd.S_reads' HO_8.out).2.2 (rd (rd_L1 t255 x27_1) x33_2) p267 q267
                                        obtain rfl : ad258 = ad267 := (by injection e267)
                                        obtain ⟨ce267, hce267, hMe267, hcc267⟩ := Kd.S_get HO_8.out [] (rd (rd_L1 t255 x27_1) x33_2) p267 (by first | exact q267 | exact of_decide_eq_true (by first | (with_reducible assumption) | assumption) | (have e_ := (Kd.S_reads' HO_8.out).1; omega))
                                        obtain ⟨ve267_0, rfl, ge267_0⟩ := hMe267
                                        have hv267_0 := hcc267 0 _ rfl
                                        rw [Nat.add_zero, show ((Kd.slice 3 (Kd.int .i64))).sz = 1 from rfl, Nat.mul_one] at hv267_0
                                        replace hv267_0 := Option.some.inj (hv267_0.symm.trans hx267_0)
                                        rw [hv267_0] at ge267_0
                                        have HL267_0 := Aside0.mk (show Kd.R (Kd.int .i64) 3 _ _ _ _ (rd_L1 t255 (rd (rd_L1 t255 x27_1) x33_2)) from ge267_0)
                                        clear hv267_0 ge267_0
                                        clear hcc267 hce267
                                        have HR267_0 := Aside0.mk hi267_0
                                        have HC267_0 := Aside0.mk hl267_0
                                        clear hi267_0 hl267_0
                                        replace p267 := eq_true p267
                                        replace q267 := eq_true q267
                                        have p268 : 0 ≤ (x12_2 : Int) := of_decide_eq_true (by first | (with_reducible assumption) | assumption)
                                        have q268 : x12_2 < (t255.length : Int) := of_decide_eq_true (by first | (with_reducible assumption) | assumption)
                                        obtain ⟨ad268, A268_0, c268_0, e268, hx268_0, hl268_0, hi268_0⟩ := at_L1 (Kd.S_reads' HO_8.out).2.2 x12_2 p268 q268
                                        obtain rfl : ad258 = ad268 := (by injection e268)
                                        obtain ⟨ce268, hce268, hMe268, hcc268⟩ := Kd.S_get HO_8.out [] x12_2 p268 (by first | exact q268 | exact of_decide_eq_true (by first | (with_reducible assumption) | assumption) | (have e_ := (Kd.S_reads' HO_8.out).1; omega))
                                        obtain ⟨ve268_0, rfl, ge268_0⟩ := hMe268
                                        have hv268_0 := hcc268 0 _ rfl
                                        rw [Nat.add_zero, show ((Kd.slice 3 (Kd.int .i64))).sz = 1 from rfl, Nat.mul_one] at hv268_0
                                        replace hv268_0 := Option.some.inj (hv268_0.symm.trans hx268_0)
                                        rw [hv268_0] at ge268_0
                                        have HL268_0 := Aside0.mk (show Kd.R (Kd.int .i64) 3 _ _ _ _ (rd_L1 t255 x12_2) from ge268_0)
                                        clear hv268_0 ge268_0
                                        clear hcc268 hce268
                                        have HR268_0 := Aside0.mk hi268_0
                                        have HC268_0 := Aside0.mk hl268_0
                                        clear hi268_0 hl268_0
                                        replace p268 := eq_true p268
                                        replace q268 := eq_true q268
                                        repeat (go_quiet (first | (go_at_call 43; (with_reducible refine (spec_l1Has.calls k2 _ _ l1 (rd (rd_L1 t255 x27_1) x33_2) false _ ?side1 ?side2 A18.out).mono ?_); (case side1 => repeat (first | exact (Kd.C_below HR1.out HB.out) | (with_reducible refine Kd.C_alloc ?_ _) | (with_reducible refine Kd.C_drewN ?_ _) | (with_reducible refine Kd.C_drew ?_))); (case side2 => exact HC1.out); rintro e w' ⟨rfl, ⟨nd, rfl⟩⟩; (try first | exact ⟨rfl, _, World.drewN_drewN _ _ _⟩ | exact ⟨rfl, _, Eq.trans (World.drewN_drewN _ _ _) (congrArg (World.drewN _) (Nat.add_assoc _ _ _))⟩)) | (go_at_call 43; (with_reducible refine (spec_l1Has.calls k2 _ _ t251 (rd (rd_L1 t255 x27_1) x33_2) true _ ?side1 ?side2 A26.out).mono ?_); (case side1 => repeat (first | exact (Kd.R_reads' HO_6.out).2.2 | (with_reducible refine Kd.C_alloc ?_ _) | (with_reducible refine Kd.C_drewN ?_ _) | (with_reducible refine Kd.C_drew ?_))); (case side2 => exact (Kd.R_reads' HO_6.out).2.1); rintro e w' ⟨rfl, ⟨nd, rfl⟩⟩; (try first | exact ⟨rfl, _, World.drewN_drewN _ _ _⟩ | exact ⟨rfl, _, Eq.trans (World.drewN_drewN _ _ _) (congrArg (World.drewN _) (Nat.add_assoc _ _ _))⟩))); try go_wp2_with (first | (go_at_call 43; (with_reducible refine (spec_l1Has.calls k2 _ _ l1 (rd (rd_L1 t255 x27_1) x33_2) false _ ?side1 ?side2 A18.out).mono ?_); (case side1 => repeat (first | exact (Kd.C_below HR1.out HB.out) | (with_reducible refine Kd.C_alloc ?_ _) | (with_reducible refine Kd.C_drewN ?_ _) | (with_reducible refine Kd.C_drew ?_))); (case side2 => exact HC1.out); rintro e w' ⟨rfl, ⟨nd, rfl⟩⟩; (try first | exact ⟨rfl, _, World.drewN_drewN _ _ _⟩ | exact ⟨rfl, _, Eq.trans (World.drewN_drewN _ _ _) (congrArg (World.drewN _) (Nat.add_assoc _ _ _))⟩); obtain ⟨Ao36, co36, eo36⟩ := Kd.R_slice HO_6.out; subst eo36) | (go_at_call 43; (with_reducible refine (spec_l1Has.calls k2 _ _ t251 (rd (rd_L1 t255 x27_1) x33_2) true _ ?side1 ?side2 A26.out).mono ?_); (case side1 => repeat (first | exact (Kd.R_reads' HO_6.out).2.2 | (with_reducible refine Kd.C_alloc ?_ _) | (with_reducible refine Kd.C_drewN ?_ _) | (with_reducible refine Kd.C_drew ?_))); (case side2 => exact (Kd.R_reads' HO_6.out).2.1); rintro e w' ⟨rfl, ⟨nd, rfl⟩⟩; (try first | exact ⟨rfl, _, World.drewN_drewN _ _ _⟩ | exact ⟨rfl, _, Eq.trans (World.drewN_drewN _ _ _) (congrArg (World.drewN _) (Nat.add_assoc _ _ _))⟩); have p267 : 0 ≤ ((rd (rd_L1 t255 x27_1) x33_2) : Int) := of_decide_eq_true (by first | (with_reducible assumption) | assumption); have q267 : (rd (rd_L1 t255 x27_1) x33_2) < (t255.length : Int) := of_decide_eq_true (by first | (with_reducible assumption) | assumption); obtain ⟨ad267, A267_0, c267_0, e267, hx267_0, hl267_0, hi267_0⟩ := at_L1 (Kd.S_reads' HO_8.out).2.2 (rd (rd_L1 t255 x27_1) x33_2) p267 q267; obtain rfl : ad258 = ad267 := (by injection e267); obtain ⟨ce267, hce267, hMe267, hcc267⟩ := Kd.S_get HO_8.out [] (rd (rd_L1 t255 x27_1) x33_2) p267 (by first | exact q267 | exact of_decide_eq_true (by first | (with_reducible assumption) | assumption) | (have e_ := (Kd.S_reads' HO_8.out).1; omega)); obtain ⟨ve267_0, rfl, ge267_0⟩ := hMe267; have hv267_0 := hcc267 0 _ rfl; rw [Nat.add_zero, show ((Kd.slice 3 (Kd.int .i64))).sz = 1 from rfl, Nat.mul_one] at hv267_0; replace hv267_0 := Option.some.inj (hv267_0.symm.trans hx267_0); rw [hv267_0] at ge267_0; have HL267_0 := Aside0.mk (show Kd.R (Kd.int .i64) 3 _ _ _ _ (rd_L1 t255 (rd (rd_L1 t255 x27_1) x33_2)) from ge267_0); clear hv267_0 ge267_0; clear hcc267 hce267; have HR267_0 := Aside0.mk hi267_0; have HC267_0 := Aside0.mk hl267_0; clear hi267_0 hl267_0; replace p267 := eq_true p267; replace q267 := eq_true q267; have p268 : 0 ≤ (x12_2 : Int) := of_decide_eq_true (by first | (with_reducible assumption) | assumption); have q268 : x12_2 < (t255.length : Int) := of_decide_eq_true (by first | (with_reducible assumption) | assumption); obtain ⟨ad268, A268_0, c268_0, e268, hx268_0, hl268_0, hi268_0⟩ := at_L1 (Kd.S_reads' HO_8.out).2.2 x12_2 p268 q268; obtain rfl : ad258 = ad268 := (by injection e268); obtain ⟨ce268, hce268, hMe268, hcc268⟩ := Kd.S_get HO_8.out [] x12_2 p268 (by first | exact q268 | exact of_decide_eq_true (by first | (with_reducible assumption) | assumption) | (have e_ := (Kd.S_reads' HO_8.out).1; omega)); obtain ⟨ve268_0, rfl, ge268_0⟩ := hMe268; have hv268_0 := hcc268 0 _ rfl; rw [Nat.add_zero, show ((Kd.slice 3 (Kd.int .i64))).sz = 1 from rfl, Nat.mul_one] at hv268_0; replace hv268_0 := Option.some.inj (hv268_0.symm.trans hx268_0); rw [hv268_0] at ge268_0; have HL268_0 := Aside0.mk (show Kd.R (Kd.int .i64) 3 _ _ _ _ (rd_L1 t255 x12_2) from ge268_0); clear hv268_0 ge268_0; clear hcc268 hce268; have HR268_0 := Aside0.mk hi268_0; have HC268_0 := Aside0.mk hl268_0; clear hi268_0 hl268_0; replace p268 := eq_true p268; replace q268 := eq_true q268)))
                                        go_roundg k2
                                        case measure => have := HK1.out; have := HK2.out; omega
                                        case rel => exact ⟨(x12_2), (wrap64 (x33_2 + 1)), (by first | rfl | (simp; done) | (simp [*]; done)), (by first | rfl | (simp; done) | (simp [*]; done)), H', ⟨by have := HK1.out; have := HK2.out; omega⟩, ⟨by (with_reducible repeat (first | apply Kd.R_alloc | apply Kd.R_drewN | apply Kd.R_drew)); exact HO_6.out⟩, ⟨by (with_reducible repeat (first | apply Kd.S_alloc | apply Kd.S_drewN | apply Kd.S_drew)); exact HO_8.out⟩, ⟨by (with_reducible repeat (first | apply Kd.R_alloc | apply Kd.R_drewN | apply Kd.R_drew)); exact HO_9.out⟩, ⟨by (with_reducible repeat (first | apply Kd.S_alloc | apply Kd.S_drewN | apply Kd.S_drew)); exact HO_25.out⟩, ⟨by (with_reducible repeat (first | refine blk_drewN ?_ _ | refine blk_drew ?_ | refine blk_alloc ?_ _)); exact BK250.out⟩, ⟨by repeat (first | (with_reducible exact HR258_0.out) | (with_reducible refine Kd.C_alloc ?_ _) | (with_reducible refine Kd.C_drewN ?_ _) | (with_reducible refine Kd.C_drew ?_) | exact HR258_0.out)⟩, ⟨by repeat (first | (with_reducible first | exact HB.out | apply below_alloc | apply pw_below_drewN | apply below_drew1 | refine below_set ?_ GE250.out) | exact HB.out)⟩⟩
                                    · rw [if_neg c33] at H
                                      exact absurd H (by simp)
                                  · rw [if_neg c32] at H
                                    exact absurd H (by simp)
                                · rw [if_neg c31] at H
                                  exact absurd H (by simp)
                              · rw [if_neg c30] at H
                                exact absurd H (by simp)
                          · replace c27 := Bool.eq_false_iff.mpr c27
                            subst c27
                            have H1 : (spec_OwnerAt.l1 k2 l1 t251 t255 x9_1 x12_2 t255 (t255.length : Int) x27_1 (rd_L1 t255 x27_1) ((rd_L1 t255 x27_1).length : Int) (wrap64 (x33_2 + 1))) = some (r1, r2) := by rw [if_neg (show ¬ (false = true) by decide)] at H; exact H
                            clear H
                            have H := H1
                            clear H1
                            have H' := Aside0.mk H
                            clear H
                            have p262 : 0 ≤ (x33_2 : Int) := of_decide_eq_true (by first | (with_reducible assumption) | assumption)
                            have q262 : x33_2 < ((rd_L1 t255 x27_1).length : Int) := of_decide_eq_true (by first | (with_reducible assumption) | assumption)
                            obtain ⟨ad262, e262, hx262_0⟩ := Kd.at_int HR258_0.out x33_2 p262 q262
                            cases e262
                            try replace hx262_0 := (HB.out.cell (World.block_lt_of_cell? w _ hx262_0)).trans hx262_0
                            replace p262 := eq_true p262
                            replace q262 := eq_true q262
                            go_wp2_with (first | (go_at_call 43; (with_reducible refine (spec_l1Has.calls k2 _ _ l1 (rd (rd_L1 t255 x27_1) x33_2) false _ ?side1 ?side2 A18.out).mono ?_); (case side1 => repeat (first | exact (Kd.C_below HR1.out HB.out) | (with_reducible refine Kd.C_alloc ?_ _) | (with_reducible refine Kd.C_drewN ?_ _) | (with_reducible refine Kd.C_drew ?_))); (case side2 => exact HC1.out); rintro e w' ⟨rfl, ⟨nd, rfl⟩⟩; (try first | exact ⟨rfl, _, World.drewN_drewN _ _ _⟩ | exact ⟨rfl, _, Eq.trans (World.drewN_drewN _ _ _) (congrArg (World.drewN _) (Nat.add_assoc _ _ _))⟩); obtain ⟨Ao37, co37, eo37⟩ := Kd.R_slice HO_6.out; subst eo37) | (go_at_call 43; (with_reducible refine (spec_l1Has.calls k2 _ _ t251 (rd (rd_L1 t255 x27_1) x33_2) false _ ?side1 ?side2 A26.out).mono ?_); (case side1 => repeat (first | exact (Kd.R_reads' HO_6.out).2.2 | (with_reducible refine Kd.C_alloc ?_ _) | (with_reducible refine Kd.C_drewN ?_ _) | (with_reducible refine Kd.C_drew ?_))); (case side2 => exact (Kd.R_reads' HO_6.out).2.1); rintro e w' ⟨rfl, ⟨nd, rfl⟩⟩; (try first | exact ⟨rfl, _, World.drewN_drewN _ _ _⟩ | exact ⟨rfl, _, Eq.trans (World.drewN_drewN _ _ _) (congrArg (World.drewN _) (Nat.add_assoc _ _ _))⟩)))
                            obtain ⟨Ao37, co37, eo37⟩ := Kd.R_slice HO_6.out
                            subst eo37
                            repeat (go_quiet (first | (go_at_call 43; (with_reducible refine (spec_l1Has.calls k2 _ _ l1 (rd (rd_L1 t255 x27_1) x33_2) false _ ?side1 ?side2 A18.out).mono ?_); (case side1 => repeat (first | exact (Kd.C_below HR1.out HB.out) | (with_reducible refine Kd.C_alloc ?_ _) | (with_reducible refine Kd.C_drewN ?_ _) | (with_reducible refine Kd.C_drew ?_))); (case side2 => exact HC1.out); rintro e w' ⟨rfl, ⟨nd, rfl⟩⟩; (try first | exact ⟨rfl, _, World.drewN_drewN _ _ _⟩ | exact ⟨rfl, _, Eq.trans (World.drewN_drewN _ _ _) (congrArg (World.drewN _) (Nat.add_assoc _ _ _))⟩)) | (go_at_call 43; (with_reducible refine (spec_l1Has.calls k2 _ _ t251 (rd (rd_L1 t255 x27_1) x33_2) false _ ?side1 ?side2 A26.out).mono ?_); (case side1 => repeat (first | exact (Kd.R_reads' HO_6.out).2.2 | (with_reducible refine Kd.C_alloc ?_ _) | (with_reducible refine Kd.C_drewN ?_ _) | (with_reducible refine Kd.C_drew ?_))); (case side2 => exact (Kd.R_reads' HO_6.out).2.1); rintro e w' ⟨rfl, ⟨nd, rfl⟩⟩; (try first | exact ⟨rfl, _, World.drewN_drewN _ _ _⟩ | exact ⟨rfl, _, Eq.trans (World.drewN_drewN _ _ _) (congrArg (World.drewN _) (Nat.add_assoc _ _ _))⟩))); try go_wp2_with (first | (go_at_call 43; (with_reducible refine (spec_l1Has.calls k2 _ _ l1 (rd (rd_L1 t255 x27_1) x33_2) false _ ?side1 ?side2 A18.out).mono ?_); (case side1 => repeat (first | exact (Kd.C_below HR1.out HB.out) | (with_reducible refine Kd.C_alloc ?_ _) | (with_reducible refine Kd.C_drewN ?_ _) | (with_reducible refine Kd.C_drew ?_))); (case side2 => exact HC1.out); rintro e w' ⟨rfl, ⟨nd, rfl⟩⟩; (try first | exact ⟨rfl, _, World.drewN_drewN _ _ _⟩ | exact ⟨rfl, _, Eq.trans (World.drewN_drewN _ _ _) (congrArg (World.drewN _) (Nat.add_assoc _ _ _))⟩); obtain ⟨Ao37, co37, eo37⟩ := Kd.R_slice HO_6.out; subst eo37) | (go_at_call 43; (with_reducible refine (spec_l1Has.calls k2 _ _ t251 (rd (rd_L1 t255 x27_1) x33_2) false _ ?side1 ?side2 A26.out).mono ?_); (case side1 => repeat (first | exact (Kd.R_reads' HO_6.out).2.2 | (with_reducible refine Kd.C_alloc ?_ _) | (with_reducible refine Kd.C_drewN ?_ _) | (with_reducible refine Kd.C_drew ?_))); (case side2 => exact (Kd.R_reads' HO_6.out).2.1); rintro e w' ⟨rfl, ⟨nd, rfl⟩⟩; (try first | exact ⟨rfl, _, World.drewN_drewN _ _ _⟩ | exact ⟨rfl, _, Eq.trans (World.drewN_drewN _ _ _) (congrArg (World.drewN _) (Nat.add_assoc _ _ _))⟩))))
                            go_roundg k2
                            case measure => have := HK1.out; have := HK2.out; omega
                            case rel => exact ⟨(x12_2), (wrap64 (x33_2 + 1)), (by first | rfl | (simp; done) | (simp [*]; done)), (by first | rfl | (simp; done) | (simp [*]; done)), H', ⟨by have := HK1.out; have := HK2.out; omega⟩, ⟨by (with_reducible repeat (first | apply Kd.R_alloc | apply Kd.R_drewN | apply Kd.R_drew)); exact HO_6.out⟩, ⟨by (with_reducible repeat (first | apply Kd.S_alloc | apply Kd.S_drewN | apply Kd.S_drew)); exact HO_8.out⟩, ⟨by (with_reducible repeat (first | apply Kd.R_alloc | apply Kd.R_drewN | apply Kd.R_drew)); exact HO_9.out⟩, ⟨by (with_reducible repeat (first | apply Kd.S_alloc | apply Kd.S_drewN | apply Kd.S_drew)); exact HO_25.out⟩, ⟨by (with_reducible repeat (first | refine blk_drewN ?_ _ | refine blk_drew ?_ | refine blk_alloc ?_ _)); exact BK250.out⟩, ⟨by repeat (first | (with_reducible exact HR258_0.out) | (with_reducible refine Kd.C_alloc ?_ _) | (with_reducible refine Kd.C_drewN ?_ _) | (with_reducible refine Kd.C_drew ?_) | exact HR258_0.out)⟩, ⟨by repeat (first | (with_reducible first | exact HB.out | apply below_alloc | apply pw_below_drewN | apply below_drew1 | refine below_set ?_ GE250.out) | exact HB.out)⟩⟩
                      · rw [if_neg c17] at H
                        exact absurd H (by simp)
                    · rw [if_neg c16] at H
                      exact absurd H (by simp)
                  · rw [if_neg c15] at H
                    have c15b0 : decide (x33_2 < ((rd_L1 t255 x27_1).length : Int)) = false := decide_eq_false c15
                    clear c15
                    by_cases c38 : x9_1.length < 17592186044416
                    · rw [if_pos c38] at H
                      have LMc38 := Aside0.mk c38
                      clear c38
                      obtain ⟨y259, hy259⟩ : ∃ y_ : List Int, y_ = (x9_1 ++ [x12_2]) := ⟨_, rfl⟩
                      replace H : (spec_OwnerAt.l0 k2 l1 t251 t255 y259 t255 (t255.length : Int) (wrap64 (x27_1 + 1))) = some (r1, r2) := by first | (rw [hy259]; with_reducible exact H) | (have H2_ := (Option.bind_some _ _).symm.trans H; rw [hy259]; with_reducible exact H2_) | (have H2_ := (Option.bind_some _ _).symm.trans H; with_reducible exact H2_) | with_reducible exact H | (rw [hy259]; exact H) | exact H
                      have Ny259 := Aside0.mk hy259
                      clear hy259
                      have H' := Aside0.mk H
                      clear H
                      go_wp2_with (first | ((with_reducible refine gate_builtin (b := .append) (xs := #[.tmp 64, .tmp 66]) rfl ?_); (try (refine gate_guard (by rfl) ?_; dsimp only)); at_builtin; refine Kd.R_append (Kd.int .i64) (w0 := w) w.heap.size rfl (.tmp 64) (.tmp 66) 32 3 (.int .i64 0) 8 rfl Try.underlying32 info3 rfl (by decide) (by omega) u9 x9_1 x12_2 [.int .i64 x12_2] (fun k_ => some k_ ≠ (v252 : Value).ownBlock) (fun _ => False) rfl rfl ?aP (fun _ hk => hk.elim) ?aF ?aO ?aB ?aS ?aL ?_; (case aP => exact rfl); (case aB => exact (by repeat (first | (with_reducible first | exact HB.out | apply below_alloc | apply pw_below_drewN | apply below_drew1 | refine below_set ?_ GE250.out) | exact HB.out))); (case aF => exact (fun k_ hk => Kd.fresh' (Kd.R_lt (by (with_reducible repeat (first | apply Kd.R_alloc | apply Kd.R_drewN | apply Kd.R_drew)); exact HO_6.out)) k_ hk)); (case aO => exact (by (with_reducible repeat (first | apply Kd.R_alloc | apply Kd.R_drewN | apply Kd.R_drew)); exact HO_9.out)); (case aS => exact (below_size (by repeat (first | (with_reducible first | exact HB.out | apply below_alloc | apply pw_below_drewN | apply below_drew1 | refine below_set ?_ GE250.out) | exact HB.out)))); (case aL => have := LMc38.out; omega); intro v260 w39 ho hb hg hat; rw [← Ny259.out] at ho; have n0_ := Aside0.mk (Kd.R_after (ok := (fun _ => True)) (by (with_reducible repeat (first | apply Kd.R_alloc | apply Kd.R_drewN | apply Kd.R_drew)); exact Kd.R_mono HO_6.out (fun _ hk => ⟨trivial, hk⟩)) hg hat); have n1_ := Aside0.mk (Kd.S_after (ok := (fun k_ => some k_ ≠ (v252 : Value).ownBlock)) (by (with_reducible repeat (first | apply Kd.S_alloc | apply Kd.S_drewN | apply Kd.S_drew)); exact HO_8.out) hg hat); have n2_ := Aside0.mk (Kd.S_after (ok := (fun k_ => some k_ ≠ (v252 : Value).ownBlock)) (by (with_reducible repeat (first | apply Kd.S_alloc | apply Kd.S_drewN | apply Kd.S_drew)); exact HO_25.out) hg hat); have n3_ := Aside0.mk (blk_grown (g := gb250) (o := .cells #[.slice A0_0 l0_0.length c0_0] 28 (0, 0)) (by (with_reducible repeat (first | refine blk_drewN ?_ _ | refine blk_drew ?_ | refine blk_alloc ?_ _)); exact BK250.out) hg (Kd.R_ne HO_9.out BK250.out (by decide))); have n4_ := Aside0.mk (hb); have n5_ := Aside0.mk (ho); clear HO_6; clear HO_8; clear HO_25; clear BK250; clear HB; clear HO_9; have HO_6 := n0_; have HO_8 := n1_; have HO_25 := n2_; have BK250 := n3_; have HB := n4_; have HO261 := n5_; clear n0_ n1_ n2_ n3_ n4_ n5_; clear ho hb hg hat))
                      repeat (go_quiet (first | ((with_reducible refine gate_builtin (b := .append) (xs := #[.tmp 64, .tmp 66]) rfl ?_); (try (refine gate_guard (by rfl) ?_; dsimp only)); at_builtin; refine Kd.R_append (Kd.int .i64) (w0 := w) w.heap.size rfl (.tmp 64) (.tmp 66) 32 3 (.int .i64 0) 8 rfl Try.underlying32 info3 rfl (by decide) (by omega) u9 x9_1 x12_2 [.int .i64 x12_2] (fun k_ => some k_ ≠ (v252 : Value).ownBlock) (fun _ => False) rfl rfl ?aP (fun _ hk => hk.elim) ?aF ?aO ?aB ?aS ?aL ?_; (case aP => exact rfl); (case aB => exact (by repeat (first | (with_reducible first | exact HB.out | apply below_alloc | apply pw_below_drewN | apply below_drew1 | refine below_set ?_ GE250.out) | exact HB.out))); (case aF => exact (fun k_ hk => Kd.fresh' (Kd.R_lt (by (with_reducible repeat (first | apply Kd.R_alloc | apply Kd.R_drewN | apply Kd.R_drew)); exact HO_6.out)) k_ hk)); (case aO => exact (by (with_reducible repeat (first | apply Kd.R_alloc | apply Kd.R_drewN | apply Kd.R_drew)); exact HO_9.out)); (case aS => exact (below_size (by repeat (first | (with_reducible first | exact HB.out | apply below_alloc | apply pw_below_drewN | apply below_drew1 | refine below_set ?_ GE250.out) | exact HB.out)))); (case aL => have := LMc38.out; omega); intro v260 w39 ho hb hg hat; rw [← Ny259.out] at ho; have n0_ := Aside0.mk (Kd.R_after (ok := (fun _ => True)) (by (with_reducible repeat (first | apply Kd.R_alloc | apply Kd.R_drewN | apply Kd.R_drew)); exact Kd.R_mono HO_6.out (fun _ hk => ⟨trivial, hk⟩)) hg hat); have n1_ := Aside0.mk (Kd.S_after (ok := (fun k_ => some k_ ≠ (v252 : Value).ownBlock)) (by (with_reducible repeat (first | apply Kd.S_alloc | apply Kd.S_drewN | apply Kd.S_drew)); exact HO_8.out) hg hat); have n2_ := Aside0.mk (Kd.S_after (ok := (fun k_ => some k_ ≠ (v252 : Value).ownBlock)) (by (with_reducible repeat (first | apply Kd.S_alloc | apply Kd.S_drewN | apply Kd.S_drew)); exact HO_25.out) hg hat); have n3_ := Aside0.mk (blk_grown (g := gb250) (o := .cells #[.slice A0_0 l0_0.length c0_0] 28 (0, 0)) (by (with_reducible repeat (first | refine blk_drewN ?_ _ | refine blk_drew ?_ | refine blk_alloc ?_ _)); exact BK250.out) hg (Kd.R_ne HO_9.out BK250.out (by decide))); have n4_ := Aside0.mk (hb); have n5_ := Aside0.mk (ho); clear HO_6; clear HO_8; clear HO_25; clear BK250; clear HB; clear HO_9; have HO_6 := n0_; have HO_8 := n1_; have HO_25 := n2_; have BK250 := n3_; have HB := n4_; have HO261 := n5_; clear n0_ n1_ n2_ n3_ n4_ n5_; clear ho hb hg hat)); try go_wp2_with (first | ((with_reducible refine gate_builtin (b := .append) (xs := #[.tmp 64, .tmp 66]) rfl ?_); (try (refine gate_guard (by rfl) ?_; dsimp only)); at_builtin; refine Kd.R_append (Kd.int .i64) (w0 := w) w.heap.size rfl (.tmp 64) (.tmp 66) 32 3 (.int .i64 0) 8 rfl Try.underlying32 info3 rfl (by decide) (by omega) u9 x9_1 x12_2 [.int .i64 x12_2] (fun k_ => some k_ ≠ (v252 : Value).ownBlock) (fun _ => False) rfl rfl ?aP (fun _ hk => hk.elim) ?aF ?aO ?aB ?aS ?aL ?_; (case aP => exact rfl); (case aB => exact (by repeat (first | (with_reducible first | exact HB.out | apply below_alloc | apply pw_below_drewN | apply below_drew1 | refine below_set ?_ GE250.out) | exact HB.out))); (case aF => exact (fun k_ hk => Kd.fresh' (Kd.R_lt (by (with_reducible repeat (first | apply Kd.R_alloc | apply Kd.R_drewN | apply Kd.R_drew)); exact HO_6.out)) k_ hk)); (case aO => exact (by (with_reducible repeat (first | apply Kd.R_alloc | apply Kd.R_drewN | apply Kd.R_drew)); exact HO_9.out)); (case aS => exact (below_size (by repeat (first | (with_reducible first | exact HB.out | apply below_alloc | apply pw_below_drewN | apply below_drew1 | refine below_set ?_ GE250.out) | exact HB.out)))); (case aL => have := LMc38.out; omega); intro v260 w39 ho hb hg hat; rw [← Ny259.out] at ho; have n0_ := Aside0.mk (Kd.R_after (ok := (fun _ => True)) (by (with_reducible repeat (first | apply Kd.R_alloc | apply Kd.R_drewN | apply Kd.R_drew)); exact Kd.R_mono HO_6.out (fun _ hk => ⟨trivial, hk⟩)) hg hat); have n1_ := Aside0.mk (Kd.S_after (ok := (fun k_ => some k_ ≠ (v252 : Value).ownBlock)) (by (with_reducible repeat (first | apply Kd.S_alloc | apply Kd.S_drewN | apply Kd.S_drew)); exact HO_8.out) hg hat); have n2_ := Aside0.mk (Kd.S_after (ok := (fun k_ => some k_ ≠ (v252 : Value).ownBlock)) (by (with_reducible repeat (first | apply Kd.S_alloc | apply Kd.S_drewN | apply Kd.S_drew)); exact HO_25.out) hg hat); have n3_ := Aside0.mk (blk_grown (g := gb250) (o := .cells #[.slice A0_0 l0_0.length c0_0] 28 (0, 0)) (by (with_reducible repeat (first | refine blk_drewN ?_ _ | refine blk_drew ?_ | refine blk_alloc ?_ _)); exact BK250.out) hg (Kd.R_ne HO_9.out BK250.out (by decide))); have n4_ := Aside0.mk (hb); have n5_ := Aside0.mk (ho); clear HO_6; clear HO_8; clear HO_25; clear BK250; clear HB; clear HO_9; have HO_6 := n0_; have HO_8 := n1_; have HO_25 := n2_; have BK250 := n3_; have HB := n4_; have HO261 := n5_; clear n0_ n1_ n2_ n3_ n4_ n5_; clear ho hb hg hat)))
                      go_roundg k2
                      case measure => have := HK1.out; have := HK2.out; omega
                      case rel => exact ⟨(y259), (wrap64 (x27_1 + 1)), (by first | rfl | (simp; done) | (simp [*]; done)), H', ⟨by have := HK1.out; have := HK2.out; omega⟩, ⟨by (with_reducible repeat (first | apply Kd.R_alloc | apply Kd.R_drewN | apply Kd.R_drew)); exact Kd.R_mono HO_6.out (fun _ hk => hk.2)⟩, ⟨by (with_reducible repeat (first | apply Kd.S_alloc | apply Kd.S_drewN | apply Kd.S_drew)); exact HO_8.out⟩, ⟨by (with_reducible repeat (first | apply Kd.R_alloc | apply Kd.R_drewN | apply Kd.R_drew)); exact HO261.out⟩, ⟨by (with_reducible repeat (first | apply Kd.S_alloc | apply Kd.S_drewN | apply Kd.S_drew)); exact HO_25.out⟩, ⟨by (with_reducible repeat (first | refine blk_drewN ?_ _ | refine blk_drew ?_ | refine blk_alloc ?_ _)); exact BK250.out⟩, ⟨by repeat (first | (with_reducible first | exact HB.out | apply below_alloc | apply pw_below_drewN | apply below_drew1 | refine below_set ?_ GE250.out) | exact HB.out)⟩⟩
                    · rw [if_neg c38] at H
                      exact absurd H (by simp)
            · rw [if_neg c14] at H
              exact absurd H (by simp)
          · rw [if_neg c13] at H
            exact absurd H (by simp)
        · rw [if_neg c12] at H
          have c12b0 : decide (x27_1 < (t255.length : Int)) = false := decide_eq_false c12
          clear c12
          simp only [Option.some.injEq, Prod.mk.injEq] at H
          obtain ⟨rfl, rfl⟩ := H
          go_wp2
          repeat (go_quiet (fail); try go_wp2)
          go_ret2
          exact ⟨_, by first | rfl | (simp [errW_none, errW_some] <;> rfl) | (simp [*, errW_none, errW_some] <;> rfl), by (with_reducible repeat (first | apply Kd.R_alloc | apply Kd.R_drewN | apply Kd.R_drew)); exact Kd.R_mono HO_9.out (fun _ hk => trivial), by repeat (first | (with_reducible first | exact HB.out | apply below_alloc | apply pw_below_drewN | apply below_drew1 | refine below_set ?_ GE250.out) | exact HB.out)⟩
  · replace c4 := Bool.eq_false_iff.mpr c4
    subst c4
    have H1 : (some (([] : List Int), false)) = some (r1, r2) := by rw [if_neg (show ¬ (false = true) by decide)] at H; exact H
    clear H
    have H := H1
    clear H1
    simp only [Option.some.injEq, Prod.mk.injEq] at H
    obtain ⟨rfl, rfl⟩ := H
    go_enter Try.func20, Try.ntmps20
    go_wp2_with (first | ((with_reducible refine gate_dst (N := 2) rfl ?_); (try (refine gate_guard (by rfl) ?_; dsimp only)); refine box_event ?hg (N := 2) ?hd (cs := #[.slice A0_0 l0_0.length c0_0]) (t := 28) ?hr ?_; (case hd => rfl); (case hg => rfl); (case hr => first | (go_simp; done) | (go_simp; rfl)); intro gb250 hg w40 hbox hb; have n0_ := Aside0.mk (below_step (by repeat (first | (with_reducible first | exact HB.out | apply below_alloc | apply pw_below_drewN | apply below_drew1) | exact HB.out)) hb); have n1_ := Aside0.mk (hbox); have n2_ := Aside0.mk ((by rw [hg]; exact (below_size (by repeat (first | (with_reducible first | exact HB.out | apply below_alloc | apply pw_below_drewN | apply below_drew1) | exact HB.out))) : w.heap.size ≤ gb250)); have n3_ := Aside0.mk ((by rw [hg]; exact (below_size (by repeat (first | (with_reducible first | exact HB.out | apply below_alloc | apply pw_below_drewN | apply below_drew1) | exact HB.out))) : w.heap.size ≤ gb250)); clear HB; have HB := n0_; have BK250 := n1_; have GW250 := n2_; have GE250 := n3_; clear n0_ n1_ n2_ n3_; clear hb hbox hg; have hcz41_0 : w40.cell? ⟨gb250, 0, none⟩ = some (.slice A0_0 l0_0.length c0_0) := (blk_cell BK250.out 0).trans rfl; have hfz41_0 := blk_frozen BK250.out 0) | (go_at_call 13; (with_reducible refine (spec_JoinsOf.calls k _ _ l0_0 _ _ l1 t251 false _ ?side1 ?side2 ?side3 ?side4 A3.out).mono ?_); (case side1 => repeat (first | exact (Kd.C_below HR0_0.out HB.out) | (with_reducible refine Kd.C_alloc ?_ _) | (with_reducible refine Kd.C_drewN ?_ _) | (with_reducible refine Kd.C_drew ?_))); (case side2 => exact HC0_0.out); (case side3 => repeat (first | exact (Kd.C_below HR1.out HB.out) | (with_reducible refine Kd.C_alloc ?_ _) | (with_reducible refine Kd.C_drewN ?_ _) | (with_reducible refine Kd.C_drew ?_))); (case side4 => exact HC1.out); rintro e w42 ⟨v252, rfl, ho0, hb⟩; have n0_ := Aside0.mk (Kd.R_lower ho0 (below_size (by repeat (first | (with_reducible first | exact HB.out | apply below_alloc | apply pw_below_drewN | apply below_drew1 | refine below_set ?_ GE250.out) | exact HB.out)))); have n1_ := Aside0.mk (blk_below (g := gb250) (o := .cells #[.slice A0_0 l0_0.length c0_0] 28 (0, 0)) (by (with_reducible repeat (first | refine blk_drewN ?_ _ | refine blk_drew ?_ | refine blk_alloc ?_ _)); exact BK250.out) hb); have n2_ := Aside0.mk (below_step (by repeat (first | (with_reducible first | exact HB.out | apply below_alloc | apply pw_below_drewN | apply below_drew1 | refine below_set ?_ GE250.out) | exact HB.out)) hb); clear BK250; clear HB; have HO253 := n0_; have BK250 := n1_; have HB := n2_; clear n0_ n1_ n2_; (try clear hb); (try clear hb2); (try clear hk); (try clear hi); (try clear ho0)))
    repeat (go_quiet (first | ((with_reducible refine gate_dst (N := 2) rfl ?_); (try (refine gate_guard (by rfl) ?_; dsimp only)); refine box_event ?hg (N := 2) ?hd (cs := #[.slice A0_0 l0_0.length c0_0]) (t := 28) ?hr ?_; (case hd => rfl); (case hg => rfl); (case hr => first | (go_simp; done) | (go_simp; rfl)); intro gb250 hg w40 hbox hb; have n0_ := Aside0.mk (below_step (by repeat (first | (with_reducible first | exact HB.out | apply below_alloc | apply pw_below_drewN | apply below_drew1) | exact HB.out)) hb); have n1_ := Aside0.mk (hbox); have n2_ := Aside0.mk ((by rw [hg]; exact (below_size (by repeat (first | (with_reducible first | exact HB.out | apply below_alloc | apply pw_below_drewN | apply below_drew1) | exact HB.out))) : w.heap.size ≤ gb250)); have n3_ := Aside0.mk ((by rw [hg]; exact (below_size (by repeat (first | (with_reducible first | exact HB.out | apply below_alloc | apply pw_below_drewN | apply below_drew1) | exact HB.out))) : w.heap.size ≤ gb250)); clear HB; have HB := n0_; have BK250 := n1_; have GW250 := n2_; have GE250 := n3_; clear n0_ n1_ n2_ n3_; clear hb hbox hg; have hcz41_0 : w40.cell? ⟨gb250, 0, none⟩ = some (.slice A0_0 l0_0.length c0_0) := (blk_cell BK250.out 0).trans rfl; have hfz41_0 := blk_frozen BK250.out 0) | (go_at_call 13; (with_reducible refine (spec_JoinsOf.calls k _ _ l0_0 _ _ l1 t251 false _ ?side1 ?side2 ?side3 ?side4 A3.out).mono ?_); (case side1 => repeat (first | exact (Kd.C_below HR0_0.out HB.out) | (with_reducible refine Kd.C_alloc ?_ _) | (with_reducible refine Kd.C_drewN ?_ _) | (with_reducible refine Kd.C_drew ?_))); (case side2 => exact HC0_0.out); (case side3 => repeat (first | exact (Kd.C_below HR1.out HB.out) | (with_reducible refine Kd.C_alloc ?_ _) | (with_reducible refine Kd.C_drewN ?_ _) | (with_reducible refine Kd.C_drew ?_))); (case side4 => exact HC1.out); rintro e w42 ⟨v252, rfl, ho0, hb⟩; have n0_ := Aside0.mk (Kd.R_lower ho0 (below_size (by repeat (first | (with_reducible first | exact HB.out | apply below_alloc | apply pw_below_drewN | apply below_drew1 | refine below_set ?_ GE250.out) | exact HB.out)))); have n1_ := Aside0.mk (blk_below (g := gb250) (o := .cells #[.slice A0_0 l0_0.length c0_0] 28 (0, 0)) (by (with_reducible repeat (first | refine blk_drewN ?_ _ | refine blk_drew ?_ | refine blk_alloc ?_ _)); exact BK250.out) hb); have n2_ := Aside0.mk (below_step (by repeat (first | (with_reducible first | exact HB.out | apply below_alloc | apply pw_below_drewN | apply below_drew1 | refine below_set ?_ GE250.out) | exact HB.out)) hb); clear BK250; clear HB; have HO253 := n0_; have BK250 := n1_; have HB := n2_; clear n0_ n1_ n2_; (try clear hb); (try clear hb2); (try clear hk); (try clear hi); (try clear ho0))); try go_wp2_with (first | ((with_reducible refine gate_dst (N := 2) rfl ?_); (try (refine gate_guard (by rfl) ?_; dsimp only)); refine box_event ?hg (N := 2) ?hd (cs := #[.slice A0_0 l0_0.length c0_0]) (t := 28) ?hr ?_; (case hd => rfl); (case hg => rfl); (case hr => first | (go_simp; done) | (go_simp; rfl)); intro gb250 hg w40 hbox hb; have n0_ := Aside0.mk (below_step (by repeat (first | (with_reducible first | exact HB.out | apply below_alloc | apply pw_below_drewN | apply below_drew1) | exact HB.out)) hb); have n1_ := Aside0.mk (hbox); have n2_ := Aside0.mk ((by rw [hg]; exact (below_size (by repeat (first | (with_reducible first | exact HB.out | apply below_alloc | apply pw_below_drewN | apply below_drew1) | exact HB.out))) : w.heap.size ≤ gb250)); have n3_ := Aside0.mk ((by rw [hg]; exact (below_size (by repeat (first | (with_reducible first | exact HB.out | apply below_alloc | apply pw_below_drewN | apply below_drew1) | exact HB.out))) : w.heap.size ≤ gb250)); clear HB; have HB := n0_; have BK250 := n1_; have GW250 := n2_; have GE250 := n3_; clear n0_ n1_ n2_ n3_; clear hb hbox hg; have hcz41_0 : w40.cell? ⟨gb250, 0, none⟩ = some (.slice A0_0 l0_0.length c0_0) := (blk_cell BK250.out 0).trans rfl; have hfz41_0 := blk_frozen BK250.out 0) | (go_at_call 13; (with_reducible refine (spec_JoinsOf.calls k _ _ l0_0 _ _ l1 t251 false _ ?side1 ?side2 ?side3 ?side4 A3.out).mono ?_); (case side1 => repeat (first | exact (Kd.C_below HR0_0.out HB.out) | (with_reducible refine Kd.C_alloc ?_ _) | (with_reducible refine Kd.C_drewN ?_ _) | (with_reducible refine Kd.C_drew ?_))); (case side2 => exact HC0_0.out); (case side3 => repeat (first | exact (Kd.C_below HR1.out HB.out) | (with_reducible refine Kd.C_alloc ?_ _) | (with_reducible refine Kd.C_drewN ?_ _) | (with_reducible refine Kd.C_drew ?_))); (case side4 => exact HC1.out); rintro e w42 ⟨v252, rfl, ho0, hb⟩; have n0_ := Aside0.mk (Kd.R_lower ho0 (below_size (by repeat (first | (with_reducible first | exact HB.out | apply below_alloc | apply pw_below_drewN | apply below_drew1 | refine below_set ?_ GE250.out) | exact HB.out)))); have n1_ := Aside0.mk (blk_below (g := gb250) (o := .cells #[.slice A0_0 l0_0.length c0_0] 28 (0, 0)) (by (with_reducible repeat (first | refine blk_drewN ?_ _ | refine blk_drew ?_ | refine blk_alloc ?_ _)); exact BK250.out) hb); have n2_ := Aside0.mk (below_step (by repeat (first | (with_reducible first | exact HB.out | apply below_alloc | apply pw_below_drewN | apply below_drew1 | refine below_set ?_ GE250.out) | exact HB.out)) hb); clear BK250; clear HB; have HO253 := n0_; have BK250 := n1_; have HB := n2_; clear n0_ n1_ n2_; (try clear hb); (try clear hb2); (try clear hk); (try clear hi); (try clear ho0))))
    go_ret2
    exact ⟨_, by first | rfl | (simp [errW_none, errW_some] <;> rfl) | (simp [*, errW_none, errW_some] <;> rfl), by first | exact Kd.R_nil _ _ _ _ _ | exact Kd.N_nil _ _ _ _ _ | exact Kd.V_nil _ _ _ _ _ | exact Kd.Q_nil _ _ _ _ _ | exact Kd.S_nil _ _ _ _ _, by repeat (first | (with_reducible first | exact HB.out | apply below_alloc | apply pw_below_drewN | apply below_drew1 | refine below_set ?_ GE250.out) | exact HB.out)⟩
end Go.Proofs.Ytndkblahnihhjaa.P

namespace Go.Proofs.Ytndkblahnihhjaa.P
open Go.RowKit Go.Proofs.YtndkblahnihhjaaW.PrintWords Go.Proofs.YtndkblahnihhjaaW.PrintLast Go.Proofs.YtndkblahnihhjaaW.PrintMore
attribute [local go_sem] max2_int min2_int max_two min_two max_three min_three max_four min_four
def andF (bs : List Bool) (l : List Int) : List Bool := l.foldl (fun bs y => bs.set y.toNat true) bs
theorem andF_len : ∀ (l : List Int) (bs : List Bool), (andF bs l).length = bs.length
  | [], _ => rfl
  | y :: l, bs => by
    show (andF (bs.set y.toNat true) l).length = _
    rw [andF_len l, List.length_set]
theorem andF_get : ∀ (l : List Int) (bs : List Bool) (j : Nat), j < bs.length → (∀ y ∈ l, 0 ≤ y) → ((andF bs l).getD j false = true ↔ (bs.getD j false = true ∨ (j : Int) ∈ l))
  | [], bs, j, _, _ => by simp [andF]
  | y :: l, bs, j, hj, h0 => by
    show (andF (bs.set y.toNat true) l).getD j false = true ↔ _
    have hy := h0 y (by simp)
    rw [andF_get l _ j (by rw [List.length_set]; exact hj) (fun z hz => h0 z (by simp [hz])), List.mem_cons]
    by_cases e : y.toNat = j
    · have h1 : (bs.set y.toNat true).getD j false = true := by
        rw [List.getD_eq_getElem?_getD, List.getElem?_set, if_pos e, if_pos (by omega)]
        rfl
      have h2 : (j : Int) = y := by omega
      exact ⟨fun _ => .inr (.inl h2), fun _ => .inl h1⟩
    · have h1 : (bs.set y.toNat true).getD j false = bs.getD j false := by rw [List.getD_eq_getElem?_getD, List.getElem?_set_ne e, ← List.getD_eq_getElem?_getD]
      have h2 : ¬ (j : Int) = y := by omega
      rw [h1]
      constructor
      · rintro (h | h)
        · exact .inl h
        · exact .inr (.inr h)
      · rintro (h | h | h)
        · exact .inl h
        · exact absurd h h2
        · exact .inr h
set_option maxHeartbeats 8000000 in
set_option maxRecDepth 100000 in
theorem impl_and.calls (bs : List Bool) (AL : Option Addr) (cL : Nat) (l : List Int) (w : World) (hbs : bs.length = 12) (hrl : Kd.C (Kd.int .i64) w AL l.length l) (hcl : l.length ≤ cL) (hrng : ∀ y ∈ l, 0 ≤ y ∧ y < 12) :
    Calls Try.prog 48 #[.agg (H.bcells bs), .slice AL l.length cL] w fun e w' => e = .returned (.agg (H.bcells (andF bs l))) ∧ Below w.heap.size w w' := by
  have HRL := Aside0.mk hrl
  have HBL := Aside0.mk hbs
  have HRN := Aside0.mk hrng
  have HI := Aside0.mk (show (Try.prog.info? 63).map (·.size) = some 12 by kernel_rfl)
  have HO := Aside0.mk (H.Own.nil w)
  have hlr := hrl.2.1
  have HE := Aside0.mk (show andF bs l = andF bs (l.take l.length) by rw [List.take_length])
  have HST := Aside0.mk (fun i (hi : i < l.length) => show andF bs (l.take (i + 1)) = (andF bs (l.take i)).set (l.getD i 0).toNat true by
    have : l.take (i + 1) = l.take i ++ [l.getD i 0] := by rw [List.take_add_one, List.getElem?_eq_getElem hi, List.getD_eq_getElem?_getD, List.getElem?_eq_getElem hi]; rfl
    rw [this]
    unfold andF
    rw [List.foldl_append]
    rfl)
  have HAL := Aside0.mk (fun i => (andF_len (l.take i) bs).trans hbs)
  obtain ⟨fin, hfin⟩ : ∃ fin, andF bs l = fin := ⟨_, rfl⟩
  rw [hfin] at HE ⊢
  clear hrl hbs hrng hfin
  go_enter Try.func48, Try.ntmps48
  go_wp2_with (first | ((with_reducible refine gate_dst (N := 2) rfl ?_); refine H.own_box HO.out ?bxg (N := 2) ?bxd (cs := H.bcells bs) (t := 63) ?bxr ?_; (case bxd => rfl); (case bxg => rfl); (case bxr => first | (go_simp; done) | (go_simp; rfl)); intro gb w_ ho_ hb_; replace HO := Aside0.mk ho_; clear ho_ hb_) | ((with_reducible refine gate_dst (N := 4) rfl ?_); refine H.own_box HO.out ?bxg (N := 4) ?bxd (cs := H.bcells H.none12) (t := 63) ?bxr ?_; (case bxd => rfl); (case bxg => rfl); (case bxr => first | (go_simp; done) | (go_simp; rfl)); intro ga w_ ho_ hb_; replace HO := Aside0.mk ho_; clear ho_ hb_))
  go_loopw [9] (fun v9 wr => ∃ i : Nat, v9 = .int .i64 i ∧ i ≤ l.length ∧ Aside0 (H.Own w wr [(gb, H.bcells (andF bs (l.take i)), 63), (ga, H.bcells H.none12, 63)])) (fun v9 _ => l.length - (intOf v9).toNat)
  case atStart => exact ⟨0, rfl, Nat.zero_le _, HO⟩
  case round =>
    clear HO
    obtain ⟨i, rfl, hi, HO⟩ := hrel
    by_cases hlt : i < l.length
    · obtain ⟨ad, e1, hc⟩ := Kd.at_int HRL.out (i : Int) (by omega) (by omega)
      subst e1
      rw [Int.toNat_natCast] at hc
      have hd : rd l (i : Int) = l.getD i 0 := rfl
      rw [hd] at hc
      have hst := HST.out i hlt
      have hin := HRN.out _ (show l.getD i 0 ∈ l by rw [List.getD_eq_getElem?_getD, List.getElem?_eq_getElem hlt]; exact List.getElem_mem hlt)
      obtain ⟨x, hx⟩ : ∃ x : Nat, l.getD i 0 = (x : Int) := ⟨(l.getD i 0).toNat, by omega⟩
      rw [hx] at hc hst hin
      rw [Int.toNat_natCast] at hst
      have hcx := HO.out.old hc
      have HAT := Aside0.mk hst
      have HLI := Aside0.mk (HAL.out i)
      have hil : (i : Int) < (l.length : Int) := by omega
      have hx12 : (x : Int) < 12 := hin.2
      clear hd hc hst hx hin
      generalize andF bs (l.take i) = cur at HO HAT HLI
      go_wp2_with ((with_reducible refine gate_store (t := 4) (p := 14) rfl ?_); refine H.own_bput HO.out 0 rfl rfl rfl rfl rfl rfl (by kernel_rfl) (by rw [HLI.out]; omega) ?_; intro w_ ho_ hg_; replace HO := Aside0.mk ho_; clear ho_ hg_)
      go_roundw
      case rel => exact ⟨i + 1, by go_num, by omega, ⟨by rw [HAT.out]; exact HO.out⟩⟩
      case measure => simp [intOf]; omega
    · have hE : i = l.length := by omega
      subst hE
      rw [← HE.out] at HO
      have HLI := Aside0.mk ((congrArg List.length HE.out).trans (HAL.out l.length))
      go_wp2_with (first | ((with_reducible refine gate_dst (N := 16) rfl ?_); refine wpList_load_row rfl 63 (.tmp 2) rfl _ rfl 63 _ (0, 0) _ (HO.out.get 0 rfl) Try.underlying63 rfl (by rw [H.bcells_size, HLI.out]; exact HI.out) ?_) | ((with_reducible refine gate_store (t := 63) (p := 4) rfl ?_); refine H.own_ball HO.out 1 (bs' := fin) rfl rfl rfl rfl rfl rfl HI.out HLI.out ?_; intro w_ ho_ hg_; replace HO := Aside0.mk ho_; clear ho_ hg_))
      (try simp only [Exit.inBlock, Exit.then])
      refine bodyPost_ret (results_cell_row rfl _ _ ga _ (H.bcells fin) (0, 0) _ rfl (HO.out.get 1 rfl) Try.underlying63 rfl (by rw [H.bcells_size, HLI.out]; exact HI.out)) rfl ?_
      exact ⟨rfl, HO.out.below⟩
end Go.Proofs.Ytndkblahnihhjaa.P

namespace Go.Proofs.Ytndkblahnihhjaa.P
open Go.RowKit Go.Proofs.YtndkblahnihhjaaW.PrintWords Go.Proofs.YtndkblahnihhjaaW.PrintLast Go.Proofs.YtndkblahnihhjaaW.PrintMore
attribute [local go_sem] max2_int min2_int max_two min_two max_three min_three max_four min_four
theorem run_idx12n (w : World) (bs : List Bool) (hb : bs.length = 12) (j : Nat) (hj : j < 12) : (Instr.index 63 (.agg (bs.map Value.bool).toArray) (.int .i64 (j : Int))).run Try.prog w = .ok (.bool (bs.getD j false)) w := by
  have h0 : (0 : Int) ≤ (j : Int) := by omega
  have h1 : (j : Int) < ((12 : Nat) : Int) := by omega
  have h2 : (bs.map Value.bool)[j]? = some (.bool (bs.getD j false)) := by rw [List.getElem?_map, H.getD_some false (by omega)]; rfl
  have hi : (Try.prog.info? 4).map (·.size) = some 1 := by kernel_rfl
  obtain ⟨i, hq, hs⟩ := Option.map_eq_some_iff.1 hi
  simp [Instr.index, run_underlying Try.underlying63, run_underlying Try.underlying4, asIntOf, h0, h1, part, isAgg, sizeOf, typeInfo, hq, hs, Sem.run_bind, go_sem]
  obtain ⟨v, hv⟩ : ∃ v, bs[j]? = some v := ⟨_, List.getElem?_eq_getElem (by omega)⟩
  rw [if_pos hj, hv]
  rfl
def nrTo (D : List (List Bool)) (s : List Bool) : Nat → Int × Nat
  | 0 => (-1, 0)
  | i + 1 => if s.getD i false && decide ((nrTo D s i).2 < (listTo (D.getD i []) 12).length) then ((i : Int), (listTo (D.getD i []) 12).length) else nrTo D s i
def nearestF (D : List (List Bool)) (s : List Bool) : Int := (nrTo D s 12).1
set_option maxHeartbeats 8000000 in
set_option maxRecDepth 100000 in
theorem impl_nearest.calls (gm n : Nat) (D : List (List Bool)) (s : List Bool) (w : World) (hm : w.heap[gm]? = some (.cells (H.bcells D.flatten) 63 (0, 0))) (hM : H.Mat 12 D) (hn : D.length = n) (h12 : n ≤ 12) (hs : s.length = 12) (hin : ∀ i, i < 12 → s.getD i false = true → i < n) :
    Calls Try.prog 55 #[.slice (some ⟨gm, 0, none⟩) n n, .agg (H.bcells s)] w fun e w' => e = .returned (.int .i64 (nearestF D s)) ∧ Below w.heap.size w w' := by
  have HM := Aside0.mk hm
  have HMat := Aside0.mk hM
  have HN := Aside0.mk hn
  have HSL := Aside0.mk hs
  have HIN := Aside0.mk hin
  have HI := Aside0.mk (show (Try.prog.info? 63).map (·.size) = some 12 by kernel_rfl)
  clear hm hM hn hs hin
  have HO := Aside0.mk (H.Own.nil w)
  go_enter Try.func55, Try.ntmps55
  go_wp2_with (first | ((with_reducible refine gate_dst (N := 3) rfl ?_); refine H.own_box HO.out ?bxg (N := 3) ?bxd (cs := H.bcells s) (t := 63) ?bxr ?_; (case bxd => rfl); (case bxg => rfl); (case bxr => first | (go_simp; done) | (go_simp; rfl)); intro gb w_ ho_ hb_; replace HO := Aside0.mk ho_; clear ho_ hb_) | ((with_reducible refine gate_dst (N := 9) rfl ?_); refine wpList_load_mid rfl 63 (.tmp 3) rfl gb 0 rfl (s.map Value.bool) _ (HO.out.brange 0 rfl) Try.underlying63 rfl (by rw [List.length_map, HSL.out]; exact HI.out) ?_))
  go_loopw [5, 6, 10] (fun v5 v6 v10 wr => ∃ i : Nat, v5 = .int .i64 (nrTo D s i).1 ∧ v6 = .int .i64 ((nrTo D s i).2 : Int) ∧ v10 = .int .i64 i ∧ i ≤ 12 ∧ Aside0 (H.Own w wr [(gb, H.bcells s, 63)])) (fun _ _ v10 _ => 12 - (intOf v10).toNat)
  case atStart => exact ⟨0, rfl, rfl, rfl, Nat.zero_le _, HO⟩
  case round =>
    clear HO
    obtain ⟨i, rfl, rfl, rfl, hi, HO⟩ := hrel
    by_cases hlt : i < 12
    · have hi12 : (i : Int) < 12 := by omega
      have hidx := run_idx12n wr s HSL.out i hlt
      have hin := HIN.out i hlt
      have hst : nrTo D s (i + 1) = if s.getD i false && decide ((nrTo D s i).2 < (listTo (D.getD i []) 12).length) then ((i : Int), (listTo (D.getD i []) 12).length) else nrTo D s i := rfl
      obtain ⟨⟨bst, mst⟩, hp⟩ : ∃ p, nrTo D s i = p := ⟨_, rfl⟩
      rw [hp] at hst
      obtain ⟨bit, hbt⟩ : ∃ bit, s.getD i false = bit := ⟨_, rfl⟩
      rw [hbt] at hst hidx hin
      have HP := Aside0.mk hp
      simp only [hp]
      clear hp hbt
      cases bit with
      | false =>
        have HST := Aside0.mk (show nrTo D s (i + 1) = (bst, mst) by rw [hst]; rfl)
        clear hst hin
        go_wp2
        go_roundw
        case rel => exact ⟨i + 1, by rw [HST.out], by rw [HST.out], by go_num, by omega, HO⟩
        case measure => simp [intOf]; omega
      | true =>
        have hii := hin rfl
        have HII := Aside0.mk (show i < D.length by rw [HN.out]; exact hii)
        have hiin : (i : Int) < (n : Int) := by omega
        have HRW := Aside0.mk (HMat.out.row HII.out)
        obtain ⟨row, hrow⟩ : ∃ row, D.getD i [] = row := ⟨_, rfl⟩
        rw [hrow] at HRW hst
        have HROW := Aside0.mk hrow
        obtain ⟨ls, hls⟩ : ∃ ls, listTo row 12 = ls := ⟨_, rfl⟩
        have hll := listTo_len row 12
        rw [hls] at hst hll
        have HLS := Aside0.mk hls
        clear hrow hls hin
        by_cases hgt : mst < ls.length
        · have HST := Aside0.mk (show nrTo D s (i + 1) = ((i : Int), ls.length) by rw [hst, decide_eq_true hgt]; rfl)
          have hgt2 : (ls.length : Int) > (mst : Int) := by omega
          clear hst hgt
          go_wp2_with (first | (go_at_call 51; refine (impl_list.calls gm (i * 12) row _ (by rw [← HROW.out]; exact H.blk_mrange (blk_below HM.out HO.out.below) HMat.out HII.out) HRW.out).mono ?_; rw [HLS.out]; rintro e w' ⟨v0, rfl, hv, hb⟩; obtain ⟨AV, cV, rfl⟩ := Kd.R_slice hv; replace HO := Aside0.mk (HO.out.step hb); clear hv hb))
          go_roundw
          case rel => exact ⟨i + 1, by rw [HST.out], by rw [HST.out], by go_num, by omega, HO⟩
          case measure => simp [intOf]; omega
        · have HST := Aside0.mk (show nrTo D s (i + 1) = (bst, mst) by rw [hst, decide_eq_false hgt]; rfl)
          have hgt2 : ¬ (ls.length : Int) > (mst : Int) := by omega
          clear hst hgt
          go_wp2_with (first | (go_at_call 51; refine (impl_list.calls gm (i * 12) row _ (by rw [← HROW.out]; exact H.blk_mrange (blk_below HM.out HO.out.below) HMat.out HII.out) HRW.out).mono ?_; rw [HLS.out]; rintro e w' ⟨v0, rfl, hv, hb⟩; obtain ⟨AV, cV, rfl⟩ := Kd.R_slice hv; replace HO := Aside0.mk (HO.out.step hb); clear hv hb))
          go_roundw
          case rel => exact ⟨i + 1, by rw [HST.out], by rw [HST.out], by go_num, by omega, HO⟩
          case measure => simp [intOf]; omega
    · have hE : i = 12 := by omega
      subst hE
      go_wp2
      go_ret
      exact ⟨rfl, HO.out.below⟩
end Go.Proofs.Ytndkblahnihhjaa.P

namespace Go.Proofs.Ytndkblahnihhjaa.P
open Go.RowKit Go.Proofs.YtndkblahnihhjaaW.PrintWords Go.Proofs.YtndkblahnihhjaaW.PrintLast Go.Proofs.YtndkblahnihhjaaW.PrintMore
attribute [local go_sem] max2_int min2_int max_two min_two max_three min_three max_four min_four
def ownB (D : List (List Bool)) (O : List Bool) (b : Nat) : Int := nearestF D (H.rowF (fun k => (D.getD b []).getD k false && O.getD k false))
def ownTo (D : List (List Bool)) (O : List Bool) (n i : Nat) : List Int := (List.range n).map (fun b => if b < i then ownB D O b else 0)
theorem ownTo_zero (D : List (List Bool)) (O : List Bool) (n : Nat) : ownTo D O n 0 = List.replicate n 0 := by
  unfold ownTo
  exact List.ext_getElem (by simp) (fun b h1 h2 => by simp)
theorem ownTo_len (D : List (List Bool)) (O : List Bool) (n i : Nat) : (ownTo D O n i).length = n := by unfold ownTo; simp
theorem ownTo_set (D : List (List Bool)) (O : List Bool) {n i : Nat} (hi : i < n) : (ownTo D O n i).set i (ownB D O i) = ownTo D O n (i + 1) := by
  refine List.ext_getElem (by simp [ownTo]) (fun b h1 h2 => ?_)
  rw [List.getElem_set]
  simp only [ownTo, List.getElem_map, List.getElem_range]
  by_cases e : i = b
  · subst e
    rw [if_pos rfl, if_pos (by omega)]
  · rw [if_neg e]
    by_cases h : b < i
    · rw [if_pos h, if_pos (by omega)]
    · rw [if_neg h, if_neg (by omega)]
def andTo (row O : List Bool) (k : Nat) : List Bool := H.rowF (fun j => if j < k then row.getD j false && O.getD j false else row.getD j false)
theorem andTo_zero {row : List Bool} (h : row.length = 12) (O : List Bool) : andTo row O 0 = row := by
  unfold andTo
  simp only [Nat.not_lt_zero, if_false]
  exact H.rowF_self h
theorem andTo_get (row O : List Bool) {k : Nat} (hk : k < 12) : (andTo row O k).getD k false = row.getD k false := by
  unfold andTo
  rw [H.rowF_get hk, if_neg (by omega)]
theorem andTo_put (row O : List Bool) {k : Nat} {v : Bool} (hv : (row.getD k false && O.getD k false) = v) : (andTo row O k).set k v = andTo row O (k + 1) := by
  unfold andTo
  rw [H.rowF_set]
  refine H.rowF_congr (fun j _ => ?_)
  by_cases e : j = k
  · subst e
    rw [if_pos rfl, if_pos (by omega), hv]
  · rw [if_neg e]
    by_cases h : j < k
    · rw [if_pos h, if_pos (by omega)]
    · rw [if_neg h, if_neg (by omega)]
theorem own_iput2 {P : Program} {ops : Array Oper} {rest : List Oper} {o : Oper} {a : Act} {Q : Exit → Act → World → Prop} {w W : World} {L : List (Nat × Array Value × TypeId)} {ti g n cap i : Nat} {ok : Nat → Prop} {xs : List Int} {z : Int} (hO : H.Own w W L) (hv : (Kd.int .i64).R ti W w.heap.size ok (.slice (some ⟨g, 0, none⟩) n cap) xs)
    (hgd : o.guard = none) (hN : o.dst = none) {t : TypeId} {p x : Operand} (ho : o.op = .store t p x) (haddr : a.eval p = .pointer (some ⟨g, i, none⟩)) (hx : a.eval x = .int .i64 z) (ht : (P.info? t).map (·.size) = some 1) (hi : i < n) (hne : ∀ y ∈ L, y.2.2 ≠ ti)
    (h : ∀ w1, H.Own w w1 L → (Kd.int .i64).R ti w1 w.heap.size ok (.slice (some ⟨g, 0, none⟩) n cap) (xs.set i z) → W.grownBy w1 (some g) → wpList P ops Q rest a w1) : wpList P ops Q (o :: rest) a W := by
  have hr := Kd.R_reads' hv
  obtain ⟨ad, e, hc⟩ := Kd.at_int hr.2.2 (i : Int) (by omega) (by have := hr.1; omega)
  injection e with e
  subst e
  rw [Int.toNat_natCast] at hc
  refine Kd.R_store (Kd.int .i64) (w0 := w) w.heap.size hN hgd t p x ho ti (i : Int) 0 xs z (.int .i64 z) [.int .i64 z] [.int .i64 (rd xs (i : Int))] ok (fun _ => False) haddr (by rw [Int.toNat_natCast]; show i = i * 1 + 0; omega) hx rfl (by rw [ht]; rfl) (by simp [Value.oneCell']) hv (by omega) (by omega) rfl ?_ (by show 0 + 1 ≤ 1; omega) rfl (fun _ hk => hk.elim) hO.below ?_
  · intro j u hj
    cases j with
    | zero =>
      simp only [List.getElem?_cons_zero, Option.some.injEq] at hj
      subst hj
      rw [Int.toNat_natCast]
      show W.cell? ⟨g, i * 1 + 0, none⟩ = _
      rw [Nat.mul_one, Nat.add_zero]
      by_cases e : i = 0
      · subst e
        simpa [Addr.add] using hc
      · simpa [Addr.add, e] using hc
    | succ j => simp at hj
  · intro w1 hs hb hg
    rw [Int.toNat_natCast] at hs
    exact h w1 (hO.row hv (Nat.le_refl _) hg hne) hs hg
theorem andTo_len (row O : List Bool) (k : Nat) : (andTo row O k).length = 12 := H.rowF_len _
theorem andTo_last (row O : List Bool) : andTo row O 12 = H.rowF (fun k => row.getD k false && O.getD k false) := H.rowF_congr (fun j hj => by rw [if_pos hj])
theorem ownB_at (D : List (List Bool)) (O : List Bool) (b : Nat) : ownB D O b = nearestF D (andTo (D.getD b []) O 12) := by rw [andTo_last]; rfl
theorem andTo_in {row O : List Bool} {n : Nat} (h : ∀ i, i < 12 → row.getD i false = true → i < n) : ∀ i, i < 12 → (andTo row O 12).getD i false = true → i < n := by
  intro i hi hb
  rw [andTo_last, H.rowF_get hi, Bool.and_eq_true] at hb
  exact h i hi hb.1
def impl_OwnerAt.f (l0_0 : List (List Int)) (l1 : List Int) : Option (List Int × Bool) := some (if setsB l0_0 l1 then (ownTo (H.domF l0_0) (andF (Q.joinsF (Q.froL l0_0) l1) l1) l0_0.length l0_0.length, true) else ([], false))
set_option maxHeartbeats 8000000 in
set_option maxRecDepth 100000 in
theorem impl_OwnerAt.calls (A0_0 : Option Addr) (c0_0 : Nat) (l0_0 : List (List Int)) (A1 : Option Addr) (c1 : Nat) (l1 : List Int) (r1 : List Int) (r2 : Bool) (w : World) (hr0_0 : Kd.C (Kd.slice 3 (Kd.int .i64)) w A0_0 l0_0.length l0_0) (hc0_0 : l0_0.length ≤ c0_0) (hr1 : Kd.C (Kd.int .i64) w A1 l1.length l1) (hc1 : l1.length ≤ c1) (h : impl_OwnerAt.f l0_0 l1 = some (r1, r2)) :
    Calls Try.prog 21 #[.agg #[.slice A0_0 l0_0.length c0_0], .slice A1 l1.length c1] w fun e w' => ∃ v0_ : Value, e = .returned (.tuple #[v0_, .bool r2]) ∧ (Kd.int .i64).R 3 w' w.heap.size (fun _ => True) v0_ r1 ∧ Below w.heap.size w w' := by
  replace h := Option.some.inj h
  have HR0 := Aside0.mk hr0_0
  have HC0 := Aside0.mk hc0_0
  have HR1 := Aside0.mk hr1
  have HC1 := Aside0.mk hc1
  have hl64 := hr1.2.1
  clear hr0_0 hc0_0 hr1 hc1
  have HO := Aside0.mk (H.Own.nil w)
  have HSO := Aside0.mk (fun (W : World) (hb : Below w.heap.size w W) => impl_setsOk.calls A0_0 c0_0 l0_0 A1 c1 l1 W (Kd.C_below HR0.out hb) HC0.out (Kd.C_below HR1.out hb) HC1.out)
  cases hsb : setsB l0_0 l1 with
  | false =>
    rw [hsb, if_neg (by simp), Prod.mk.injEq] at h
    obtain ⟨rfl, rfl⟩ := h
    rw [hsb] at HSO
    clear hsb
    go_enter Try.func21, Try.ntmps21
    go_wp2_with (first | ((with_reducible refine gate_dst (N := 2) rfl ?_); refine H.own_box HO.out ?bxg (N := 2) ?bxd (cs := #[Value.slice A0_0 l0_0.length c0_0]) (t := 28) ?bxr ?_; (case bxd => rfl); (case bxg => rfl); (case bxr => first | (go_simp; done) | (go_simp; rfl)); intro gp w_ ho_ hb_; replace HO := Aside0.mk ho_; clear ho_ hb_) | ((with_reducible refine gate_dst (N := 12) rfl ?_); refine wpList_load_row rfl 28 (.tmp 2) rfl _ rfl 28 _ (0, 0) _ (HO.out.get 0 rfl) Try.underlying28 rfl (by kernel_rfl) ?_) | (go_at_call 50; refine (HSO.out _ HO.out.below).mono ?_; rintro e w' ⟨rfl, hb⟩; replace HO := Aside0.mk (HO.out.step hb); clear hb))
    go_ret2
    exact ⟨_, rfl, Kd.R_nil _ _ _ _ _, HO.out.below⟩
  | true =>
    rw [hsb, if_pos rfl, Prod.mk.injEq] at h
    obtain ⟨rfl, rfl⟩ := h
    rw [hsb] at HSO
    have hs := hsb
    unfold setsB at hs
    rw [Bool.and_eq_true, Bool.and_eq_true] at hs
    have hg := hs.1
    have hr := H.goodG_rows hg
    have hn1 : 1 ≤ l0_0.length := hr.1.1
    have hn2 : l0_0.length ≤ 12 := hr.1.2
    have HG := Aside0.mk hg
    have hrn := Q.B.rl_rng hs.2.1
    have hln := Q.B.rl_len12 hn2 hs.2.1
    have HRN := Aside0.mk hrn
    have HI := Aside0.mk (show (Try.prog.info? 63).map (·.size) = some 12 by kernel_rfl)
    have HJN := Aside0.mk (fun (p : Addr) (W : World) (hb : Below w.heap.size w W) (hp : W.cell? p = some (.slice A0_0 l0_0.length c0_0)) => impl_joins.calls p A0_0 c0_0 l0_0 A1 c1 l1 W hp (Kd.C_below HR0.out hb) HG.out (Kd.C_below HR1.out hb) HC1.out hrn hln)
    have HJL := Aside0.mk (Q.joins_some (fl := Q.froL l0_0) (l := l1) (Q.froL_row12 hn2) (fun y hy => ⟨(hrn y hy).1, by have := (hrn y hy).2; omega⟩) hln).2.len
    clear hs hg hr hrn hsb
    obtain ⟨J, hJ⟩ : ∃ J, Q.joinsF (Q.froL l0_0) l1 = J := ⟨_, rfl⟩
    rw [hJ] at HJN HJL ⊢
    clear hJ
    have hdi : ∀ b, b < l0_0.length → ∀ i, i < 12 → ((H.domF l0_0).getD b []).getD i false = true → i < l0_0.length := by
      intro b hb i hi h
      unfold H.domF at h
      rw [H.matF_row hb, H.rowF_get hi] at h
      simp only [Bool.and_eq_true, decide_eq_true_eq] at h
      exact h.1
    have HMM : Aside0 (H.Mat 12 (H.domF l0_0)) := ⟨H.matF_mat _ _⟩
    have HML : Aside0 ((H.domF l0_0).length = l0_0.length) := ⟨H.matF_len _ _⟩
    have HDI := Aside0.mk hdi
    have HDO := Aside0.mk (fun (p : Addr) (W : World) (hb : Below w.heap.size w W) (hp : W.cell? p = some (.slice A0_0 l0_0.length c0_0)) => impl_dominators.calls p A0_0 c0_0 l0_0 W hp (Kd.C_below HR0.out hb) HG.out)
    have HAN := Aside0.mk (fun (W : World) (hb : Below w.heap.size w W) => impl_and.calls J A1 c1 l1 W HJL.out (Kd.C_below HR1.out hb) HC1.out (fun y hy => ⟨(HRN.out y hy).1, by have := (HRN.out y hy).2; omega⟩))
    have HOL := Aside0.mk ((andF_len l1 J).trans HJL.out)
    obtain ⟨M, hMD⟩ : ∃ M, H.domF l0_0 = M := ⟨_, rfl⟩
    obtain ⟨O, hOD⟩ : ∃ O, andF J l1 = O := ⟨_, rfl⟩
    rw [hMD] at HMM HML HDI HDO ⊢
    rw [hOD] at HAN HOL ⊢
    clear hdi hMD hOD
    go_enter Try.func21, Try.ntmps21
    go_wp2_with (first | ((with_reducible refine gate_dst (N := 2) rfl ?_); refine H.own_box HO.out ?bxg (N := 2) ?bxd (cs := #[Value.slice A0_0 l0_0.length c0_0]) (t := 28) ?bxr ?_; (case bxd => rfl); (case bxg => rfl); (case bxr => first | (go_simp; done) | (go_simp; rfl)); intro gp w_ ho_ hb_; replace HO := Aside0.mk ho_; clear ho_ hb_) | ((with_reducible refine gate_dst (N := 12) rfl ?_); refine wpList_load_row rfl 28 (.tmp 2) rfl _ rfl 28 _ (0, 0) _ (HO.out.get 0 rfl) Try.underlying28 rfl (by kernel_rfl) ?_) | (go_at_call 50; refine (HSO.out _ HO.out.below).mono ?_; rintro e w' ⟨rfl, hb⟩; replace HO := Aside0.mk (HO.out.step hb); clear hb) | (go_at_call 47; refine (HJN.out _ _ HO.out.below (HO.out.cell 0 rfl 0)).mono ?_; rintro e w' ⟨rfl, hb⟩; replace HO := Aside0.mk (HO.out.step hb); clear hb) | (go_at_call 48; refine (HAN.out _ HO.out.below).mono ?_; rintro e w' ⟨rfl, hb⟩; replace HO := Aside0.mk (HO.out.step hb); clear hb) | ((with_reducible refine gate_dst (N := 6) rfl ?_); refine H.own_box HO.out ?bxg (N := 6) ?bxd (cs := H.bcells H.none12) (t := 63) ?bxr ?_; (case bxd => rfl); (case bxg => rfl); (case bxr => first | (go_simp; done) | (go_simp; rfl)); intro gO w_ ho_ hb_; replace HO := Aside0.mk ho_; clear ho_ hb_) | ((with_reducible refine gate_store (t := 63) (p := 6) rfl ?_); refine H.own_ball HO.out 1 (bs' := O) rfl rfl rfl rfl rfl rfl HI.out HOL.out ?_; intro w_ ho_ hg_; replace HO := Aside0.mk ho_; clear ho_ hg_) | (go_at_call 54; refine (HDO.out _ _ HO.out.below (HO.out.cell 0 rfl 0)).mono ?_; rintro e w' ⟨gm, rfl, ho⟩; replace HO := Aside0.mk (HO.out.join ho); have hx1 := HO.out.cell 0 rfl 0; clear ho) | ((with_reducible refine gate_dst (N := 24) rfl ?_); refine Kd.R_make (Kd.int .i64) (w0 := w) w.heap.size 3 rfl (N := 24) rfl 32 _ _ rfl (l0_0.length : Int) rfl rfl Try.underlying32 (.int .i64 0) 8 info3 rfl (by decide) (by omega) 0 (ok := fun _ => True) (okp := fun _ => True) rfl (fun _ hk => hk) trivial (by omega) (by simp only [Int.toNat_natCast]; omega) HO.out.below HO.out.size ?_; intro vs w_ ho_ hb_ hg_ hnew_; rw [Int.toNat_natCast] at ho_; obtain ⟨gs, cs, evs, _, _, _⟩ := Kd.R_form ho_ (by rw [List.length_replicate]; omega); rw [List.length_replicate] at evs; subst evs; replace HO := Aside0.mk (HO.out.grown hg_ (fun k hk => by cases hk)); have HV := Aside0.mk ho_; clear ho_ hb_ hg_ hnew_ hx1))
    go_loopw [27] (fun vc wr => ∃ i : Nat, vc = .int .i64 i ∧ i ≤ l0_0.length ∧ Aside0 ((Kd.int .i64).R 3 wr w.heap.size (fun _ => True) (.slice (some ⟨gs, 0, none⟩) l0_0.length cs) (ownTo M O l0_0.length i)) ∧ Aside0 (H.Own w wr [(gp, #[Value.slice A0_0 l0_0.length c0_0], 28), (gO, H.bcells O, 63), (gm, H.bcells M.flatten, 63)])) (fun vc _ => l0_0.length - (intOf vc).toNat)
    case atStart => exact ⟨0, rfl, Nat.zero_le _, ⟨by rw [ownTo_zero]; exact HV.out⟩, HO⟩
    case round =>
      clear HO HV
      obtain ⟨i, rfl, hi, HV, HO⟩ := hrel
      by_cases hlt : i < l0_0.length
      · have HIL := Aside0.mk hlt
        have HIM := Aside0.mk (show i < M.length by rw [HML.out]; exact hlt)
        have HST := Aside0.mk (ownTo_set M O hlt)
        have hil : (i : Int) < (l0_0.length : Int) := by omega
        have HRW := Aside0.mk (HMM.out.row HIM.out)
        have hdi := HDI.out i hlt
        have hnf := ownB_at M O i
        obtain ⟨row, hrow⟩ : ∃ row, M.getD i [] = row := ⟨_, rfl⟩
        rw [hrow] at HRW hdi hnf
        have HROW := Aside0.mk hrow
        have HNF := Aside0.mk hnf
        have HDI2 := Aside0.mk (andTo_in hdi (O := O))
        have HAL := Aside0.mk (fun k => andTo_len row O k)
        have HAZ := Aside0.mk (andTo_zero HRW.out O)
        have HAG := Aside0.mk (fun k (hk : k < 12) => andTo_get row O hk)
        have HAP := Aside0.mk (fun k (v : Bool) (hv : (row.getD k false && O.getD k false) = v) => andTo_put row O hv)
        clear hrow hdi hnf
        go_wp2_with (first | ((with_reducible refine gate_dst (N := 33) rfl ?_); refine wpList_load_mid rfl 63 (.tmp 32) rfl gm (i * 12) rfl (row.map Value.bool) _ (by rw [← HROW.out]; exact HO.out.mrange 2 (n := 12) rfl HMM.out HIM.out) Try.underlying63 rfl (by rw [List.length_map, HRW.out]; exact HI.out) ?_) | ((with_reducible refine gate_dst (N := 10) rfl ?_); refine H.own_box HO.out ?bxg (N := 10) ?bxd (cs := H.bcells H.none12) (t := 63) ?bxr ?_; (case bxd => rfl); (case bxg => rfl); (case bxr => first | (go_simp; done) | (go_simp; rfl)); intro gx w_ ho_ hb_; replace HV := Aside0.mk (Kd.R_below HV.out hb_); replace HO := Aside0.mk ho_; clear ho_ hb_) | ((with_reducible refine gate_store (t := 63) (p := 10) rfl ?_); refine H.own_ball HO.out 3 (bs' := row) rfl rfl rfl rfl rfl rfl HI.out HRW.out ?_; intro w_ ho_ hg_; replace HV := Aside0.mk (HO.out.keep 3 rfl HV.out hg_ (by decide)); replace HO := Aside0.mk ho_; clear ho_ hg_))
        go_loopw [34] (fun vk wr => ∃ k : Nat, vk = .int .i64 k ∧ k ≤ 12 ∧ Aside0 ((Kd.int .i64).R 3 wr w.heap.size (fun _ => True) (.slice (some ⟨gs, 0, none⟩) l0_0.length cs) (ownTo M O l0_0.length i)) ∧ Aside0 (H.Own w wr [(gp, #[Value.slice A0_0 l0_0.length c0_0], 28), (gO, H.bcells O, 63), (gm, H.bcells M.flatten, 63), (gx, H.bcells (andTo row O k), 63)])) (fun vk _ => 12 - (intOf vk).toNat)
        case atStart => exact ⟨0, rfl, Nat.zero_le _, HV, ⟨by rw [HAZ.out]; exact HO.out⟩⟩
        case round =>
          clear HO HV
          obtain ⟨k, rfl, hk, HV, HO⟩ := hrel
          by_cases hlt2 : k < 12
          · have hk12 : (k : Int) < 12 := by omega
            have HK12 := Aside0.mk hlt2
            have hcx := HO.out.bat 3 rfl (j := k) (by rw [HAL.out]; exact hlt2)
            rw [HAG.out k hlt2] at hcx
            have hap := HAP.out k
            have HALK := Aside0.mk (HAL.out k)
            obtain ⟨b1, hb1⟩ : ∃ b, row.getD k false = b := ⟨_, rfl⟩
            obtain ⟨b2, hb2⟩ : ∃ b, O.getD k false = b := ⟨_, rfl⟩
            rw [hb1] at hcx hap
            rw [hb2] at hap
            have hcy := HO.out.bat 1 rfl (j := k) (by rw [HOL.out]; exact hlt2)
            rw [hb2] at hcy
            clear hb1 hb2
            cases b1 with
            | false =>
              have HAPK := Aside0.mk (hap false rfl)
              clear hap
              go_wp2_with ((with_reducible refine gate_store (t := 4) (p := 46) rfl ?_); refine H.own_bput HO.out 3 (bs := andTo row O k) (j := k) (b := false) rfl rfl rfl rfl rfl rfl (by kernel_rfl) (by rw [HALK.out]; exact HK12.out) ?_; intro w_ ho_ hg_; replace HV := Aside0.mk (HO.out.keep 3 rfl HV.out hg_ (by decide)); replace HO := Aside0.mk ho_; clear ho_ hg_)
              go_roundw
              case rel => exact ⟨k + 1, by go_num, by omega, HV, ⟨by rw [← HAPK.out]; exact HO.out⟩⟩
              case measure => simp [intOf]; omega
            | true =>
              have HAPK := Aside0.mk (hap b2 (Bool.true_and _))
              clear hap
              go_wp2_with ((with_reducible refine gate_store (t := 4) (p := 46) rfl ?_); refine H.own_bput HO.out 3 (bs := andTo row O k) (j := k) (b := b2) rfl rfl rfl rfl rfl rfl (by kernel_rfl) (by rw [HALK.out]; exact HK12.out) ?_; intro w_ ho_ hg_; replace HV := Aside0.mk (HO.out.keep 3 rfl HV.out hg_ (by decide)); replace HO := Aside0.mk ho_; clear ho_ hg_)
              go_roundw
              case rel => exact ⟨k + 1, by go_num, by omega, HV, ⟨by rw [← HAPK.out]; exact HO.out⟩⟩
              case measure => simp [intOf]; omega
          · have hE : k = 12 := by omega
            subst hE
            have HRS := Aside0.mk (HAL.out 12)
            obtain ⟨rs, hrs⟩ : ∃ rs, andTo row O 12 = rs := ⟨_, rfl⟩
            rw [hrs] at HO HRS HNF HDI2
            clear hrs
            go_wp2_with (first | ((with_reducible refine gate_dst (N := 51) rfl ?_); refine wpList_load_mid rfl 63 (.tmp 10) rfl gx 0 rfl (rs.map Value.bool) _ (HO.out.brange 3 rfl) Try.underlying63 rfl (by rw [List.length_map, HRS.out]; exact HI.out) ?_) | (go_at_call 55; refine (impl_nearest.calls gm l0_0.length M rs _ (HO.out.get 2 rfl) HMM.out HML.out (by omega) HRS.out HDI2.out).mono ?_; rw [← HNF.out]; rintro e w' ⟨rfl, hb⟩; replace HV := Aside0.mk (Kd.R_below HV.out hb); replace HO := Aside0.mk (HO.out.step hb); clear hb) | ((with_reducible refine gate_store (t := 3) (p := 53) rfl ?_); refine own_iput2 HO.out HV.out rfl rfl rfl rfl rfl (by kernel_rfl) HIL.out (by simp) ?_; intro w_ ho_ hs_ hg_; replace HV := Aside0.mk hs_; replace HO := Aside0.mk ho_; clear ho_ hs_ hg_))
            go_roundw
            case rel => exact ⟨i + 1, by go_num, by omega, ⟨by rw [← HST.out]; exact HV.out⟩, ⟨HO.out.take (by simp)⟩⟩
            case measure => simp [intOf]; omega
      · have hE : i = l0_0.length := by omega
        subst hE
        go_wp2
        go_ret2
        exact ⟨_, rfl, HV.out, HO.out.below⟩
end Go.Proofs.Ytndkblahnihhjaa.P

namespace Go.Proofs.Ytndkblahnihhjaa.P
open Go.RowKit Go.Proofs.YtndkblahnihhjaaW.PrintWords Go.Proofs.YtndkblahnihhjaaW.PrintLast Go.Proofs.YtndkblahnihhjaaW.PrintMore
attribute [local go_sem] max2_int min2_int max_two min_two max_three min_three max_four min_four
def impl_FrontierOf.f (l0_0 : List (List Int)) : Option (List (List Int) × Bool) := some (if H.goodG l0_0 then ((H.froF l0_0).map (fun r => listTo r 12), true) else ([], false))
set_option maxHeartbeats 8000000 in
set_option maxRecDepth 100000 in
theorem impl_FrontierOf.calls (A0_0 : Option Addr) (c0_0 : Nat) (l0_0 : List (List Int)) (r1 : List (List Int)) (r2 : Bool) (w : World) (hr0_0 : Kd.C (Kd.slice 3 (Kd.int .i64)) w A0_0 l0_0.length l0_0) (hc0_0 : l0_0.length ≤ c0_0) (h : impl_FrontierOf.f l0_0 = some (r1, r2)) :
    Calls Try.prog 23 #[.agg #[.slice A0_0 l0_0.length c0_0]] w fun e w' => ∃ v0_ : Value, e = .returned (.tuple #[v0_, .bool r2]) ∧ Kd.S (Kd.slice 3 (Kd.int .i64)) 32 w' w.heap.size (fun _ => True) v0_ r1 ∧ Below w.heap.size w w' := by
  replace h := Option.some.inj h
  have HR0 := Aside0.mk hr0_0
  have HC0 := Aside0.mk hc0_0
  clear hr0_0 hc0_0
  have HO := Aside0.mk (H.Own.nil w)
  have HK := Aside0.mk (fun (W : World) (hb : Below w.heap.size w W) => impl_GoodGraph.calls A0_0 c0_0 l0_0 _ W (Kd.C_below HR0.out hb) HC0.out rfl)
  cases hg : H.goodG l0_0 with
  | false =>
    rw [hg, if_neg (by simp), Prod.mk.injEq] at h
    obtain ⟨rfl, rfl⟩ := h
    rw [hg] at HK
    clear hg
    go_enter Try.func23, Try.ntmps23
    go_wp2_with (first | ((with_reducible refine gate_dst (N := 1) rfl ?_); refine H.own_box HO.out ?bxg (N := 1) ?bxd (cs := #[Value.slice A0_0 l0_0.length c0_0]) (t := 28) ?bxr ?_; (case bxd => rfl); (case bxg => rfl); (case bxr => first | (go_simp; done) | (go_simp; rfl)); intro gp w_ ho_ hb_; replace HO := Aside0.mk ho_; clear ho_ hb_) | ((with_reducible refine gate_dst (N := 7) rfl ?_); refine wpList_load_row rfl 28 (.tmp 1) rfl _ rfl 28 _ (0, 0) _ (HO.out.get 0 rfl) Try.underlying28 rfl (by kernel_rfl) ?_) | (go_at_call 45; refine (HK.out _ HO.out.below).mono ?_; rintro e w' ⟨rfl, hb⟩; replace HO := Aside0.mk (HO.out.step hb); clear hb))
    go_ret2
    exact ⟨_, rfl, Kd.S_nil _ _ _ _ _, HO.out.below⟩
  | true =>
    rw [hg, if_pos rfl, Prod.mk.injEq] at h
    obtain ⟨rfl, rfl⟩ := h
    rw [hg] at HK
    have hr := H.goodG_rows hg
    have hn1 : 1 ≤ l0_0.length := hr.1.1
    have hn2 : l0_0.length ≤ 12 := hr.1.2
    have HG := Aside0.mk hg
    clear hg hr
    have HI := Aside0.mk (show (Try.prog.info? 63).map (·.size) = some 12 by kernel_rfl)
    have hml := H.matF_len (H.froV l0_0) l0_0.length
    have hmm := H.matF_mat (H.froV l0_0) l0_0.length
    have HMM : Aside0 (H.Mat 12 (H.froF l0_0)) := ⟨hmm⟩
    have HML : Aside0 ((H.froF l0_0).length = l0_0.length) := ⟨hml⟩
    clear hml hmm
    obtain ⟨M, hMD⟩ : ∃ M, H.froF l0_0 = M := ⟨_, rfl⟩
    rw [hMD] at HMM HML ⊢
    have HMD := Aside0.mk hMD
    clear hMD
    go_enter Try.func23, Try.ntmps23
    go_wp2_with (first | ((with_reducible refine gate_dst (N := 1) rfl ?_); refine H.own_box HO.out ?bxg (N := 1) ?bxd (cs := #[Value.slice A0_0 l0_0.length c0_0]) (t := 28) ?bxr ?_; (case bxd => rfl); (case bxg => rfl); (case bxr => first | (go_simp; done) | (go_simp; rfl)); intro gp w_ ho_ hb_; replace HO := Aside0.mk ho_; clear ho_ hb_) | ((with_reducible refine gate_dst (N := 7) rfl ?_); refine wpList_load_row rfl 28 (.tmp 1) rfl _ rfl 28 _ (0, 0) _ (HO.out.get 0 rfl) Try.underlying28 rfl (by kernel_rfl) ?_) | (go_at_call 45; refine (HK.out _ HO.out.below).mono ?_; rintro e w' ⟨rfl, hb⟩; replace HO := Aside0.mk (HO.out.step hb); have hx1 := HO.out.cell 0 rfl 0; clear hb) | ((with_reducible refine gate_dst (N := 13) rfl ?_); refine Kd.S_make (Kd.slice 3 (Kd.int .i64)) (w0 := w) w.heap.size 32 rfl (N := 13) rfl 22 _ _ rfl (l0_0.length : Int) rfl rfl Try.underlying22 (.slice none 0 0) 24 info32 rfl (by decide) (by omega) [] (ok := fun _ => True) (okp := fun _ => True) ⟨_, rfl, Kd.R_nil _ _ _ _ _⟩ (fun _ hk => hk) trivial (by omega) (by simp only [Int.toNat_natCast]; omega) HO.out.below HO.out.size ?_; intro vs w_ ho_ hb_ hg_ hnew_; clear hx1; replace HO := Aside0.mk (HO.out.grown hg_ (fun k hk => by cases hk)); have HS := Aside0.mk ho_; clear ho_ hb_ hg_ hnew_) | (go_at_call 59; refine (impl_frontiers.calls ⟨gp, 0, none⟩ A0_0 c0_0 l0_0 _ (HO.out.cell 0 rfl 0) (Kd.C_below HR0.out HO.out.below) HG.out).mono ?_; rintro e w' ⟨gm, rfl, ho⟩; replace HS := Aside0.mk (Kd.S_below HS.out ho.below); replace HO := Aside0.mk (HO.out.join ho); clear ho))
    rw [HMD.out] at HO
    rw [Int.toNat_natCast] at HS
    obtain ⟨gs, cs, rfl, _, _, _⟩ := Kd.S_form HS.out (by simp; omega)
    rw [List.length_replicate] at HS ⊢
    have HML2 := Aside0.mk (show l0_0.length = M.length from HML.out.symm)
    go_loopw [16] (fun vc wr => ∃ i : Nat, vc = .int .i64 i ∧ i ≤ l0_0.length ∧ Aside0 (Kd.S (Kd.slice 3 (Kd.int .i64)) 32 wr w.heap.size (fun _ => True) (.slice (some ⟨gs, 0, none⟩) l0_0.length cs) (H.fillP (fun r => listTo r 12) [] M i)) ∧ Aside0 (H.Own w wr [(gp, #[Value.slice A0_0 l0_0.length c0_0], 28), (gm, H.bcells M.flatten, 63)])) (fun vc _ => l0_0.length - (intOf vc).toNat)
    case atStart => exact ⟨0, rfl, Nat.zero_le _, ⟨by rw [H.fillP_zero, HML.out]; exact HS.out⟩, HO⟩
    case round =>
      clear HO HS
      obtain ⟨i, rfl, hi, HS, HO⟩ := hrel
      by_cases hlt : i < l0_0.length
      · have HIL := Aside0.mk hlt
        have HIM := Aside0.mk (show i < M.length by rw [HML.out]; exact hlt)
        have HST := Aside0.mk (H.fillP_step (f := fun r => listTo r 12) (d := []) [] HIM.out)
        have hil : (i : Int) < (l0_0.length : Int) := by omega
        have HRW := Aside0.mk (HMM.out.row HIM.out)
        obtain ⟨row, hrow⟩ : ∃ row, M.getD i [] = row := ⟨_, rfl⟩
        rw [hrow] at HRW HST
        have HROW := Aside0.mk hrow
        clear hrow
        go_wp2_with (first | ((with_reducible refine gate_dst (N := 20) rfl ?_); refine wpList_load_mid rfl 63 (.tmp 19) rfl gm (i * 12) rfl (row.map Value.bool) _ (by rw [← HROW.out]; exact HO.out.mrange 1 (n := 12) rfl HMM.out HIM.out) Try.underlying63 rfl (by rw [List.length_map, HRW.out]; exact HI.out) ?_) | ((with_reducible refine gate_dst (N := 6) rfl ?_); refine H.own_box HO.out ?bxg (N := 6) ?bxd (cs := H.bcells H.none12) (t := 63) ?bxr ?_; (case bxd => rfl); (case bxg => rfl); (case bxr => first | (go_simp; done) | (go_simp; rfl)); intro gx w_ ho_ hb_; replace HS := Aside0.mk (Kd.S_below HS.out hb_); replace HO := Aside0.mk ho_; clear ho_ hb_) | ((with_reducible refine gate_store (t := 63) (p := 6) rfl ?_); refine H.own_ball HO.out 2 (bs' := row) rfl rfl rfl rfl rfl rfl HI.out HRW.out ?_; intro w_ ho_ hg_; replace HS := Aside0.mk (HO.out.keepS 2 rfl HS.out hg_ (by decide)); replace HO := Aside0.mk ho_; clear ho_ hg_) | (go_at_call 51; refine (impl_list.calls gx 0 row _ (HO.out.brange 2 rfl) HRW.out).mono ?_; rintro e w' ⟨v0, rfl, hv, hb⟩; have HV := Aside0.mk (Kd.R_lower hv HO.out.size); replace HS := Aside0.mk (Kd.S_mono (ok' := fun k => some k ≠ v0.ownBlock) (Kd.S_elder' HS.out (Kd.R_base hv) hb) (fun _ hk => hk.2)); replace HO := Aside0.mk (HO.out.step hb); clear hv hb) | ((with_reducible refine gate_store (t := 32) (p := 24) rfl ?_); refine H.own_rowput HO.out HS.out HV.out (Nat.le_refl _) rfl rfl rfl rfl rfl (by kernel_rfl) HIL.out (by simp) ?_; intro w_ ho_ hs_ hg_; replace HO := Aside0.mk ho_; replace HS := Aside0.mk hs_; clear HV ho_ hs_ hg_))
        go_roundw
        case rel => exact ⟨i + 1, by go_num, by omega, ⟨by rw [← HST.out]; exact HS.out⟩, ⟨HO.out.take (by simp)⟩⟩
        case measure => simp [intOf]; omega
      · have hE : i = l0_0.length := by omega
        subst hE
        go_wp2
        go_ret2
        exact ⟨_, rfl, by have := HS.out; rw [show l0_0.length = M.length from HML2.out, H.fillP_end] at this; rw [HML2.out]; exact this, HO.out.below⟩
end Go.Proofs.Ytndkblahnihhjaa.P

namespace Go.Proofs.Ytndkblahnihhjaa.P
open Go.RowKit Go.Proofs.YtndkblahnihhjaaW.PrintWords Go.Proofs.YtndkblahnihhjaaW.PrintLast Go.Proofs.YtndkblahnihhjaaW.PrintMore
attribute [local go_sem] max2_int min2_int max_two min_two max_three min_three max_four min_four
def laws_sameInts.l0 : Nat → List Int → List Int → Int → Int → Option (Bool)
  | 0, _, _, _, _ => none
  | k + 1, x0, x1, x12, x13 => if x13 < x12 then (if 0 ≤ x13 then (if x13 < (x0.length : Int) then (if x13 < (x1.length : Int) then (if (rd x0 x13) = (rd x1 x13) then (laws_sameInts.l0 k x0 x1 x12 (wrap64 (x13 + 1))) else (some false)) else (none)) else (none)) else (none)) else (some true)
def laws_sameInts.f (k : Nat) (l0 : List Int) (l1 : List Int) : Option (Bool) := if (l0.length : Int) = (l1.length : Int) then (laws_sameInts.l0 k l0 l1 (l0.length : Int) 0) else (some false)
set_option maxHeartbeats 8000000 in
set_option maxRecDepth 100000 in
theorem laws_sameInts.calls (k : Nat) (A0 : Option Addr) (c0 : Nat) (l0 : List Int) (A1 : Option Addr) (c1 : Nat) (l1 : List Int) (r : Bool) (w : World) (hr0 : Kd.C (Kd.int .i64) w A0 l0.length l0) (hc0 : l0.length ≤ c0) (hr1 : Kd.C (Kd.int .i64) w A1 l1.length l1) (hc1 : l1.length ≤ c1) (h : laws_sameInts.f k l0 l1 = some r) :
    Calls Try.prog 25 #[.slice A0 l0.length c0, .slice A1 l1.length c1] w fun e w' => e = .returned (.bool r) ∧ Drawn0 w w' := by
  have HR0 := Aside0.mk hr0
  have HC0 := Aside0.mk hc0
  clear hr0 hc0
  have HR1 := Aside0.mk hr1
  have HC1 := Aside0.mk hc1
  clear hr1 hc1
  have H : (if (l0.length : Int) = (l1.length : Int) then (laws_sameInts.l0 k l0 l1 (l0.length : Int) 0) else (some false)) = some r := h
  clear h
  by_cases c3 : (l0.length : Int) = (l1.length : Int)
  · rw [if_pos c3] at H
    have c3b0 : ((l0.length : Int) == (l1.length : Int)) = true := beq_iff_eq.mpr c3
    have c3b1 : ((l0.length : Int) != (l1.length : Int)) = false := bne_eq_false_iff_eq.mpr c3
    have c3b2 : (l0.length == l1.length) = true := by first | simpa using c3 | (simp at c3 ⊢; omega)
    clear c3
    have H' := Aside0.mk H
    clear H
    go_enter Try.func25, Try.ntmps25
    go_wp2
    repeat (go_quiet (fail); try go_wp2)
    go_loopg [13] k (fun kq v13 w' => ∃ (x13_1 : Int), v13 = .int .i64 x13_1 ∧ Aside0 (laws_sameInts.l0 kq l0 l1 (l0.length : Int) x13_1 = some r) ∧ Aside0 (kq ≤ k) ∧ Drawn0 w w')
    case atStart => exact ⟨(0), (by first | rfl | (simp; done) | (simp [*]; done)), H', ⟨Nat.le_refl _⟩, by repeat (first | exact Drawn0.refl _ | apply Drawn0.step)⟩
    case round =>
      clear H'
      try clear c1
      try clear c2
      try clear p2
      try clear c3
      try clear c3b0
      try clear c3b1
      try clear c3b2
      obtain ⟨x13_1, rfl, HA, HK1, ⟨m1, rfl⟩⟩ := hrel
      cases gk with
      | zero => exact absurd HA.out (by simp [laws_sameInts.l0])
      | succ k1 =>
        have H := HA.out
        clear HA
        simp only [laws_sameInts.l0] at H
        by_cases c4 : x13_1 < (l0.length : Int)
        · rw [if_pos c4] at H
          have c4b0 : decide (x13_1 < (l0.length : Int)) = true := decide_eq_true c4
          clear c4
          by_cases c5 : 0 ≤ x13_1
          · rw [if_pos c5] at H
            have c5b0 : decide (0 ≤ x13_1) = true := decide_eq_true c5
            clear c5
            by_cases c6 : x13_1 < (l0.length : Int)
            · rw [if_pos c6] at H
              have c6b0 : decide (x13_1 < (l0.length : Int)) = true := decide_eq_true c6
              clear c6
              by_cases c7 : x13_1 < (l1.length : Int)
              · rw [if_pos c7] at H
                have c7b0 : decide (x13_1 < (l1.length : Int)) = true := decide_eq_true c7
                clear c7
                by_cases c8 : (rd l0 x13_1) = (rd l1 x13_1)
                · rw [if_pos c8] at H
                  have c8b0 : ((rd l0 x13_1) == (rd l1 x13_1)) = true := beq_iff_eq.mpr c8
                  have c8b1 : ((rd l0 x13_1) != (rd l1 x13_1)) = false := bne_eq_false_iff_eq.mpr c8
                  clear c8
                  have H' := Aside0.mk H
                  clear H
                  have p292 : 0 ≤ (x13_1 : Int) := of_decide_eq_true (by first | (with_reducible assumption) | assumption)
                  have q292 : x13_1 < (l0.length : Int) := of_decide_eq_true (by first | (with_reducible assumption) | assumption)
                  obtain ⟨ad292, e292, hx292_0⟩ := Kd.at_int HR0.out x13_1 p292 q292
                  cases e292
                  replace p292 := eq_true p292
                  replace q292 := eq_true q292
                  have p293 : 0 ≤ (x13_1 : Int) := of_decide_eq_true (by first | (with_reducible assumption) | assumption)
                  have q293 : x13_1 < (l1.length : Int) := of_decide_eq_true (by first | (with_reducible assumption) | assumption)
                  obtain ⟨ad293, e293, hx293_0⟩ := Kd.at_int HR1.out x13_1 p293 q293
                  cases e293
                  replace p293 := eq_true p293
                  replace q293 := eq_true q293
                  go_wp2
                  repeat (go_quiet (fail); try go_wp2)
                  go_roundg k1
                  case measure => have := HK1.out; omega
                  case rel => exact ⟨(wrap64 (x13_1 + 1)), (by first | rfl | (simp; done) | (simp [*]; done)), H', ⟨by have := HK1.out; omega⟩, by repeat (first | exact Drawn0.refl _ | apply Drawn0.step)⟩
                · rw [if_neg c8] at H
                  have c8b0 : ((rd l0 x13_1) == (rd l1 x13_1)) = false := beq_eq_false_iff_ne.mpr c8
                  have c8b1 : ((rd l0 x13_1) != (rd l1 x13_1)) = true := bne_iff_ne.mpr c8
                  obtain rfl := Option.some.inj H
                  have p292 : 0 ≤ (x13_1 : Int) := of_decide_eq_true (by first | (with_reducible assumption) | assumption)
                  have q292 : x13_1 < (l0.length : Int) := of_decide_eq_true (by first | (with_reducible assumption) | assumption)
                  obtain ⟨ad292, e292, hx292_0⟩ := Kd.at_int HR0.out x13_1 p292 q292
                  cases e292
                  replace p292 := eq_true p292
                  replace q292 := eq_true q292
                  have p293 : 0 ≤ (x13_1 : Int) := of_decide_eq_true (by first | (with_reducible assumption) | assumption)
                  have q293 : x13_1 < (l1.length : Int) := of_decide_eq_true (by first | (with_reducible assumption) | assumption)
                  obtain ⟨ad293, e293, hx293_0⟩ := Kd.at_int HR1.out x13_1 p293 q293
                  cases e293
                  replace p293 := eq_true p293
                  replace q293 := eq_true q293
                  go_wp2
                  repeat (go_quiet (fail); try go_wp2)
                  go_ret
                  exact ⟨by first | rfl | (simp; done) | (simp [*]; done), by repeat (first | exact Drawn0.refl _ | apply Drawn0.step)⟩
              · rw [if_neg c7] at H
                exact absurd H (by simp)
            · rw [if_neg c6] at H
              exact absurd H (by simp)
          · rw [if_neg c5] at H
            exact absurd H (by simp)
        · rw [if_neg c4] at H
          have c4b0 : decide (x13_1 < (l0.length : Int)) = false := decide_eq_false c4
          clear c4
          obtain rfl := Option.some.inj H
          go_wp2
          repeat (go_quiet (fail); try go_wp2)
          go_ret
          exact ⟨by first | rfl | (simp; done) | (simp [*]; done), by repeat (first | exact Drawn0.refl _ | apply Drawn0.step)⟩
  · rw [if_neg c3] at H
    have c3b0 : ((l0.length : Int) == (l1.length : Int)) = false := beq_eq_false_iff_ne.mpr c3
    have c3b1 : ((l0.length : Int) != (l1.length : Int)) = true := bne_iff_ne.mpr c3
    have c3b2 : (l0.length == l1.length) = false := by first | simpa using c3 | (simp at c3 ⊢; omega)
    obtain rfl := Option.some.inj H
    go_enter Try.func25, Try.ntmps25
    go_wp2
    repeat (go_quiet (fail); try go_wp2)
    go_ret
    exact ⟨by first | rfl | (simp; done) | (simp [*]; done), by repeat (first | exact Drawn0.refl _ | apply Drawn0.step)⟩
end Go.Proofs.Ytndkblahnihhjaa.P

namespace Go.Proofs.Ytndkblahnihhjaa.P
open Go.RowKit Go.Proofs.YtndkblahnihhjaaW.PrintWords Go.Proofs.YtndkblahnihhjaaW.PrintLast Go.Proofs.YtndkblahnihhjaaW.PrintMore
attribute [local go_sem] max2_int min2_int max_two min_two max_three min_three max_four min_four
def laws_has.l0 : Nat → Int → List Int → Int → Int → Option (Bool)
  | 0, _, _, _, _ => none
  | k + 1, x1, x7, x8, x9 => if x9 < x8 then (if 0 ≤ x9 then (if x9 < (x7.length : Int) then (if (rd x7 x9) = x1 then (some true) else (laws_has.l0 k x1 x7 x8 (wrap64 (x9 + 1)))) else (none)) else (none)) else (some false)
def laws_has.f (k : Nat) (l0 : List Int) (a1 : Int) : Option (Bool) := laws_has.l0 k a1 l0 (l0.length : Int) 0
set_option maxHeartbeats 8000000 in
set_option maxRecDepth 100000 in
theorem laws_has.calls (k : Nat) (A0 : Option Addr) (c0 : Nat) (l0 : List Int) (a1 : Int) (r : Bool) (w : World) (hr0 : Kd.C (Kd.int .i64) w A0 l0.length l0) (hc0 : l0.length ≤ c0) (h : laws_has.f k l0 a1 = some r) :
    Calls Try.prog 26 #[.slice A0 l0.length c0, .int .i64 a1] w fun e w' => e = .returned (.bool r) ∧ Drawn0 w w' := by
  have HR0 := Aside0.mk hr0
  have HC0 := Aside0.mk hc0
  clear hr0 hc0
  have H : (laws_has.l0 k a1 l0 (l0.length : Int) 0) = some r := h
  clear h
  have H' := Aside0.mk H
  clear H
  go_enter Try.func26, Try.ntmps26
  go_wp2
  go_loopg [9] k (fun kq v9 w' => ∃ (x9_1 : Int), v9 = .int .i64 x9_1 ∧ Aside0 (laws_has.l0 kq a1 l0 (l0.length : Int) x9_1 = some r) ∧ Aside0 (kq ≤ k) ∧ Drawn0 w w')
  case atStart => exact ⟨(0), (by first | rfl | (simp; done) | (simp [*]; done)), H', ⟨Nat.le_refl _⟩, by repeat (first | exact Drawn0.refl _ | apply Drawn0.step)⟩
  case round =>
    clear H'
    try clear c2
    try clear p2
    obtain ⟨x9_1, rfl, HA, HK1, ⟨m1, rfl⟩⟩ := hrel
    cases gk with
    | zero => exact absurd HA.out (by simp [laws_has.l0])
    | succ k1 =>
      have H := HA.out
      clear HA
      simp only [laws_has.l0] at H
      by_cases c3 : x9_1 < (l0.length : Int)
      · rw [if_pos c3] at H
        have c3b0 : decide (x9_1 < (l0.length : Int)) = true := decide_eq_true c3
        clear c3
        by_cases c4 : 0 ≤ x9_1
        · rw [if_pos c4] at H
          have c4b0 : decide (0 ≤ x9_1) = true := decide_eq_true c4
          clear c4
          by_cases c5 : x9_1 < (l0.length : Int)
          · rw [if_pos c5] at H
            have c5b0 : decide (x9_1 < (l0.length : Int)) = true := decide_eq_true c5
            clear c5
            by_cases c6 : (rd l0 x9_1) = a1
            · rw [if_pos c6] at H
              have c6b0 : ((rd l0 x9_1) == a1) = true := beq_iff_eq.mpr c6
              have c6b1 : ((rd l0 x9_1) != a1) = false := bne_eq_false_iff_eq.mpr c6
              clear c6
              obtain rfl := Option.some.inj H
              have p294 : 0 ≤ (x9_1 : Int) := of_decide_eq_true (by first | (with_reducible assumption) | assumption)
              have q294 : x9_1 < (l0.length : Int) := of_decide_eq_true (by first | (with_reducible assumption) | assumption)
              obtain ⟨ad294, e294, hx294_0⟩ := Kd.at_int HR0.out x9_1 p294 q294
              cases e294
              replace p294 := eq_true p294
              replace q294 := eq_true q294
              go_wp2
              go_ret
              exact ⟨by first | rfl | (simp; done) | (simp [*]; done), by repeat (first | exact Drawn0.refl _ | apply Drawn0.step)⟩
            · rw [if_neg c6] at H
              have c6b0 : ((rd l0 x9_1) == a1) = false := beq_eq_false_iff_ne.mpr c6
              have c6b1 : ((rd l0 x9_1) != a1) = true := bne_iff_ne.mpr c6
              have H' := Aside0.mk H
              clear H
              have p294 : 0 ≤ (x9_1 : Int) := of_decide_eq_true (by first | (with_reducible assumption) | assumption)
              have q294 : x9_1 < (l0.length : Int) := of_decide_eq_true (by first | (with_reducible assumption) | assumption)
              obtain ⟨ad294, e294, hx294_0⟩ := Kd.at_int HR0.out x9_1 p294 q294
              cases e294
              replace p294 := eq_true p294
              replace q294 := eq_true q294
              go_wp2
              go_roundg k1
              case measure => have := HK1.out; omega
              case rel => exact ⟨(wrap64 (x9_1 + 1)), (by first | rfl | (simp; done) | (simp [*]; done)), H', ⟨by have := HK1.out; omega⟩, by repeat (first | exact Drawn0.refl _ | apply Drawn0.step)⟩
          · rw [if_neg c5] at H
            exact absurd H (by simp)
        · rw [if_neg c4] at H
          exact absurd H (by simp)
      · rw [if_neg c3] at H
        have c3b0 : decide (x9_1 < (l0.length : Int)) = false := decide_eq_false c3
        clear c3
        obtain rfl := Option.some.inj H
        go_wp2
        go_ret
        exact ⟨by first | rfl | (simp; done) | (simp [*]; done), by repeat (first | exact Drawn0.refl _ | apply Drawn0.step)⟩
end Go.Proofs.Ytndkblahnihhjaa.P

namespace Go.Proofs.Ytndkblahnihhjaa.H
open Go.RowKit Go.Proofs.YtndkblahnihhjaaW.PrintWords Go.Proofs.YtndkblahnihhjaaW.PrintMore
theorem Own.cursor {w W W' : World} {L : List (Nat × Array Value × TypeId)} {g : Nat} {cc : Array Value} {T : TypeId} (h : Own w W L) (hg : W.heap[g]? = some (.cells cc T (0, 0))) (hT : ∀ x ∈ L, x.2.2 ≠ T) (hk : KeepBut W W' g none) (hb : Below w.heap.size w W') : Own w W' L :=
  ⟨hb, h.base, fun x hx => (hk.2 x.1 (h.lt x hx) (fun e => by
    have := h.blk x hx
    rw [e, hg] at this
    injection this with this
    injection this with _ this
    exact hT x hx this.symm) (by simp)).trans (h.blk x hx), h.ne⟩
theorem S_cursor {α : Type} {d : Kd α} {e base : Nat} {ok : Nat → Prop} {W W' : World} {g : Nat} {v : Value} {xs : List α} (h : Kd.S d e W base (fun k => ok k ∧ k ≠ g) v xs) (hk : KeepBut W W' g none) : Kd.S d e W' base (fun k => ok k ∧ k ≠ g) v xs := Kd.S_step h (fun k hok hlt => hk.2 k hlt hok.2 (by simp))
end Go.Proofs.Ytndkblahnihhjaa.H

