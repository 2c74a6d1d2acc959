import Derived.Test.YtplcipjlkogadaaMFnDominators1
import Derived.Test.YtplcipjlkogadaaMFnDominators2
import Derived.Test.YtplcipjlkogadaaMFnDominators3
set_option linter.unusedVariables false
set_option linter.unusedSimpArgs false
set_option linter.unusedSectionVars false
namespace Go.Proofs.Ytplcipjlkogadaa.P
open Go.RowKit Go.Proofs.YtplcipjlkogadaaW.PrintWords Go.Proofs.YtplcipjlkogadaaW.PrintLast Go.Proofs.YtplcipjlkogadaaW.PrintMore
attribute [local go_sem] max2_int min2_int max_two min_two max_three min_three max_four min_four
mutual
def spec_l10Nearest.l0 : Nat → List (List Int) → List Int → List (List Int) → Int → Int → Option (List Int)
  | 0, _, _, _, _, _ => none
  | k + 1, x3, x4, x12, x13, x14 => if x14 < x13 then (if 0 ≤ x14 then (if x14 < (x12.length : Int) then (spec_l10Nearest.l1 k x3 x4 x14 (-1) x12 x13 x14 (rd_L1 x12 x14) ((rd_L1 x12 x14).length : Int) 0) else (none)) else (none)) else (some x4)
def spec_l10Nearest.l1 : Nat → List (List Int) → List Int → Int → Int → List (List Int) → Int → Int → List Int → Int → Int → Option (List Int)
  | 0, _, _, _, _, _, _, _, _, _, _ => none
  | k + 1, x3, x4, x5, x7, x12, x13, x14, x19, x20, x21 => if x21 < x20 then (if 0 ≤ x21 then (if x21 < (x19.length : Int) then (if (rd x19 x21) = x5 then (spec_l10Nearest.l1 k x3 x4 x5 x7 x12 x13 x14 x19 x20 (wrap64 (x21 + 1))) else (if x7 < 0 then (spec_l10Nearest.l1 k x3 x4 x5 (rd x19 x21) x12 x13 x14 x19 x20 (wrap64 (x21 + 1))) else (if 0 ≤ (rd x19 x21) then (if (rd x19 x21) < (x3.length : Int) then (if 0 ≤ x7 then (if x7 < (x3.length : Int) then (if ((rd_L1 x3 (rd x19 x21)).length : Int) > ((rd_L1 x3 x7).length : Int) then (spec_l10Nearest.l1 k x3 x4 x5 (rd x19 x21) x12 x13 x14 x19 x20 (wrap64 (x21 + 1))) else (spec_l10Nearest.l1 k x3 x4 x5 x7 x12 x13 x14 x19 x20 (wrap64 (x21 + 1)))) else (none)) else (none)) else (none)) else (none)))) else (none)) else (none)) else (if x4.length < 17592186044416 then (spec_l10Nearest.l0 k x3 (x4 ++ [x7]) x12 x13 (wrap64 (x14 + 1))) else (none))
end
def spec_l10Nearest.f (k : Nat) (l0_0 : List (List Int)) : Option (List Int) := (spec_l10Dominators.f l0_0).bind fun t297 => (spec_l10Nearest.l0 k t297 ([] : List Int) t297 (t297.length : Int) 0)
set_option maxHeartbeats 8000000 in
set_option maxRecDepth 100000 in
theorem spec_l10Nearest.calls (k : Nat) (A0_0 : Option Addr) (c0_0 : Nat) (l0_0 : List (List Int)) (r : List Int) (w : World) (hr0_0 : Kd.C (Kd.slice 3 (Kd.int .i64)) w A0_0 l0_0.length l0_0) (hc0_0 : l0_0.length ≤ c0_0) (h : spec_l10Nearest.f k l0_0 = some r) :
    Calls Try.prog 71 #[.agg #[.slice A0_0 l0_0.length c0_0]] w fun e w' => ∃ v0_ : Value, e = .returned (v0_) ∧ Kd.R (Kd.int .i64) 3 w' w.heap.size (fun _ => True) v0_ r ∧ Below w.heap.size w w' := by
  have hu27 := Try.underlying27
  have HR0_0 := Aside0.mk hr0_0
  have HC0_0 := Aside0.mk hc0_0
  clear hr0_0 hc0_0
  have HB := Aside0.mk (Below.refl w.heap.size w)
  have H : ((spec_l10Dominators.f l0_0).bind fun t297 => (spec_l10Nearest.l0 k t297 ([] : List Int) t297 (t297.length : Int) 0)) = some r := h
  clear h
  replace H := Option.bind_eq_some_iff.mp H
  obtain ⟨t297, A20, H⟩ := H
  replace H : (spec_l10Nearest.l0 k t297 ([] : List Int) t297 (t297.length : Int) 0) = some r := H
  have A2 := Aside0.mk A20
  clear A20
  have H' := Aside0.mk H
  clear H
  go_enter Try.func71, Try.ntmps71
  go_wp2_with (first | ((with_reducible refine gate_dst (N := 1) rfl ?_); (try (refine gate_guard (by rfl) ?_; dsimp only)); refine box_event ?hg (N := 1) ?hd (cs := #[.slice A0_0 l0_0.length c0_0]) (t := 27) ?hr ?_; (case hd => rfl); (case hg => rfl); (case hr => first | (go_simp; done) | (go_simp; rfl)); intro gb296 hg w3 hbox hb; have n0_ := Aside0.mk (below_step (by repeat (first | (with_reducible first | exact HB.out | apply below_alloc | apply pw_below_drewN | apply below_drew1) | exact HB.out)) hb); have n1_ := Aside0.mk (hbox); have n2_ := Aside0.mk ((by rw [hg]; exact (below_size (by repeat (first | (with_reducible first | exact HB.out | apply below_alloc | apply pw_below_drewN | apply below_drew1) | exact HB.out))) : w.heap.size ≤ gb296)); have n3_ := Aside0.mk ((by rw [hg]; exact (below_size (by repeat (first | (with_reducible first | exact HB.out | apply below_alloc | apply pw_below_drewN | apply below_drew1) | exact HB.out))) : w.heap.size ≤ gb296)); clear HB; have HB := n0_; have BK296 := n1_; have GW296 := n2_; have GE296 := n3_; clear n0_ n1_ n2_ n3_; clear hb hbox hg; have hcz4_0 : w3.cell? ⟨gb296, 0, none⟩ = some (.slice A0_0 l0_0.length c0_0) := (blk_cell BK296.out 0).trans rfl; have hfz4_0 := blk_frozen BK296.out 0) | (go_at_call 64; (with_reducible refine (spec_l10Dominators.calls _ _ l0_0 t297 _ ?side1 ?side2 A2.out).mono ?_); (case side1 => repeat (first | exact (Kd.C_below HR0_0.out HB.out) | (with_reducible refine Kd.C_alloc ?_ _) | (with_reducible refine Kd.C_drewN ?_ _) | (with_reducible refine Kd.C_drew ?_))); (case side2 => exact HC0_0.out); rintro e w5 ⟨v298, rfl, ho0, hb⟩; have n0_ := Aside0.mk (Kd.S_lower ho0 (below_size (by repeat (first | (with_reducible first | exact HB.out | apply below_alloc | apply pw_below_drewN | apply below_drew1 | refine below_set ?_ GE296.out) | exact HB.out)))); have n1_ := Aside0.mk (blk_below (g := gb296) (o := .cells #[.slice A0_0 l0_0.length c0_0] 27 (0, 0)) (by (with_reducible repeat (first | refine blk_drewN ?_ _ | refine blk_drew ?_ | refine blk_alloc ?_ _)); exact BK296.out) hb); have n2_ := Aside0.mk (below_step (by repeat (first | (with_reducible first | exact HB.out | apply below_alloc | apply pw_below_drewN | apply below_drew1 | refine below_set ?_ GE296.out) | exact HB.out)) hb); clear BK296; clear HB; have HO299 := n0_; have BK296 := n1_; have HB := n2_; clear n0_ n1_ n2_; (try clear hb); (try clear hb2); (try clear hk); (try clear hi); (try clear ho0); obtain ⟨Ao6, co6, eo6⟩ := Kd.S_slice HO299.out; subst eo6))
  repeat (go_quiet (first | ((with_reducible refine gate_dst (N := 1) rfl ?_); (try (refine gate_guard (by rfl) ?_; dsimp only)); refine box_event ?hg (N := 1) ?hd (cs := #[.slice A0_0 l0_0.length c0_0]) (t := 27) ?hr ?_; (case hd => rfl); (case hg => rfl); (case hr => first | (go_simp; done) | (go_simp; rfl)); intro gb296 hg w3 hbox hb; have n0_ := Aside0.mk (below_step (by repeat (first | (with_reducible first | exact HB.out | apply below_alloc | apply pw_below_drewN | apply below_drew1) | exact HB.out)) hb); have n1_ := Aside0.mk (hbox); have n2_ := Aside0.mk ((by rw [hg]; exact (below_size (by repeat (first | (with_reducible first | exact HB.out | apply below_alloc | apply pw_below_drewN | apply below_drew1) | exact HB.out))) : w.heap.size ≤ gb296)); have n3_ := Aside0.mk ((by rw [hg]; exact (below_size (by repeat (first | (with_reducible first | exact HB.out | apply below_alloc | apply pw_below_drewN | apply below_drew1) | exact HB.out))) : w.heap.size ≤ gb296)); clear HB; have HB := n0_; have BK296 := n1_; have GW296 := n2_; have GE296 := n3_; clear n0_ n1_ n2_ n3_; clear hb hbox hg; have hcz4_0 : w3.cell? ⟨gb296, 0, none⟩ = some (.slice A0_0 l0_0.length c0_0) := (blk_cell BK296.out 0).trans rfl; have hfz4_0 := blk_frozen BK296.out 0) | (go_at_call 64; (with_reducible refine (spec_l10Dominators.calls _ _ l0_0 t297 _ ?side1 ?side2 A2.out).mono ?_); (case side1 => repeat (first | exact (Kd.C_below HR0_0.out HB.out) | (with_reducible refine Kd.C_alloc ?_ _) | (with_reducible refine Kd.C_drewN ?_ _) | (with_reducible refine Kd.C_drew ?_))); (case side2 => exact HC0_0.out); rintro e w5 ⟨v298, rfl, ho0, hb⟩; have n0_ := Aside0.mk (Kd.S_lower ho0 (below_size (by repeat (first | (with_reducible first | exact HB.out | apply below_alloc | apply pw_below_drewN | apply below_drew1 | refine below_set ?_ GE296.out) | exact HB.out)))); have n1_ := Aside0.mk (blk_below (g := gb296) (o := .cells #[.slice A0_0 l0_0.length c0_0] 27 (0, 0)) (by (with_reducible repeat (first | refine blk_drewN ?_ _ | refine blk_drew ?_ | refine blk_alloc ?_ _)); exact BK296.out) hb); have n2_ := Aside0.mk (below_step (by repeat (first | (with_reducible first | exact HB.out | apply below_alloc | apply pw_below_drewN | apply below_drew1 | refine below_set ?_ GE296.out) | exact HB.out)) hb); clear BK296; clear HB; have HO299 := n0_; have BK296 := n1_; have HB := n2_; clear n0_ n1_ n2_; (try clear hb); (try clear hb2); (try clear hk); (try clear hi); (try clear ho0); obtain ⟨Ao6, co6, eo6⟩ := Kd.S_slice HO299.out; subst eo6)); try go_wp2_with (first | ((with_reducible refine gate_dst (N := 1) rfl ?_); (try (refine gate_guard (by rfl) ?_; dsimp only)); refine box_event ?hg (N := 1) ?hd (cs := #[.slice A0_0 l0_0.length c0_0]) (t := 27) ?hr ?_; (case hd => rfl); (case hg => rfl); (case hr => first | (go_simp; done) | (go_simp; rfl)); intro gb296 hg w3 hbox hb; have n0_ := Aside0.mk (below_step (by repeat (first | (with_reducible first | exact HB.out | apply below_alloc | apply pw_below_drewN | apply below_drew1) | exact HB.out)) hb); have n1_ := Aside0.mk (hbox); have n2_ := Aside0.mk ((by rw [hg]; exact (below_size (by repeat (first | (with_reducible first | exact HB.out | apply below_alloc | apply pw_below_drewN | apply below_drew1) | exact HB.out))) : w.heap.size ≤ gb296)); have n3_ := Aside0.mk ((by rw [hg]; exact (below_size (by repeat (first | (with_reducible first | exact HB.out | apply below_alloc | apply pw_below_drewN | apply below_drew1) | exact HB.out))) : w.heap.size ≤ gb296)); clear HB; have HB := n0_; have BK296 := n1_; have GW296 := n2_; have GE296 := n3_; clear n0_ n1_ n2_ n3_; clear hb hbox hg; have hcz4_0 : w3.cell? ⟨gb296, 0, none⟩ = some (.slice A0_0 l0_0.length c0_0) := (blk_cell BK296.out 0).trans rfl; have hfz4_0 := blk_frozen BK296.out 0) | (go_at_call 64; (with_reducible refine (spec_l10Dominators.calls _ _ l0_0 t297 _ ?side1 ?side2 A2.out).mono ?_); (case side1 => repeat (first | exact (Kd.C_below HR0_0.out HB.out) | (with_reducible refine Kd.C_alloc ?_ _) | (with_reducible refine Kd.C_drewN ?_ _) | (with_reducible refine Kd.C_drew ?_))); (case side2 => exact HC0_0.out); rintro e w5 ⟨v298, rfl, ho0, hb⟩; have n0_ := Aside0.mk (Kd.S_lower ho0 (below_size (by repeat (first | (with_reducible first | exact HB.out | apply below_alloc | apply pw_below_drewN | apply below_drew1 | refine below_set ?_ GE296.out) | exact HB.out)))); have n1_ := Aside0.mk (blk_below (g := gb296) (o := .cells #[.slice A0_0 l0_0.length c0_0] 27 (0, 0)) (by (with_reducible repeat (first | refine blk_drewN ?_ _ | refine blk_drew ?_ | refine blk_alloc ?_ _)); exact BK296.out) hb); have n2_ := Aside0.mk (below_step (by repeat (first | (with_reducible first | exact HB.out | apply below_alloc | apply pw_below_drewN | apply below_drew1 | refine below_set ?_ GE296.out) | exact HB.out)) hb); clear BK296; clear HB; have HO299 := n0_; have BK296 := n1_; have HB := n2_; clear n0_ n1_ n2_; (try clear hb); (try clear hb2); (try clear hk); (try clear hi); (try clear ho0); obtain ⟨Ao6, co6, eo6⟩ := Kd.S_slice HO299.out; subst eo6)))
  go_loopg [4, 14] k (fun kq v4 v14 w' => ∃ (x4_1 : List Int) (x14_1 : Int), v14 = .int .i64 x14_1 ∧ Aside0 (spec_l10Nearest.l0 kq t297 x4_1 t297 (t297.length : Int) x14_1 = some r) ∧ Aside0 (kq ≤ k) ∧ Aside0 (Kd.S (Kd.slice 3 (Kd.int .i64)) 31 w' w.heap.size (fun k_ => some k_ ≠ (v4 : Value).ownBlock) (.slice Ao6 t297.length co6) t297) ∧ Aside0 (Kd.R (Kd.int .i64) 3 w' w.heap.size (fun _ => True) v4 x4_1) ∧ Aside0 (Kd.S (Kd.slice 3 (Kd.int .i64)) 31 w' w.heap.size (fun k_ => some k_ ≠ (v4 : Value).ownBlock) (.slice Ao6 t297.length co6) t297) ∧ Aside0 (w'.heap[gb296]? = some (.cells #[(.slice A0_0 l0_0.length c0_0)] 27 (0, 0))) ∧ Aside0 (Below w.heap.size w w'))
  case atStart => exact ⟨(([] : List Int)), (0), (by first | rfl | (simp; done) | (simp [*]; done)), H', ⟨Nat.le_refl _⟩, ⟨by (with_reducible repeat (first | apply Kd.S_alloc | apply Kd.S_drewN | apply Kd.S_drew)); exact Kd.S_mono HO299.out (fun _ hk => (by simp [Value.ownBlock]))⟩, ⟨by first | exact Kd.R_nil _ _ _ _ _ | exact Kd.N_nil _ _ _ _ _ | exact Kd.V_nil _ _ _ _ _ | exact Kd.Q_nil _ _ _ _ _ | exact Kd.S_nil _ _ _ _ _⟩, ⟨by (with_reducible repeat (first | apply Kd.S_alloc | apply Kd.S_drewN | apply Kd.S_drew)); exact Kd.S_mono HO299.out (fun _ hk => (by simp [Value.ownBlock]))⟩, ⟨by (with_reducible repeat (first | refine blk_drewN ?_ _ | refine blk_drew ?_ | refine blk_alloc ?_ _)); exact BK296.out⟩, ⟨by repeat (first | (with_reducible first | exact HB.out | apply below_alloc | apply pw_below_drewN | apply below_drew1 | refine below_set ?_ GE296.out) | exact HB.out)⟩⟩
  case round =>
    clear H'
    try clear p2
    try clear hcz4_0
    try clear hfz4_0
    obtain ⟨x4_1, x14_1, rfl, HA, HK1, HO_3, HO_4, HO_12, BK296, HB⟩ := hrel
    cases gk with
    | zero => exact absurd HA.out (by simp [spec_l10Nearest.l0])
    | succ k1 =>
      have H := HA.out
      clear HA
      simp only [spec_l10Nearest.l0] at H
      by_cases c7 : x14_1 < (t297.length : Int)
      · rw [if_pos c7] at H
        have c7b0 : decide (x14_1 < (t297.length : Int)) = true := decide_eq_true c7
        clear c7
        by_cases c8 : 0 ≤ x14_1
        · rw [if_pos c8] at H
          have c8b0 : decide (0 ≤ x14_1) = true := decide_eq_true c8
          clear c8
          by_cases c9 : x14_1 < (t297.length : Int)
          · rw [if_pos c9] at H
            have c9b0 : decide (x14_1 < (t297.length : Int)) = true := decide_eq_true c9
            clear c9
            have H' := Aside0.mk H
            clear H
            have p300 : 0 ≤ (x14_1 : Int) := of_decide_eq_true (by first | (with_reducible assumption) | assumption)
            have q300 : x14_1 < (t297.length : Int) := of_decide_eq_true (by first | (with_reducible assumption) | assumption)
            obtain ⟨ad300, A300_0, c300_0, e300, hx300_0, hl300_0, hi300_0⟩ := at_L1 (Kd.S_reads' HO_12.out).2.2 x14_1 p300 q300
            cases e300
            obtain ⟨ce300, hce300, hMe300, hcc300⟩ := Kd.S_get HO_12.out [] x14_1 p300 (by first | exact q300 | exact of_decide_eq_true (by first | (with_reducible assumption) | assumption) | (have e_ := (Kd.S_reads' HO_12.out).1; omega))
            obtain ⟨ve300_0, rfl, ge300_0⟩ := hMe300
            have hv300_0 := hcc300 0 _ rfl
            rw [Nat.add_zero, show ((Kd.slice 3 (Kd.int .i64))).sz = 1 from rfl, Nat.mul_one] at hv300_0
            replace hv300_0 := Option.some.inj (hv300_0.symm.trans hx300_0)
            rw [hv300_0] at ge300_0
            have HL300_0 := Aside0.mk (show Kd.R (Kd.int .i64) 3 _ _ _ _ (rd_L1 t297 x14_1) from ge300_0)
            clear hv300_0 ge300_0
            clear hcc300 hce300
            have HR300_0 := Aside0.mk hi300_0
            have HC300_0 := Aside0.mk hl300_0
            clear hi300_0 hl300_0
            replace p300 := eq_true p300
            replace q300 := eq_true q300
            go_wp2
            repeat (go_quiet (fail); try go_wp2)
            go_loopg [7, 21] k1 (fun kq v7 v21 w' => ∃ (x7_2 : Int) (x21_2 : Int), v7 = .int .i64 x7_2 ∧ v21 = .int .i64 x21_2 ∧ Aside0 (spec_l10Nearest.l1 kq t297 x4_1 x14_1 x7_2 t297 (t297.length : Int) x14_1 (rd_L1 t297 x14_1) ((rd_L1 t297 x14_1).length : Int) x21_2 = some r) ∧ Aside0 (kq ≤ k1) ∧ Aside0 (Kd.S (Kd.slice 3 (Kd.int .i64)) 31 w' w.heap.size (fun k_ => some k_ ≠ (u4 : Value).ownBlock) (.slice (some ad300) t297.length co6) t297) ∧ Aside0 (Kd.R (Kd.int .i64) 3 w' w.heap.size (fun _ => True) u4 x4_1) ∧ Aside0 (Kd.S (Kd.slice 3 (Kd.int .i64)) 31 w' w.heap.size (fun k_ => some k_ ≠ (u4 : Value).ownBlock) (.slice (some ad300) t297.length co6) t297) ∧ Aside0 (w'.heap[gb296]? = some (.cells #[(.slice A0_0 l0_0.length c0_0)] 27 (0, 0))) ∧ Aside0 (Kd.C (Kd.int .i64) w' A300_0 (rd_L1 t297 x14_1).length (rd_L1 t297 x14_1)) ∧ Aside0 (Below w.heap.size w w'))
            case atStart => exact ⟨((-1)), (0), (by first | rfl | (simp; done) | (simp [*]; done)), (by first | rfl | (simp; done) | (simp [*]; done)), H', ⟨Nat.le_refl _⟩, ⟨by (with_reducible repeat (first | apply Kd.S_alloc | apply Kd.S_drewN | apply Kd.S_drew)); exact HO_3.out⟩, ⟨by (with_reducible repeat (first | apply Kd.R_alloc | apply Kd.R_drewN | apply Kd.R_drew)); exact HO_4.out⟩, ⟨by (with_reducible repeat (first | apply Kd.S_alloc | apply Kd.S_drewN | apply Kd.S_drew)); exact HO_12.out⟩, ⟨by (with_reducible repeat (first | refine blk_drewN ?_ _ | refine blk_drew ?_ | refine blk_alloc ?_ _)); exact BK296.out⟩, ⟨by repeat (first | (with_reducible exact HR300_0.out) | (with_reducible refine Kd.C_alloc ?_ _) | (with_reducible refine Kd.C_drewN ?_ _) | (with_reducible refine Kd.C_drew ?_) | exact HR300_0.out)⟩, ⟨by repeat (first | (with_reducible first | exact HB.out | apply below_alloc | apply pw_below_drewN | apply below_drew1 | refine below_set ?_ GE296.out) | exact HB.out)⟩⟩
            case round =>
              clear H'
              try clear p2
              try clear c3
              try clear p3
              try clear q3
              try clear hx3
              try clear c7
              try clear c7b0
              try clear c8
              try clear c8b0
              try clear c9
              try clear c9b0
              try clear hcz4_0
              try clear hfz4_0
              try clear hx300_0
              try clear p2
              try clear p300
              try clear q300
              obtain ⟨x7_2, x21_2, rfl, rfl, HA, HK2, HO_3, HO_4, HO_12, BK296, HR300_0, HB⟩ := hrel
              cases gk with
              | zero => exact absurd HA.out (by simp [spec_l10Nearest.l1])
              | succ k2 =>
                have H := HA.out
                clear HA
                simp only [spec_l10Nearest.l1] at H
                by_cases c10 : x21_2 < ((rd_L1 t297 x14_1).length : Int)
                · rw [if_pos c10] at H
                  have c10b0 : decide (x21_2 < ((rd_L1 t297 x14_1).length : Int)) = true := decide_eq_true c10
                  clear c10
                  by_cases c11 : 0 ≤ x21_2
                  · rw [if_pos c11] at H
                    have c11b0 : decide (0 ≤ x21_2) = true := decide_eq_true c11
                    clear c11
                    by_cases c12 : x21_2 < ((rd_L1 t297 x14_1).length : Int)
                    · rw [if_pos c12] at H
                      have c12b0 : decide (x21_2 < ((rd_L1 t297 x14_1).length : Int)) = true := decide_eq_true c12
                      clear c12
                      by_cases c13 : (rd (rd_L1 t297 x14_1) x21_2) = x14_1
                      · rw [if_pos c13] at H
                        have c13b0 : ((rd (rd_L1 t297 x14_1) x21_2) == x14_1) = true := beq_iff_eq.mpr c13
                        have c13b1 : ((rd (rd_L1 t297 x14_1) x21_2) != x14_1) = false := bne_eq_false_iff_eq.mpr c13
                        clear c13
                        as_aux_lemma =>
                          have H' := Aside0.mk H
                          clear H
                          have p301 : 0 ≤ (x21_2 : Int) := of_decide_eq_true (by first | (with_reducible assumption) | assumption)
                          have q301 : x21_2 < ((rd_L1 t297 x14_1).length : Int) := of_decide_eq_true (by first | (with_reducible assumption) | assumption)
                          obtain ⟨ad301, e301, hx301_0⟩ := Kd.at_int HR300_0.out x21_2 p301 q301
                          cases e301
                          try replace hx301_0 := (HB.out.cell (World.block_lt_of_cell? w _ hx301_0)).trans hx301_0
                          replace p301 := eq_true p301
                          replace q301 := eq_true q301
                          go_wp2
                          repeat (go_quiet (fail); try go_wp2)
                          go_roundg k2
                          case measure => have := HK1.out; have := HK2.out; omega
                          case rel => exact ⟨(x7_2), (wrap64 (x21_2 + 1)), (by first | rfl | (simp; done) | (simp [*]; done)), (by first | rfl | (simp; done) | (simp [*]; done)), H', ⟨by have := HK1.out; have := HK2.out; omega⟩, ⟨by (with_reducible repeat (first | apply Kd.S_alloc | apply Kd.S_drewN | apply Kd.S_drew)); exact HO_3.out⟩, ⟨by (with_reducible repeat (first | apply Kd.R_alloc | apply Kd.R_drewN | apply Kd.R_drew)); exact HO_4.out⟩, ⟨by (with_reducible repeat (first | apply Kd.S_alloc | apply Kd.S_drewN | apply Kd.S_drew)); exact HO_12.out⟩, ⟨by (with_reducible repeat (first | refine blk_drewN ?_ _ | refine blk_drew ?_ | refine blk_alloc ?_ _)); exact BK296.out⟩, ⟨by repeat (first | (with_reducible exact HR300_0.out) | (with_reducible refine Kd.C_alloc ?_ _) | (with_reducible refine Kd.C_drewN ?_ _) | (with_reducible refine Kd.C_drew ?_) | exact HR300_0.out)⟩, ⟨by repeat (first | (with_reducible first | exact HB.out | apply below_alloc | apply pw_below_drewN | apply below_drew1 | refine below_set ?_ GE296.out) | exact HB.out)⟩⟩
                      · rw [if_neg c13] at H
                        have c13b0 : ((rd (rd_L1 t297 x14_1) x21_2) == x14_1) = false := beq_eq_false_iff_ne.mpr c13
                        have c13b1 : ((rd (rd_L1 t297 x14_1) x21_2) != x14_1) = true := bne_iff_ne.mpr c13
                        by_cases c14 : x7_2 < 0
                        · rw [if_pos c14] at H
                          have c14b0 : decide (x7_2 < 0) = true := decide_eq_true c14
                          clear c14
                          as_aux_lemma =>
                            have H' := Aside0.mk H
                            clear H
                            have p301 : 0 ≤ (x21_2 : Int) := of_decide_eq_true (by first | (with_reducible assumption) | assumption)
                            have q301 : x21_2 < ((rd_L1 t297 x14_1).length : Int) := of_decide_eq_true (by first | (with_reducible assumption) | assumption)
                            obtain ⟨ad301, e301, hx301_0⟩ := Kd.at_int HR300_0.out x21_2 p301 q301
                            cases e301
                            try replace hx301_0 := (HB.out.cell (World.block_lt_of_cell? w _ hx301_0)).trans hx301_0
                            replace p301 := eq_true p301
                            replace q301 := eq_true q301
                            go_wp2
                            repeat (go_quiet (fail); try go_wp2)
                            go_roundg k2
                            case measure => have := HK1.out; have := HK2.out; omega
                            case rel => exact ⟨(rd (rd_L1 t297 x14_1) x21_2), (wrap64 (x21_2 + 1)), (by first | rfl | (simp; done) | (simp [*]; done)), (by first | rfl | (simp; done) | (simp [*]; done)), H', ⟨by have := HK1.out; have := HK2.out; omega⟩, ⟨by (with_reducible repeat (first | apply Kd.S_alloc | apply Kd.S_drewN | apply Kd.S_drew)); exact HO_3.out⟩, ⟨by (with_reducible repeat (first | apply Kd.R_alloc | apply Kd.R_drewN | apply Kd.R_drew)); exact HO_4.out⟩, ⟨by (with_reducible repeat (first | apply Kd.S_alloc | apply Kd.S_drewN | apply Kd.S_drew)); exact HO_12.out⟩, ⟨by (with_reducible repeat (first | refine blk_drewN ?_ _ | refine blk_drew ?_ | refine blk_alloc ?_ _)); exact BK296.out⟩, ⟨by repeat (first | (with_reducible exact HR300_0.out) | (with_reducible refine Kd.C_alloc ?_ _) | (with_reducible refine Kd.C_drewN ?_ _) | (with_reducible refine Kd.C_drew ?_) | exact HR300_0.out)⟩, ⟨by repeat (first | (with_reducible first | exact HB.out | apply below_alloc | apply pw_below_drewN | apply below_drew1 | refine below_set ?_ GE296.out) | exact HB.out)⟩⟩
                        · rw [if_neg c14] at H
                          have c14b0 : decide (x7_2 < 0) = false := decide_eq_false c14
                          clear c14
                          by_cases c15 : 0 ≤ (rd (rd_L1 t297 x14_1) x21_2)
                          · rw [if_pos c15] at H
                            have c15b0 : decide (0 ≤ (rd (rd_L1 t297 x14_1) x21_2)) = true := decide_eq_true c15
                            clear c15
                            by_cases c16 : (rd (rd_L1 t297 x14_1) x21_2) < (t297.length : Int)
                            · rw [if_pos c16] at H
                              have c16b0 : decide ((rd (rd_L1 t297 x14_1) x21_2) < (t297.length : Int)) = true := decide_eq_true c16
                              clear c16
                              by_cases c17 : 0 ≤ x7_2
                              · rw [if_pos c17] at H
                                have c17b0 : decide (0 ≤ x7_2) = true := decide_eq_true c17
                                clear c17
                                by_cases c18 : x7_2 < (t297.length : Int)
                                · rw [if_pos c18] at H
                                  have c18b0 : decide (x7_2 < (t297.length : Int)) = true := decide_eq_true c18
                                  clear c18
                                  by_cases c19 : ((rd_L1 t297 (rd (rd_L1 t297 x14_1) x21_2)).length : Int) > ((rd_L1 t297 x7_2).length : Int)
                                  · rw [if_pos c19] at H
                                    have c19b0 : decide (((rd_L1 t297 x7_2).length : Int) < ((rd_L1 t297 (rd (rd_L1 t297 x14_1) x21_2)).length : Int)) = true := decide_eq_true c19
                                    have c19b1 : decide ((rd_L1 t297 x7_2).length < (rd_L1 t297 (rd (rd_L1 t297 x14_1) x21_2)).length) = true := decide_eq_true (Int.ofNat_lt.mp c19)
                                    clear c19
                                    as_aux_lemma =>
                                      have H' := Aside0.mk H
                                      clear H
                                      have p301 : 0 ≤ (x21_2 : Int) := of_decide_eq_true (by first | (with_reducible assumption) | assumption)
                                      have q301 : x21_2 < ((rd_L1 t297 x14_1).length : Int) := of_decide_eq_true (by first | (with_reducible assumption) | assumption)
                                      obtain ⟨ad301, e301, hx301_0⟩ := Kd.at_int HR300_0.out x21_2 p301 q301
                                      cases e301
                                      try replace hx301_0 := (HB.out.cell (World.block_lt_of_cell? w _ hx301_0)).trans hx301_0
                                      replace p301 := eq_true p301
                                      replace q301 := eq_true q301
                                      have p302 : 0 ≤ ((rd (rd_L1 t297 x14_1) x21_2) : Int) := of_decide_eq_true (by first | (with_reducible assumption) | assumption)
                                      have q302 : (rd (rd_L1 t297 x14_1) x21_2) < (t297.length : Int) := of_decide_eq_true (by first | (with_reducible assumption) | assumption)
                                      obtain ⟨ad302, A302_0, c302_0, e302, hx302_0, hl302_0, hi302_0⟩ := at_L1 (Kd.S_reads' HO_3.out).2.2 (rd (rd_L1 t297 x14_1) x21_2) p302 q302
                                      obtain rfl : ad300 = ad302 := (by injection e302)
                                      obtain ⟨ce302, hce302, hMe302, hcc302⟩ := Kd.S_get HO_3.out [] (rd (rd_L1 t297 x14_1) x21_2) p302 (by first | exact q302 | exact of_decide_eq_true (by first | (with_reducible assumption) | assumption) | (have e_ := (Kd.S_reads' HO_3.out).1; omega))
                                      obtain ⟨ve302_0, rfl, ge302_0⟩ := hMe302
                                      have hv302_0 := hcc302 0 _ rfl
                                      rw [Nat.add_zero, show ((Kd.slice 3 (Kd.int .i64))).sz = 1 from rfl, Nat.mul_one] at hv302_0
                                      replace hv302_0 := Option.some.inj (hv302_0.symm.trans hx302_0)
                                      rw [hv302_0] at ge302_0
                                      have HL302_0 := Aside0.mk (show Kd.R (Kd.int .i64) 3 _ _ _ _ (rd_L1 t297 (rd (rd_L1 t297 x14_1) x21_2)) from ge302_0)
                                      clear hv302_0 ge302_0
                                      clear hcc302 hce302
                                      have HR302_0 := Aside0.mk hi302_0
                                      have HC302_0 := Aside0.mk hl302_0
                                      clear hi302_0 hl302_0
                                      replace p302 := eq_true p302
                                      replace q302 := eq_true q302
                                      have p303 : 0 ≤ (x7_2 : Int) := of_decide_eq_true (by first | (with_reducible assumption) | assumption)
                                      have q303 : x7_2 < (t297.length : Int) := of_decide_eq_true (by first | (with_reducible assumption) | assumption)
                                      obtain ⟨ad303, A303_0, c303_0, e303, hx303_0, hl303_0, hi303_0⟩ := at_L1 (Kd.S_reads' HO_3.out).2.2 x7_2 p303 q303
                                      obtain rfl : ad300 = ad303 := (by injection e303)
                                      obtain ⟨ce303, hce303, hMe303, hcc303⟩ := Kd.S_get HO_3.out [] x7_2 p303 (by first | exact q303 | exact of_decide_eq_true (by first | (with_reducible assumption) | assumption) | (have e_ := (Kd.S_reads' HO_3.out).1; omega))
                                      obtain ⟨ve303_0, rfl, ge303_0⟩ := hMe303
                                      have hv303_0 := hcc303 0 _ rfl
                                      rw [Nat.add_zero, show ((Kd.slice 3 (Kd.int .i64))).sz = 1 from rfl, Nat.mul_one] at hv303_0
                                      replace hv303_0 := Option.some.inj (hv303_0.symm.trans hx303_0)
                                      rw [hv303_0] at ge303_0
                                      have HL303_0 := Aside0.mk (show Kd.R (Kd.int .i64) 3 _ _ _ _ (rd_L1 t297 x7_2) from ge303_0)
                                      clear hv303_0 ge303_0
                                      clear hcc303 hce303
                                      have HR303_0 := Aside0.mk hi303_0
                                      have HC303_0 := Aside0.mk hl303_0
                                      clear hi303_0 hl303_0
                                      replace p303 := eq_true p303
                                      replace q303 := eq_true q303
                                      go_wp2
                                      repeat (go_quiet (fail); try go_wp2)
                                      go_roundg k2
                                      case measure => have := HK1.out; have := HK2.out; omega
                                      case rel => exact ⟨(rd (rd_L1 t297 x14_1) x21_2), (wrap64 (x21_2 + 1)), (by first | rfl | (simp; done) | (simp [*]; done)), (by first | rfl | (simp; done) | (simp [*]; done)), H', ⟨by have := HK1.out; have := HK2.out; omega⟩, ⟨by (with_reducible repeat (first | apply Kd.S_alloc | apply Kd.S_drewN | apply Kd.S_drew)); exact HO_3.out⟩, ⟨by (with_reducible repeat (first | apply Kd.R_alloc | apply Kd.R_drewN | apply Kd.R_drew)); exact HO_4.out⟩, ⟨by (with_reducible repeat (first | apply Kd.S_alloc | apply Kd.S_drewN | apply Kd.S_drew)); exact HO_12.out⟩, ⟨by (with_reducible repeat (first | refine blk_drewN ?_ _ | refine blk_drew ?_ | refine blk_alloc ?_ _)); exact BK296.out⟩, ⟨by repeat (first | (with_reducible exact HR300_0.out) | (with_reducible refine Kd.C_alloc ?_ _) | (with_reducible refine Kd.C_drewN ?_ _) | (with_reducible refine Kd.C_drew ?_) | exact HR300_0.out)⟩, ⟨by repeat (first | (with_reducible first | exact HB.out | apply below_alloc | apply pw_below_drewN | apply below_drew1 | refine below_set ?_ GE296.out) | exact HB.out)⟩⟩
                                  · rw [if_neg c19] at H
                                    have c19b0 : decide (((rd_L1 t297 x7_2).length : Int) < ((rd_L1 t297 (rd (rd_L1 t297 x14_1) x21_2)).length : Int)) = false := decide_eq_false c19
                                    have c19b1 : decide ((rd_L1 t297 x7_2).length < (rd_L1 t297 (rd (rd_L1 t297 x14_1) x21_2)).length) = false := decide_eq_false (fun h => c19 (Int.ofNat_lt.mpr h))
                                    clear c19
                                    as_aux_lemma =>
                                      have H' := Aside0.mk H
                                      clear H
                                      have p301 : 0 ≤ (x21_2 : Int) := of_decide_eq_true (by first | (with_reducible assumption) | assumption)
                                      have q301 : x21_2 < ((rd_L1 t297 x14_1).length : Int) := of_decide_eq_true (by first | (with_reducible assumption) | assumption)
                                      obtain ⟨ad301, e301, hx301_0⟩ := Kd.at_int HR300_0.out x21_2 p301 q301
                                      cases e301
                                      try replace hx301_0 := (HB.out.cell (World.block_lt_of_cell? w _ hx301_0)).trans hx301_0
                                      replace p301 := eq_true p301
                                      replace q301 := eq_true q301
                                      have p302 : 0 ≤ ((rd (rd_L1 t297 x14_1) x21_2) : Int) := of_decide_eq_true (by first | (with_reducible assumption) | assumption)
                                      have q302 : (rd (rd_L1 t297 x14_1) x21_2) < (t297.length : Int) := of_decide_eq_true (by first | (with_reducible assumption) | assumption)
                                      obtain ⟨ad302, A302_0, c302_0, e302, hx302_0, hl302_0, hi302_0⟩ := at_L1 (Kd.S_reads' HO_3.out).2.2 (rd (rd_L1 t297 x14_1) x21_2) p302 q302
                                      obtain rfl : ad300 = ad302 := (by injection e302)
                                      obtain ⟨ce302, hce302, hMe302, hcc302⟩ := Kd.S_get HO_3.out [] (rd (rd_L1 t297 x14_1) x21_2) p302 (by first | exact q302 | exact of_decide_eq_true (by first | (with_reducible assumption) | assumption) | (have e_ := (Kd.S_reads' HO_3.out).1; omega))
                                      obtain ⟨ve302_0, rfl, ge302_0⟩ := hMe302
                                      have hv302_0 := hcc302 0 _ rfl
                                      rw [Nat.add_zero, show ((Kd.slice 3 (Kd.int .i64))).sz = 1 from rfl, Nat.mul_one] at hv302_0
                                      replace hv302_0 := Option.some.inj (hv302_0.symm.trans hx302_0)
                                      rw [hv302_0] at ge302_0
                                      have HL302_0 := Aside0.mk (show Kd.R (Kd.int .i64) 3 _ _ _ _ (rd_L1 t297 (rd (rd_L1 t297 x14_1) x21_2)) from ge302_0)
                                      clear hv302_0 ge302_0
                                      clear hcc302 hce302
                                      have HR302_0 := Aside0.mk hi302_0
                                      have HC302_0 := Aside0.mk hl302_0
                                      clear hi302_0 hl302_0
                                      replace p302 := eq_true p302
                                      replace q302 := eq_true q302
                                      have p303 : 0 ≤ (x7_2 : Int) := of_decide_eq_true (by first | (with_reducible assumption) | assumption)
                                      have q303 : x7_2 < (t297.length : Int) := of_decide_eq_true (by first | (with_reducible assumption) | assumption)
                                      obtain ⟨ad303, A303_0, c303_0, e303, hx303_0, hl303_0, hi303_0⟩ := at_L1 (Kd.S_reads' HO_3.out).2.2 x7_2 p303 q303
                                      obtain rfl : ad300 = ad303 := (by injection e303)
                                      obtain ⟨ce303, hce303, hMe303, hcc303⟩ := Kd.S_get HO_3.out [] x7_2 p303 (by first | exact q303 | exact of_decide_eq_true (by first | (with_reducible assumption) | assumption) | (have e_ := (Kd.S_reads' HO_3.out).1; omega))
                                      obtain ⟨ve303_0, rfl, ge303_0⟩ := hMe303
                                      have hv303_0 := hcc303 0 _ rfl
                                      rw [Nat.add_zero, show ((Kd.slice 3 (Kd.int .i64))).sz = 1 from rfl, Nat.mul_one] at hv303_0
                                      replace hv303_0 := Option.some.inj (hv303_0.symm.trans hx303_0)
                                      rw [hv303_0] at ge303_0
                                      have HL303_0 := Aside0.mk (show Kd.R (Kd.int .i64) 3 _ _ _ _ (rd_L1 t297 x7_2) from ge303_0)
                                      clear hv303_0 ge303_0
                                      clear hcc303 hce303
                                      have HR303_0 := Aside0.mk hi303_0
                                      have HC303_0 := Aside0.mk hl303_0
                                      clear hi303_0 hl303_0
                                      replace p303 := eq_true p303
                                      replace q303 := eq_true q303
                                      go_wp2
                                      repeat (go_quiet (fail); try go_wp2)
                                      go_roundg k2
                                      case measure => have := HK1.out; have := HK2.out; omega
                                      case rel => exact ⟨(x7_2), (wrap64 (x21_2 + 1)), (by first | rfl | (simp; done) | (simp [*]; done)), (by first | rfl | (simp; done) | (simp [*]; done)), H', ⟨by have := HK1.out; have := HK2.out; omega⟩, ⟨by (with_reducible repeat (first | apply Kd.S_alloc | apply Kd.S_drewN | apply Kd.S_drew)); exact HO_3.out⟩, ⟨by (with_reducible repeat (first | apply Kd.R_alloc | apply Kd.R_drewN | apply Kd.R_drew)); exact HO_4.out⟩, ⟨by (with_reducible repeat (first | apply Kd.S_alloc | apply Kd.S_drewN | apply Kd.S_drew)); exact HO_12.out⟩, ⟨by (with_reducible repeat (first | refine blk_drewN ?_ _ | refine blk_drew ?_ | refine blk_alloc ?_ _)); exact BK296.out⟩, ⟨by repeat (first | (with_reducible exact HR300_0.out) | (with_reducible refine Kd.C_alloc ?_ _) | (with_reducible refine Kd.C_drewN ?_ _) | (with_reducible refine Kd.C_drew ?_) | exact HR300_0.out)⟩, ⟨by repeat (first | (with_reducible first | exact HB.out | apply below_alloc | apply pw_below_drewN | apply below_drew1 | refine below_set ?_ GE296.out) | exact HB.out)⟩⟩
                                · rw [if_neg c18] at H
                                  exact absurd H (by simp)
                              · rw [if_neg c17] at H
                                exact absurd H (by simp)
                            · rw [if_neg c16] at H
                              exact absurd H (by simp)
                          · rw [if_neg c15] at H
                            exact absurd H (by simp)
                    · rw [if_neg c12] at H
                      exact absurd H (by simp)
                  · rw [if_neg c11] at H
                    exact absurd H (by simp)
                · rw [if_neg c10] at H
                  have c10b0 : decide (x21_2 < ((rd_L1 t297 x14_1).length : Int)) = false := decide_eq_false c10
                  clear c10
                  by_cases c20 : x4_1.length < 17592186044416
                  · rw [if_pos c20] at H
                    have LMc20 := Aside0.mk c20
                    clear c20
                    obtain ⟨y304, hy304⟩ : ∃ y_ : List Int, y_ = (x4_1 ++ [x7_2]) := ⟨_, rfl⟩
                    replace H : (spec_l10Nearest.l0 k2 t297 y304 t297 (t297.length : Int) (wrap64 (x14_1 + 1))) = some r := by first | (rw [hy304]; with_reducible exact H) | (have H2_ := (Option.bind_some _ _).symm.trans H; rw [hy304]; with_reducible exact H2_) | (have H2_ := (Option.bind_some _ _).symm.trans H; with_reducible exact H2_) | with_reducible exact H | (rw [hy304]; exact H) | exact H
                    have Ny304 := Aside0.mk hy304
                    clear hy304
                    as_aux_lemma =>
                      have H' := Aside0.mk H
                      clear H
                      go_wp2_with (first | ((with_reducible refine gate_builtin (b := .append) (xs := #[.tmp 47, .tmp 49]) rfl ?_); (try (refine gate_guard (by rfl) ?_; dsimp only)); at_builtin; refine Kd.R_append (Kd.int .i64) (w0 := w) w.heap.size rfl (.tmp 47) (.tmp 49) 31 3 (.int .i64 0) 8 rfl Try.underlying31 info3 rfl (by decide) (by omega) u4 x4_1 x7_2 [.int .i64 x7_2] (fun _ => True) (fun _ => False) rfl rfl ?aP (fun _ hk => hk.elim) ?aF ?aO ?aB ?aS ?aL ?_; (case aP => exact rfl); (case aB => exact (by repeat (first | (with_reducible first | exact HB.out | apply below_alloc | apply pw_below_drewN | apply below_drew1 | refine below_set ?_ GE296.out) | exact HB.out))); (case aF => exact (fun _ _ => trivial)); (case aO => exact (by (with_reducible repeat (first | apply Kd.R_alloc | apply Kd.R_drewN | apply Kd.R_drew)); exact HO_4.out)); (case aS => exact (below_size (by repeat (first | (with_reducible first | exact HB.out | apply below_alloc | apply pw_below_drewN | apply below_drew1 | refine below_set ?_ GE296.out) | exact HB.out)))); (case aL => have := LMc20.out; omega); intro v305 w21 ho hb hg hat; rw [← Ny304.out] at ho; have n0_ := Aside0.mk (Kd.S_after (ok := (fun _ => True)) (by (with_reducible repeat (first | apply Kd.S_alloc | apply Kd.S_drewN | apply Kd.S_drew)); exact Kd.S_mono HO_3.out (fun _ hk => ⟨trivial, hk⟩)) hg hat); have n1_ := Aside0.mk (Kd.S_after (ok := (fun _ => True)) (by (with_reducible repeat (first | apply Kd.S_alloc | apply Kd.S_drewN | apply Kd.S_drew)); exact Kd.S_mono HO_12.out (fun _ hk => ⟨trivial, hk⟩)) hg hat); have n2_ := Aside0.mk (blk_grown (g := gb296) (o := .cells #[.slice A0_0 l0_0.length c0_0] 27 (0, 0)) (by (with_reducible repeat (first | refine blk_drewN ?_ _ | refine blk_drew ?_ | refine blk_alloc ?_ _)); exact BK296.out) hg (Kd.R_ne HO_4.out BK296.out (by decide))); have n3_ := Aside0.mk (hb); have n4_ := Aside0.mk (ho); clear HO_3; clear HO_12; clear BK296; clear HB; clear HO_4; have HO_3 := n0_; have HO_12 := n1_; have BK296 := n2_; have HB := n3_; have HO306 := n4_; clear n0_ n1_ n2_ n3_ n4_; clear ho hb hg hat))
                      repeat (go_quiet (first | ((with_reducible refine gate_builtin (b := .append) (xs := #[.tmp 47, .tmp 49]) rfl ?_); (try (refine gate_guard (by rfl) ?_; dsimp only)); at_builtin; refine Kd.R_append (Kd.int .i64) (w0 := w) w.heap.size rfl (.tmp 47) (.tmp 49) 31 3 (.int .i64 0) 8 rfl Try.underlying31 info3 rfl (by decide) (by omega) u4 x4_1 x7_2 [.int .i64 x7_2] (fun _ => True) (fun _ => False) rfl rfl ?aP (fun _ hk => hk.elim) ?aF ?aO ?aB ?aS ?aL ?_; (case aP => exact rfl); (case aB => exact (by repeat (first | (with_reducible first | exact HB.out | apply below_alloc | apply pw_below_drewN | apply below_drew1 | refine below_set ?_ GE296.out) | exact HB.out))); (case aF => exact (fun _ _ => trivial)); (case aO => exact (by (with_reducible repeat (first | apply Kd.R_alloc | apply Kd.R_drewN | apply Kd.R_drew)); exact HO_4.out)); (case aS => exact (below_size (by repeat (first | (with_reducible first | exact HB.out | apply below_alloc | apply pw_below_drewN | apply below_drew1 | refine below_set ?_ GE296.out) | exact HB.out)))); (case aL => have := LMc20.out; omega); intro v305 w21 ho hb hg hat; rw [← Ny304.out] at ho; have n0_ := Aside0.mk (Kd.S_after (ok := (fun _ => True)) (by (with_reducible repeat (first | apply Kd.S_alloc | apply Kd.S_drewN | apply Kd.S_drew)); exact Kd.S_mono HO_3.out (fun _ hk => ⟨trivial, hk⟩)) hg hat); have n1_ := Aside0.mk (Kd.S_after (ok := (fun _ => True)) (by (with_reducible repeat (first | apply Kd.S_alloc | apply Kd.S_drewN | apply Kd.S_drew)); exact Kd.S_mono HO_12.out (fun _ hk => ⟨trivial, hk⟩)) hg hat); have n2_ := Aside0.mk (blk_grown (g := gb296) (o := .cells #[.slice A0_0 l0_0.length c0_0] 27 (0, 0)) (by (with_reducible repeat (first | refine blk_drewN ?_ _ | refine blk_drew ?_ | refine blk_alloc ?_ _)); exact BK296.out) hg (Kd.R_ne HO_4.out BK296.out (by decide))); have n3_ := Aside0.mk (hb); have n4_ := Aside0.mk (ho); clear HO_3; clear HO_12; clear BK296; clear HB; clear HO_4; have HO_3 := n0_; have HO_12 := n1_; have BK296 := n2_; have HB := n3_; have HO306 := n4_; clear n0_ n1_ n2_ n3_ n4_; clear ho hb hg hat)); try go_wp2_with (first | ((with_reducible refine gate_builtin (b := .append) (xs := #[.tmp 47, .tmp 49]) rfl ?_); (try (refine gate_guard (by rfl) ?_; dsimp only)); at_builtin; refine Kd.R_append (Kd.int .i64) (w0 := w) w.heap.size rfl (.tmp 47) (.tmp 49) 31 3 (.int .i64 0) 8 rfl Try.underlying31 info3 rfl (by decide) (by omega) u4 x4_1 x7_2 [.int .i64 x7_2] (fun _ => True) (fun _ => False) rfl rfl ?aP (fun _ hk => hk.elim) ?aF ?aO ?aB ?aS ?aL ?_; (case aP => exact rfl); (case aB => exact (by repeat (first | (with_reducible first | exact HB.out | apply below_alloc | apply pw_below_drewN | apply below_drew1 | refine below_set ?_ GE296.out) | exact HB.out))); (case aF => exact (fun _ _ => trivial)); (case aO => exact (by (with_reducible repeat (first | apply Kd.R_alloc | apply Kd.R_drewN | apply Kd.R_drew)); exact HO_4.out)); (case aS => exact (below_size (by repeat (first | (with_reducible first | exact HB.out | apply below_alloc | apply pw_below_drewN | apply below_drew1 | refine below_set ?_ GE296.out) | exact HB.out)))); (case aL => have := LMc20.out; omega); intro v305 w21 ho hb hg hat; rw [← Ny304.out] at ho; have n0_ := Aside0.mk (Kd.S_after (ok := (fun _ => True)) (by (with_reducible repeat (first | apply Kd.S_alloc | apply Kd.S_drewN | apply Kd.S_drew)); exact Kd.S_mono HO_3.out (fun _ hk => ⟨trivial, hk⟩)) hg hat); have n1_ := Aside0.mk (Kd.S_after (ok := (fun _ => True)) (by (with_reducible repeat (first | apply Kd.S_alloc | apply Kd.S_drewN | apply Kd.S_drew)); exact Kd.S_mono HO_12.out (fun _ hk => ⟨trivial, hk⟩)) hg hat); have n2_ := Aside0.mk (blk_grown (g := gb296) (o := .cells #[.slice A0_0 l0_0.length c0_0] 27 (0, 0)) (by (with_reducible repeat (first | refine blk_drewN ?_ _ | refine blk_drew ?_ | refine blk_alloc ?_ _)); exact BK296.out) hg (Kd.R_ne HO_4.out BK296.out (by decide))); have n3_ := Aside0.mk (hb); have n4_ := Aside0.mk (ho); clear HO_3; clear HO_12; clear BK296; clear HB; clear HO_4; have HO_3 := n0_; have HO_12 := n1_; have BK296 := n2_; have HB := n3_; have HO306 := n4_; clear n0_ n1_ n2_ n3_ n4_; clear ho hb hg hat)))
                      go_roundg k2
                      case measure => have := HK1.out; have := HK2.out; omega
                      case rel => exact ⟨(y304), (wrap64 (x14_1 + 1)), (by first | rfl | (simp; done) | (simp [*]; done)), H', ⟨by have := HK1.out; have := HK2.out; omega⟩, ⟨by (with_reducible repeat (first | apply Kd.S_alloc | apply Kd.S_drewN | apply Kd.S_drew)); exact Kd.S_mono HO_3.out (fun _ hk => hk.2)⟩, ⟨by (with_reducible repeat (first | apply Kd.R_alloc | apply Kd.R_drewN | apply Kd.R_drew)); exact HO306.out⟩, ⟨by (with_reducible repeat (first | apply Kd.S_alloc | apply Kd.S_drewN | apply Kd.S_drew)); exact Kd.S_mono HO_12.out (fun _ hk => hk.2)⟩, ⟨by (with_reducible repeat (first | refine blk_drewN ?_ _ | refine blk_drew ?_ | refine blk_alloc ?_ _)); exact BK296.out⟩, ⟨by repeat (first | (with_reducible first | exact HB.out | apply below_alloc | apply pw_below_drewN | apply below_drew1 | refine below_set ?_ GE296.out) | exact HB.out)⟩⟩
                  · rw [if_neg c20] at H
                    exact absurd H (by simp)
          · rw [if_neg c9] at H
            exact absurd H (by simp)
        · rw [if_neg c8] at H
          exact absurd H (by simp)
      · rw [if_neg c7] at H
        have c7b0 : decide (x14_1 < (t297.length : Int)) = false := decide_eq_false c7
        clear c7
        as_aux_lemma =>
          obtain rfl := Option.some.inj H
          go_wp2
          repeat (go_quiet (fail); try go_wp2)
          go_ret
          exact ⟨_, by first | rfl | (simp [errW_none, errW_some] <;> rfl) | (simp [*, errW_none, errW_some] <;> rfl), by (with_reducible repeat (first | apply Kd.R_alloc | apply Kd.R_drewN | apply Kd.R_drew)); exact HO_4.out, by repeat (first | (with_reducible first | exact HB.out | apply below_alloc | apply pw_below_drewN | apply below_drew1 | refine below_set ?_ GE296.out) | exact HB.out)⟩
end Go.Proofs.Ytplcipjlkogadaa.P

namespace Go.Proofs.Ytplcipjlkogadaa.P
open Go.RowKit Go.Proofs.YtplcipjlkogadaaW.PrintWords Go.Proofs.YtplcipjlkogadaaW.PrintLast Go.Proofs.YtplcipjlkogadaaW.PrintMore
attribute [local go_sem] max2_int min2_int max_two min_two max_three min_three max_four min_four
def spec_NearestOf.f (k : Nat) (l0_0 : List (List Int)) : Option (List Int × Bool) := (spec_GoodGraph.f k l0_0).bind fun t308 => (if t308 = true then ((spec_l10Nearest.f k l0_0).bind fun t309 => (some (t309, true))) else (some (([] : List Int), false)))
set_option maxHeartbeats 8000000 in
set_option maxRecDepth 100000 in
theorem spec_NearestOf.calls (k : Nat) (A0_0 : Option Addr) (c0_0 : Nat) (l0_0 : List (List Int)) (r1 : List Int) (r2 : Bool) (w : World) (hr0_0 : Kd.C (Kd.slice 3 (Kd.int .i64)) w A0_0 l0_0.length l0_0) (hc0_0 : l0_0.length ≤ c0_0) (h : spec_NearestOf.f k l0_0 = some (r1, r2)) :
    Calls Try.prog 40 #[.agg #[.slice A0_0 l0_0.length c0_0]] w fun e w' => ∃ v0_ : Value, e = .returned (.tuple #[v0_, .bool r2]) ∧ Kd.R (Kd.int .i64) 3 w' w.heap.size (fun _ => True) v0_ r1 ∧ Below w.heap.size w w' := by
  have hu27 := Try.underlying27
  have HR0_0 := Aside0.mk hr0_0
  have HC0_0 := Aside0.mk hc0_0
  clear hr0_0 hc0_0
  have HB := Aside0.mk (Below.refl w.heap.size w)
  have H : ((spec_GoodGraph.f k l0_0).bind fun t308 => (if t308 = true then ((spec_l10Nearest.f k l0_0).bind fun t309 => (some (t309, true))) else (some (([] : List Int), false)))) = some (r1, r2) := h
  clear h
  replace H := Option.bind_eq_some_iff.mp H
  obtain ⟨t308, A20, H⟩ := H
  replace H : (if t308 = true then ((spec_l10Nearest.f k l0_0).bind fun t309 => (some (t309, true))) else (some (([] : List Int), false))) = some (r1, r2) := H
  have A2 := Aside0.mk A20
  clear A20
  by_cases c3 : t308 = true
  · subst c3
    have H1 : ((spec_l10Nearest.f k l0_0).bind fun t309 => (some (t309, true))) = some (r1, r2) := by rw [if_pos rfl] at H; exact H
    clear H
    have H := H1
    clear H1
    replace H := Option.bind_eq_some_iff.mp H
    obtain ⟨t309, A40, H⟩ := H
    replace H : (some (t309, true)) = some (r1, r2) := H
    have A4 := Aside0.mk A40
    clear A40
    as_aux_lemma =>
      simp only [Option.some.injEq, Prod.mk.injEq] at H
      obtain ⟨rfl, rfl⟩ := H
      go_enter Try.func40, Try.ntmps40
      go_wp2_with (first | ((with_reducible refine gate_dst (N := 1) rfl ?_); refine box_event ?hg (N := 1) ?hd (cs := #[.slice A0_0 l0_0.length c0_0]) (t := 27) ?hr ?_; (case hd => rfl); (case hg => rfl); (case hr => first | (go_simp; done) | (go_simp; rfl)); intro gb307 hg w5 hbox hb; have n0_ := Aside0.mk (below_step (by repeat (first | (with_reducible first | exact HB.out | apply below_alloc | apply pw_below_drewN | apply below_drew1) | exact HB.out)) hb); have n1_ := Aside0.mk (hbox); have n2_ := Aside0.mk ((by rw [hg]; exact (below_size (by repeat (first | (with_reducible first | exact HB.out | apply below_alloc | apply pw_below_drewN | apply below_drew1) | exact HB.out))) : w.heap.size ≤ gb307)); have n3_ := Aside0.mk ((by rw [hg]; exact (below_size (by repeat (first | (with_reducible first | exact HB.out | apply below_alloc | apply pw_below_drewN | apply below_drew1) | exact HB.out))) : w.heap.size ≤ gb307)); clear HB; have HB := n0_; have BK307 := n1_; have GW307 := n2_; have GE307 := n3_; clear n0_ n1_ n2_ n3_; clear hb hbox hg; have hcz6_0 : w5.cell? ⟨gb307, 0, none⟩ = some (.slice A0_0 l0_0.length c0_0) := (blk_cell BK307.out 0).trans rfl; have hfz6_0 := blk_frozen BK307.out 0) | ((with_reducible refine gate_callee (f := 16) rfl ?_); refine goesL_ (some 5) rfl rfl Try.func16 (by kernel_rfl) rfl #[.agg #[.slice A0_0 l0_0.length c0_0]] rfl (by (try simp only [List.map_toArray, List.map_cons, List.map_nil]); first | done | rfl | (simp only [List.length_drop, List.length_take]; rfl)) ?_; (with_reducible refine (spec_GoodGraph.calls k _ _ l0_0 true _ ?side1 ?side2 A2.out).mono ?_); (case side1 => repeat (first | exact (Kd.C_below HR0_0.out HB.out) | (with_reducible refine Kd.C_alloc ?_ _) | (with_reducible refine Kd.C_drewN ?_ _) | (with_reducible refine Kd.C_drew ?_))); (case side2 => exact HC0_0.out); rintro e w7 ⟨rfl, hb⟩; refine ⟨_, rfl, ?_⟩; have n0_ := Aside0.mk (blk_below (g := gb307) (o := .cells #[.slice A0_0 l0_0.length c0_0] 27 (0, 0)) (by (with_reducible repeat (first | refine blk_drewN ?_ _ | refine blk_drew ?_ | refine blk_alloc ?_ _)); exact BK307.out) hb); have n1_ := Aside0.mk (below_step (by repeat (first | (with_reducible first | exact HB.out | apply below_alloc | apply pw_below_drewN | apply below_drew1 | refine below_set ?_ GE307.out) | exact HB.out)) hb); clear BK307; clear HB; have BK307 := n0_; have HB := n1_; clear n0_ n1_; (try clear hb); (try clear hb2); (try clear hk); (try clear hi); have hcz8_0 : w7.cell? ⟨gb307, 0, none⟩ = some (.slice A0_0 l0_0.length c0_0) := (blk_cell BK307.out 0).trans rfl; have hfz8_0 := blk_frozen BK307.out 0) | ((with_reducible refine gate_callee (f := 71) rfl ?_); refine goesL_ (some 8) rfl rfl Try.func71 (by kernel_rfl) rfl #[.agg #[.slice A0_0 l0_0.length c0_0]] rfl (by (try simp only [List.map_toArray, List.map_cons, List.map_nil]); first | done | rfl | (simp only [List.length_drop, List.length_take]; rfl)) ?_; (with_reducible refine (spec_l10Nearest.calls k _ _ l0_0 t309 _ ?side1 ?side2 A4.out).mono ?_); (case side1 => repeat (first | exact (Kd.C_below HR0_0.out HB.out) | (with_reducible refine Kd.C_alloc ?_ _) | (with_reducible refine Kd.C_drewN ?_ _) | (with_reducible refine Kd.C_drew ?_))); (case side2 => exact HC0_0.out); rintro e w9 ⟨v310, rfl, ho0, hb⟩; refine ⟨_, rfl, ?_⟩; have n0_ := Aside0.mk (Kd.R_lower ho0 (below_size (by repeat (first | (with_reducible first | exact HB.out | apply below_alloc | apply pw_below_drewN | apply below_drew1 | refine below_set ?_ GE307.out) | exact HB.out)))); have n1_ := Aside0.mk (blk_below (g := gb307) (o := .cells #[.slice A0_0 l0_0.length c0_0] 27 (0, 0)) (by (with_reducible repeat (first | refine blk_drewN ?_ _ | refine blk_drew ?_ | refine blk_alloc ?_ _)); exact BK307.out) hb); have n2_ := Aside0.mk (below_step (by repeat (first | (with_reducible first | exact HB.out | apply below_alloc | apply pw_below_drewN | apply below_drew1 | refine below_set ?_ GE307.out) | exact HB.out)) hb); clear BK307; clear HB; have HO311 := n0_; have BK307 := n1_; have HB := n2_; clear n0_ n1_ n2_; (try clear hb); (try clear hb2); (try clear hk); (try clear hi); (try clear ho0)))
      go_ret2
      exact ⟨_, by first | rfl | (simp [errW_none, errW_some] <;> rfl) | (simp [*, errW_none, errW_some] <;> rfl), by (with_reducible repeat (first | apply Kd.R_alloc | apply Kd.R_drewN | apply Kd.R_drew)); exact HO311.out, by repeat (first | (with_reducible first | exact HB.out | apply below_alloc | apply pw_below_drewN | apply below_drew1 | refine below_set ?_ GE307.out) | exact HB.out)⟩
  · replace c3 := Bool.eq_false_iff.mpr c3
    subst c3
    have H1 : (some (([] : List Int), false)) = some (r1, r2) := by rw [if_neg (show ¬ (false = true) by decide)] at H; exact H
    clear H
    have H := H1
    clear H1
    as_aux_lemma =>
      simp only [Option.some.injEq, Prod.mk.injEq] at H
      obtain ⟨rfl, rfl⟩ := H
      go_enter Try.func40, Try.ntmps40
      go_wp2_with (first | ((with_reducible refine gate_dst (N := 1) rfl ?_); refine box_event ?hg (N := 1) ?hd (cs := #[.slice A0_0 l0_0.length c0_0]) (t := 27) ?hr ?_; (case hd => rfl); (case hg => rfl); (case hr => first | (go_simp; done) | (go_simp; rfl)); intro gb307 hg w10 hbox hb; have n0_ := Aside0.mk (below_step (by repeat (first | (with_reducible first | exact HB.out | apply below_alloc | apply pw_below_drewN | apply below_drew1) | exact HB.out)) hb); have n1_ := Aside0.mk (hbox); have n2_ := Aside0.mk ((by rw [hg]; exact (below_size (by repeat (first | (with_reducible first | exact HB.out | apply below_alloc | apply pw_below_drewN | apply below_drew1) | exact HB.out))) : w.heap.size ≤ gb307)); have n3_ := Aside0.mk ((by rw [hg]; exact (below_size (by repeat (first | (with_reducible first | exact HB.out | apply below_alloc | apply pw_below_drewN | apply below_drew1) | exact HB.out))) : w.heap.size ≤ gb307)); clear HB; have HB := n0_; have BK307 := n1_; have GW307 := n2_; have GE307 := n3_; clear n0_ n1_ n2_ n3_; clear hb hbox hg; have hcz11_0 : w10.cell? ⟨gb307, 0, none⟩ = some (.slice A0_0 l0_0.length c0_0) := (blk_cell BK307.out 0).trans rfl; have hfz11_0 := blk_frozen BK307.out 0) | ((with_reducible refine gate_callee (f := 16) rfl ?_); refine goesL_ (some 5) rfl rfl Try.func16 (by kernel_rfl) rfl #[.agg #[.slice A0_0 l0_0.length c0_0]] rfl (by (try simp only [List.map_toArray, List.map_cons, List.map_nil]); first | done | rfl | (simp only [List.length_drop, List.length_take]; rfl)) ?_; (with_reducible refine (spec_GoodGraph.calls k _ _ l0_0 false _ ?side1 ?side2 A2.out).mono ?_); (case side1 => repeat (first | exact (Kd.C_below HR0_0.out HB.out) | (with_reducible refine Kd.C_alloc ?_ _) | (with_reducible refine Kd.C_drewN ?_ _) | (with_reducible refine Kd.C_drew ?_))); (case side2 => exact HC0_0.out); rintro e w12 ⟨rfl, hb⟩; refine ⟨_, rfl, ?_⟩; have n0_ := Aside0.mk (blk_below (g := gb307) (o := .cells #[.slice A0_0 l0_0.length c0_0] 27 (0, 0)) (by (with_reducible repeat (first | refine blk_drewN ?_ _ | refine blk_drew ?_ | refine blk_alloc ?_ _)); exact BK307.out) hb); have n1_ := Aside0.mk (below_step (by repeat (first | (with_reducible first | exact HB.out | apply below_alloc | apply pw_below_drewN | apply below_drew1 | refine below_set ?_ GE307.out) | exact HB.out)) hb); clear BK307; clear HB; have BK307 := n0_; have HB := n1_; clear n0_ n1_; (try clear hb); (try clear hb2); (try clear hk); (try clear hi)))
      go_ret2
      exact ⟨_, by first | rfl | (simp [errW_none, errW_some] <;> rfl) | (simp [*, errW_none, errW_some] <;> rfl), by first | exact Kd.R_nil _ _ _ _ _ | exact Kd.N_nil _ _ _ _ _ | exact Kd.V_nil _ _ _ _ _ | exact Kd.Q_nil _ _ _ _ _ | exact Kd.S_nil _ _ _ _ _, by repeat (first | (with_reducible first | exact HB.out | apply below_alloc | apply pw_below_drewN | apply below_drew1 | refine below_set ?_ GE307.out) | exact HB.out)⟩
end Go.Proofs.Ytplcipjlkogadaa.P

namespace Go.Proofs.Ytplcipjlkogadaa.P
open Go.RowKit Go.Proofs.YtplcipjlkogadaaW.PrintWords Go.Proofs.YtplcipjlkogadaaW.PrintLast Go.Proofs.YtplcipjlkogadaaW.PrintMore
attribute [local go_sem] max2_int min2_int max_two min_two max_three min_three max_four min_four
theorem run_idx12n (w : World) (bs : List Bool) (hb : bs.length = 12) (j : Nat) (hj : j < 12) : (Instr.index 64 (.agg (bs.map Value.bool).toArray) (.int .i64 (j : Int))).run Try.prog w = .ok (.bool (bs.getD j false)) w := by
  have h0 : (0 : Int) ≤ (j : Int) := by omega
  have h1 : (j : Int) < ((12 : Nat) : Int) := by omega
  have h2 : (bs.map Value.bool)[j]? = some (.bool (bs.getD j false)) := by rw [List.getElem?_map, H.getD_some false (by omega)]; rfl
  have hi : (Try.prog.info? 4).map (·.size) = some 1 := by kernel_rfl
  obtain ⟨i, hq, hs⟩ := Option.map_eq_some_iff.1 hi
  simp [Instr.index, run_underlying Try.underlying64, run_underlying Try.underlying4, asIntOf, h0, h1, part, isAgg, sizeOf, typeInfo, hq, hs, Sem.run_bind, go_sem]
  obtain ⟨v, hv⟩ : ∃ v, bs[j]? = some v := ⟨_, List.getElem?_eq_getElem (by omega)⟩
  rw [if_pos hj, hv]
  rfl
def nrTo (D : List (List Bool)) (s : List Bool) : Nat → Int × Nat
  | 0 => (-1, 0)
  | i + 1 => if s.getD i false && decide ((nrTo D s i).2 < (listTo (D.getD i []) 12).length) then ((i : Int), (listTo (D.getD i []) 12).length) else nrTo D s i
def nearestF (D : List (List Bool)) (s : List Bool) : Int := (nrTo D s 12).1
set_option maxHeartbeats 8000000 in
set_option maxRecDepth 100000 in
theorem impl_nearest.calls (gm n : Nat) (D : List (List Bool)) (s : List Bool) (w : World) (hm : w.heap[gm]? = some (.cells (H.bcells D.flatten) 64 (0, 0))) (hM : H.Mat 12 D) (hn : D.length = n) (h12 : n ≤ 12) (hs : s.length = 12) (hin : ∀ i, i < 12 → s.getD i false = true → i < n) :
    Calls Try.prog 72 #[.slice (some ⟨gm, 0, none⟩) n n, .agg (H.bcells s)] w fun e w' => e = .returned (.int .i64 (nearestF D s)) ∧ Below w.heap.size w w' := by
  have HM := Aside0.mk hm
  have HMat := Aside0.mk hM
  have HN := Aside0.mk hn
  have HSL := Aside0.mk hs
  have HIN := Aside0.mk hin
  have HI := Aside0.mk (show (Try.prog.info? 64).map (·.size) = some 12 by kernel_rfl)
  clear hm hM hn hs hin
  have HO := Aside0.mk (H.Own.nil w)
  go_enter Try.func72, Try.ntmps72
  go_wp2_with (first | ((with_reducible refine gate_dst (N := 3) rfl ?_); refine H.own_box HO.out ?bxg (N := 3) ?bxd (cs := H.bcells s) (t := 64) ?bxr ?_; (case bxd => rfl); (case bxg => rfl); (case bxr => first | (go_simp; done) | (go_simp; rfl)); intro gb w_ ho_ hb_; replace HO := Aside0.mk ho_; clear ho_ hb_) | ((with_reducible refine gate_dst (N := 9) rfl ?_); refine wpList_load_mid rfl 64 (.tmp 3) rfl gb 0 rfl (s.map Value.bool) _ (HO.out.brange 0 rfl) Try.underlying64 rfl (by rw [List.length_map, HSL.out]; exact HI.out) ?_))
  go_loopw [5, 6, 10] (fun v5 v6 v10 wr => ∃ i : Nat, v5 = .int .i64 (nrTo D s i).1 ∧ v6 = .int .i64 ((nrTo D s i).2 : Int) ∧ v10 = .int .i64 i ∧ i ≤ 12 ∧ Aside0 (H.Own w wr [(gb, H.bcells s, 64)])) (fun _ _ v10 _ => 12 - (intOf v10).toNat)
  case atStart => exact ⟨0, rfl, rfl, rfl, Nat.zero_le _, HO⟩
  case round =>
    clear HO
    obtain ⟨i, rfl, rfl, rfl, hi, HO⟩ := hrel
    by_cases hlt : i < 12
    · have hi12 : (i : Int) < 12 := by omega
      have hidx := run_idx12n wr s HSL.out i hlt
      have hin := HIN.out i hlt
      have hst : nrTo D s (i + 1) = if s.getD i false && decide ((nrTo D s i).2 < (listTo (D.getD i []) 12).length) then ((i : Int), (listTo (D.getD i []) 12).length) else nrTo D s i := rfl
      obtain ⟨⟨bst, mst⟩, hp⟩ : ∃ p, nrTo D s i = p := ⟨_, rfl⟩
      rw [hp] at hst
      obtain ⟨bit, hbt⟩ : ∃ bit, s.getD i false = bit := ⟨_, rfl⟩
      rw [hbt] at hst hidx hin
      have HP := Aside0.mk hp
      simp only [hp]
      clear hp hbt
      cases bit with
      | false =>
        have HST := Aside0.mk (show nrTo D s (i + 1) = (bst, mst) by rw [hst]; rfl)
        clear hst hin
        go_wp2
        go_roundw
        case rel => exact ⟨i + 1, by rw [HST.out], by rw [HST.out], by go_num, by omega, HO⟩
        case measure => simp [intOf]; omega
      | true =>
        have hii := hin rfl
        have HII := Aside0.mk (show i < D.length by rw [HN.out]; exact hii)
        have hiin : (i : Int) < (n : Int) := by omega
        have HRW := Aside0.mk (HMat.out.row HII.out)
        obtain ⟨row, hrow⟩ : ∃ row, D.getD i [] = row := ⟨_, rfl⟩
        rw [hrow] at HRW hst
        have HROW := Aside0.mk hrow
        obtain ⟨ls, hls⟩ : ∃ ls, listTo row 12 = ls := ⟨_, rfl⟩
        have hll := listTo_len row 12
        rw [hls] at hst hll
        have HLS := Aside0.mk hls
        clear hrow hls hin
        by_cases hgt : mst < ls.length
        · have HST := Aside0.mk (show nrTo D s (i + 1) = ((i : Int), ls.length) by rw [hst, decide_eq_true hgt]; rfl)
          have hgt2 : (ls.length : Int) > (mst : Int) := by omega
          clear hst hgt
          go_wp2_with (first | (go_at_call 62; refine (impl_list.calls gm (i * 12) row _ (by rw [← HROW.out]; exact H.blk_mrange (blk_below HM.out HO.out.below) HMat.out HII.out) HRW.out).mono ?_; rw [HLS.out]; rintro e w' ⟨v0, rfl, hv, hb⟩; obtain ⟨AV, cV, rfl⟩ := Kd.R_slice hv; replace HO := Aside0.mk (HO.out.step hb); clear hv hb))
          go_roundw
          case rel => exact ⟨i + 1, by rw [HST.out], by rw [HST.out], by go_num, by omega, HO⟩
          case measure => simp [intOf]; omega
        · have HST := Aside0.mk (show nrTo D s (i + 1) = (bst, mst) by rw [hst, decide_eq_false hgt]; rfl)
          have hgt2 : ¬ (ls.length : Int) > (mst : Int) := by omega
          clear hst hgt
          go_wp2_with (first | (go_at_call 62; refine (impl_list.calls gm (i * 12) row _ (by rw [← HROW.out]; exact H.blk_mrange (blk_below HM.out HO.out.below) HMat.out HII.out) HRW.out).mono ?_; rw [HLS.out]; rintro e w' ⟨v0, rfl, hv, hb⟩; obtain ⟨AV, cV, rfl⟩ := Kd.R_slice hv; replace HO := Aside0.mk (HO.out.step hb); clear hv hb))
          go_roundw
          case rel => exact ⟨i + 1, by rw [HST.out], by rw [HST.out], by go_num, by omega, HO⟩
          case measure => simp [intOf]; omega
    · have hE : i = 12 := by omega
      subst hE
      go_wp2
      go_ret
      exact ⟨rfl, HO.out.below⟩
end Go.Proofs.Ytplcipjlkogadaa.P

namespace Go.Proofs.Ytplcipjlkogadaa.P
open Go.RowKit Go.Proofs.YtplcipjlkogadaaW.PrintWords Go.Proofs.YtplcipjlkogadaaW.PrintLast Go.Proofs.YtplcipjlkogadaaW.PrintMore
attribute [local go_sem] max2_int min2_int max_two min_two max_three min_three max_four min_four
def nfB (D : List (List Bool)) (b : Nat) : Int := nearestF D ((D.getD b []).set b false)
def nfTo (D : List (List Bool)) (n i : Nat) : List Int := (List.range n).map (fun b => if b < i then nfB D b else 0)
theorem nfTo_zero (D : List (List Bool)) (n : Nat) : nfTo D n 0 = List.replicate n 0 := by
  unfold nfTo
  exact List.ext_getElem (by simp) (fun b h1 h2 => by simp)
theorem nfTo_len (D : List (List Bool)) (n i : Nat) : (nfTo D n i).length = n := by unfold nfTo; simp
theorem nfTo_set (D : List (List Bool)) {n i : Nat} (hi : i < n) : (nfTo D n i).set i (nfB D i) = nfTo D n (i + 1) := by
  refine List.ext_getElem (by simp [nfTo]) (fun b h1 h2 => ?_)
  rw [List.getElem_set]
  simp only [nfTo, List.getElem_map, List.getElem_range]
  by_cases e : i = b
  · subst e
    rw [if_pos rfl, if_pos (by omega)]
  · rw [if_neg e]
    by_cases h : b < i
    · rw [if_pos h, if_pos (by omega)]
    · rw [if_neg h, if_neg (by omega)]
theorem own_iput {P : Program} {ops : Array Oper} {rest : List Oper} {o : Oper} {a : Act} {Q : Exit → Act → World → Prop} {w W : World} {L : List (Nat × Array Value × TypeId)} {ti g n cap i : Nat} {ok : Nat → Prop} {xs : List Int} {z : Int} (hO : H.Own w W L) (hv : (Kd.int .i64).R ti W w.heap.size ok (.slice (some ⟨g, 0, none⟩) n cap) xs)
    (hgd : o.guard = none) (hN : o.dst = none) {t : TypeId} {p x : Operand} (ho : o.op = .store t p x) (haddr : a.eval p = .pointer (some ⟨g, i, none⟩)) (hx : a.eval x = .int .i64 z) (ht : (P.info? t).map (·.size) = some 1) (hi : i < n) (hne : ∀ y ∈ L, y.2.2 ≠ ti)
    (h : ∀ w1, H.Own w w1 L → (Kd.int .i64).R ti w1 w.heap.size ok (.slice (some ⟨g, 0, none⟩) n cap) (xs.set i z) → W.grownBy w1 (some g) → wpList P ops Q rest a w1) : wpList P ops Q (o :: rest) a W := by
  have hr := Kd.R_reads' hv
  obtain ⟨ad, e, hc⟩ := Kd.at_int hr.2.2 (i : Int) (by omega) (by have := hr.1; omega)
  injection e with e
  subst e
  rw [Int.toNat_natCast] at hc
  refine Kd.R_store (Kd.int .i64) (w0 := w) w.heap.size hN hgd t p x ho ti (i : Int) 0 xs z (.int .i64 z) [.int .i64 z] [.int .i64 (rd xs (i : Int))] ok (fun _ => False) haddr (by rw [Int.toNat_natCast]; show i = i * 1 + 0; omega) hx rfl (by rw [ht]; rfl) (by simp [Value.oneCell']) hv (by omega) (by omega) rfl ?_ (by show 0 + 1 ≤ 1; omega) rfl (fun _ hk => hk.elim) hO.below ?_
  · intro j u hj
    cases j with
    | zero =>
      simp only [List.getElem?_cons_zero, Option.some.injEq] at hj
      subst hj
      rw [Int.toNat_natCast]
      show W.cell? ⟨g, i * 1 + 0, none⟩ = _
      rw [Nat.mul_one, Nat.add_zero]
      by_cases e : i = 0
      · subst e
        simpa [Addr.add] using hc
      · simpa [Addr.add, e] using hc
    | succ j => simp at hj
  · intro w1 hs hb hg
    rw [Int.toNat_natCast] at hs
    exact h w1 (hO.row hv (Nat.le_refl _) hg hne) hs hg
def impl_NearestOf.f (l0_0 : List (List Int)) : Option (List Int × Bool) := some (if H.goodG l0_0 then (nfTo (H.domF l0_0) l0_0.length l0_0.length, true) else ([], false))
set_option maxHeartbeats 8000000 in
set_option maxRecDepth 100000 in
theorem impl_NearestOf.calls (A0_0 : Option Addr) (c0_0 : Nat) (l0_0 : List (List Int)) (r1 : List Int) (r2 : Bool) (w : World) (hr0_0 : Kd.C (Kd.slice 3 (Kd.int .i64)) w A0_0 l0_0.length l0_0) (hc0_0 : l0_0.length ≤ c0_0) (h : impl_NearestOf.f l0_0 = some (r1, r2)) :
    Calls Try.prog 41 #[.agg #[.slice A0_0 l0_0.length c0_0]] w fun e w' => ∃ v0_ : Value, e = .returned (.tuple #[v0_, .bool r2]) ∧ (Kd.int .i64).R 3 w' w.heap.size (fun _ => True) v0_ r1 ∧ Below w.heap.size w w' := by
  replace h := Option.some.inj h
  have HR0 := Aside0.mk hr0_0
  have HC0 := Aside0.mk hc0_0
  clear hr0_0 hc0_0
  have HO := Aside0.mk (H.Own.nil w)
  have HK := Aside0.mk (fun (W : World) (hb : Below w.heap.size w W) => impl_GoodGraph.calls A0_0 c0_0 l0_0 _ W (Kd.C_below HR0.out hb) HC0.out rfl)
  cases hg : H.goodG l0_0 with
  | false =>
    rw [hg, if_neg (by simp), Prod.mk.injEq] at h
    obtain ⟨rfl, rfl⟩ := h
    rw [hg] at HK
    clear hg
    go_enter Try.func41, Try.ntmps41
    go_wp2_with (first | ((with_reducible refine gate_dst (N := 1) rfl ?_); refine H.own_box HO.out ?bxg (N := 1) ?bxd (cs := #[Value.slice A0_0 l0_0.length c0_0]) (t := 27) ?bxr ?_; (case bxd => rfl); (case bxg => rfl); (case bxr => first | (go_simp; done) | (go_simp; rfl)); intro gp w_ ho_ hb_; replace HO := Aside0.mk ho_; clear ho_ hb_) | ((with_reducible refine gate_dst (N := 8) rfl ?_); refine wpList_load_row rfl 27 (.tmp 1) rfl _ rfl 27 _ (0, 0) _ (HO.out.get 0 rfl) Try.underlying27 rfl (by kernel_rfl) ?_) | (go_at_call 18; refine (HK.out _ HO.out.below).mono ?_; rintro e w' ⟨rfl, hb⟩; replace HO := Aside0.mk (HO.out.step hb); clear hb))
    go_ret2
    exact ⟨_, rfl, Kd.R_nil _ _ _ _ _, HO.out.below⟩
  | true =>
    rw [hg, if_pos rfl, Prod.mk.injEq] at h
    obtain ⟨rfl, rfl⟩ := h
    rw [hg] at HK
    have hr := H.goodG_rows hg
    have hn1 : 1 ≤ l0_0.length := hr.1.1
    have hn2 : l0_0.length ≤ 12 := hr.1.2
    have HG := Aside0.mk hg
    clear hg hr
    have HI := Aside0.mk (show (Try.prog.info? 64).map (·.size) = some 12 by kernel_rfl)
    have hml := H.matF_len (fun b j => decide (j < l0_0.length) && H.domV l0_0 b j) l0_0.length
    have hmm := H.matF_mat (fun b j => decide (j < l0_0.length) && H.domV l0_0 b j) l0_0.length
    have hdi : ∀ b, b < l0_0.length → ∀ i, i < 12 → ((H.domF l0_0).getD b []).getD i false = true → i < l0_0.length := by
      intro b hb i hi h
      unfold H.domF at h
      rw [H.matF_row hb, H.rowF_get hi] at h
      simp only [Bool.and_eq_true, decide_eq_true_eq] at h
      exact h.1
    have HMM : Aside0 (H.Mat 12 (H.domF l0_0)) := ⟨hmm⟩
    have HML : Aside0 ((H.domF l0_0).length = l0_0.length) := ⟨hml⟩
    have HDI := Aside0.mk hdi
    clear hml hmm hdi
    obtain ⟨M, hMD⟩ : ∃ M, H.domF l0_0 = M := ⟨_, rfl⟩
    rw [hMD] at HMM HML HDI ⊢
    have HMD := Aside0.mk hMD
    clear hMD
    go_enter Try.func41, Try.ntmps41
    go_wp2_with (first | ((with_reducible refine gate_dst (N := 1) rfl ?_); refine H.own_box HO.out ?bxg (N := 1) ?bxd (cs := #[Value.slice A0_0 l0_0.length c0_0]) (t := 27) ?bxr ?_; (case bxd => rfl); (case bxg => rfl); (case bxr => first | (go_simp; done) | (go_simp; rfl)); intro gp w_ ho_ hb_; replace HO := Aside0.mk ho_; clear ho_ hb_) | ((with_reducible refine gate_dst (N := 8) rfl ?_); refine wpList_load_row rfl 27 (.tmp 1) rfl _ rfl 27 _ (0, 0) _ (HO.out.get 0 rfl) Try.underlying27 rfl (by kernel_rfl) ?_) | (go_at_call 18; refine (HK.out _ HO.out.below).mono ?_; rintro e w' ⟨rfl, hb⟩; replace HO := Aside0.mk (HO.out.step hb); clear hb) | (go_at_call 67; refine (impl_dominators.calls ⟨gp, 0, none⟩ A0_0 c0_0 l0_0 _ (HO.out.cell 0 rfl 0) (Kd.C_below HR0.out HO.out.below) HG.out).mono ?_; rw [HMD.out]; rintro e w' ⟨gm, rfl, ho⟩; replace HO := Aside0.mk (HO.out.join ho); have hx1 := HO.out.cell 0 rfl 0; clear ho) | ((with_reducible refine gate_dst (N := 15) rfl ?_); refine Kd.R_make (Kd.int .i64) (w0 := w) w.heap.size 3 rfl (N := 15) rfl 31 _ _ rfl (l0_0.length : Int) rfl rfl Try.underlying31 (.int .i64 0) 8 info3 rfl (by decide) (by omega) 0 (ok := fun _ => True) (okp := fun _ => True) rfl (fun _ hk => hk) trivial (by omega) (by simp only [Int.toNat_natCast]; omega) HO.out.below HO.out.size ?_; intro vs w_ ho_ hb_ hg_ hnew_; rw [Int.toNat_natCast] at ho_; obtain ⟨gs, cs, evs, _, _, _⟩ := Kd.R_form ho_ (by rw [List.length_replicate]; omega); rw [List.length_replicate] at evs; subst evs; replace HO := Aside0.mk (HO.out.grown hg_ (fun k hk => by cases hk)); have HV := Aside0.mk ho_; clear ho_ hb_ hg_ hnew_ hx1))
    go_loopw [18] (fun vc wr => ∃ i : Nat, vc = .int .i64 i ∧ i ≤ l0_0.length ∧ Aside0 ((Kd.int .i64).R 3 wr w.heap.size (fun _ => True) (.slice (some ⟨gs, 0, none⟩) l0_0.length cs) (nfTo M l0_0.length i)) ∧ Aside0 (H.Own w wr [(gp, #[Value.slice A0_0 l0_0.length c0_0], 27), (gm, H.bcells M.flatten, 64)])) (fun vc _ => l0_0.length - (intOf vc).toNat)
    case atStart => exact ⟨0, rfl, Nat.zero_le _, ⟨by rw [nfTo_zero]; exact HV.out⟩, HO⟩
    case round =>
      clear HO HV
      obtain ⟨i, rfl, hi, HV, HO⟩ := hrel
      by_cases hlt : i < l0_0.length
      · have HIL := Aside0.mk hlt
        have HIM := Aside0.mk (show i < M.length by rw [HML.out]; exact hlt)
        have HST := Aside0.mk (nfTo_set M hlt)
        have hil : (i : Int) < (l0_0.length : Int) := by omega
        have hi12 : (i : Int) < 12 := by omega
        have HI12 := Aside0.mk (show i < 12 by omega)
        have HRW := Aside0.mk (HMM.out.row HIM.out)
        have hdi := HDI.out i hlt
        have hnf : nfB M i = nearestF M ((M.getD i []).set i false) := rfl
        obtain ⟨row, hrow⟩ : ∃ row, M.getD i [] = row := ⟨_, rfl⟩
        rw [hrow] at HRW hdi hnf
        have HROW := Aside0.mk hrow
        have HRS := Aside0.mk (show (row.set i false).length = 12 by rw [List.length_set]; exact HRW.out)
        have hdi2 : ∀ j, j < 12 → (row.set i false).getD j false = true → j < l0_0.length := by
          intro j hj h
          by_cases e : i = j
          · subst e
            exact hlt
          · refine hdi j hj ?_
            rw [List.getD_eq_getElem?_getD, List.getElem?_set_ne e, ← List.getD_eq_getElem?_getD] at h
            exact h
        have HDI2 := Aside0.mk hdi2
        have HNF := Aside0.mk hnf
        obtain ⟨rs, hrs⟩ : ∃ rs, row.set i false = rs := ⟨_, rfl⟩
        rw [hrs] at HRS HDI2 HNF
        have HRSE := Aside0.mk hrs
        clear hrow hdi hdi2 hnf hrs
        go_wp2_with (first | ((with_reducible refine gate_dst (N := 24) rfl ?_); refine wpList_load_mid rfl 64 (.tmp 23) rfl gm (i * 12) rfl (row.map Value.bool) _ (by rw [← HROW.out]; exact HO.out.mrange 1 (n := 12) rfl HMM.out HIM.out) Try.underlying64 rfl (by rw [List.length_map, HRW.out]; exact HI.out) ?_) | ((with_reducible refine gate_dst (N := 7) rfl ?_); refine H.own_box HO.out ?bxg (N := 7) ?bxd (cs := H.bcells H.none12) (t := 64) ?bxr ?_; (case bxd => rfl); (case bxg => rfl); (case bxr => first | (go_simp; done) | (go_simp; rfl)); intro gx w_ ho_ hb_; replace HV := Aside0.mk (Kd.R_below HV.out hb_); replace HO := Aside0.mk ho_; clear ho_ hb_) | ((with_reducible refine gate_store (t := 64) (p := 7) rfl ?_); refine H.own_ball HO.out 2 (bs' := row) rfl rfl rfl rfl rfl rfl HI.out HRW.out ?_; intro w_ ho_ hg_; replace HV := Aside0.mk (HO.out.keep 2 rfl HV.out hg_ (by decide)); replace HO := Aside0.mk ho_; clear ho_ hg_) | ((with_reducible refine gate_store (t := 4) (p := 26) rfl ?_); refine H.own_bput HO.out 2 (bs := row) (j := i) rfl rfl rfl rfl rfl rfl (by kernel_rfl) (by rw [HRW.out]; exact HI12.out) ?_; intro w_ ho_ hg_; replace HV := Aside0.mk (HO.out.keep 2 rfl HV.out hg_ (by decide)); rw [HRSE.out] at ho_; replace HO := Aside0.mk ho_; clear ho_ hg_) | ((with_reducible refine gate_dst (N := 30) rfl ?_); refine wpList_load_mid rfl 64 (.tmp 7) rfl gx 0 rfl (rs.map Value.bool) _ (HO.out.brange 2 rfl) Try.underlying64 rfl (by rw [List.length_map, HRS.out]; exact HI.out) ?_) | (go_at_call 72; go_loud (refine (impl_nearest.calls gm l0_0.length M rs _ (HO.out.get 1 rfl) HMM.out HML.out (by omega) HRS.out HDI2.out).mono ?_; rw [← HNF.out]; rintro e w' ⟨rfl, hb⟩; replace HV := Aside0.mk (Kd.R_below HV.out hb); replace HO := Aside0.mk (HO.out.step hb); clear hb)) | ((with_reducible refine gate_store (t := 3) (p := 32) rfl ?_); go_loud (refine own_iput HO.out HV.out rfl rfl rfl rfl rfl (by kernel_rfl) HIL.out (by simp) ?_; intro w_ ho_ hs_ hg_; replace HV := Aside0.mk hs_; replace HO := Aside0.mk ho_; clear ho_ hs_ hg_)))
        go_roundw
        case rel => exact ⟨i + 1, by go_num, by omega, ⟨by rw [← HST.out]; exact HV.out⟩, ⟨HO.out.take (by simp)⟩⟩
        case measure => simp [intOf]; omega
      · have hE : i = l0_0.length := by omega
        subst hE
        go_wp2
        go_ret2
        exact ⟨_, rfl, HV.out, HO.out.below⟩
end Go.Proofs.Ytplcipjlkogadaa.P

namespace Go.Proofs.Ytplcipjlkogadaa.H
open Go.RowKit Go.Proofs.YtplcipjlkogadaaW.PrintWords Go.Proofs.YtplcipjlkogadaaW.PrintMore
theorem Own.cursor {w W W' : World} {L : List (Nat × Array Value × TypeId)} {g : Nat} {cc : Array Value} {T : TypeId} (h : Own w W L) (hg : W.heap[g]? = some (.cells cc T (0, 0))) (hT : ∀ x ∈ L, x.2.2 ≠ T) (hk : KeepBut W W' g none) (hb : Below w.heap.size w W') : Own w W' L :=
  ⟨hb, h.base, fun x hx => (hk.2 x.1 (h.lt x hx) (fun e => by
    have := h.blk x hx
    rw [e, hg] at this
    injection this with this
    injection this with _ this
    exact hT x hx this.symm) (by simp)).trans (h.blk x hx), h.ne⟩
theorem S_cursor {α : Type} {d : Kd α} {e base : Nat} {ok : Nat → Prop} {W W' : World} {g : Nat} {v : Value} {xs : List α} (h : Kd.S d e W base (fun k => ok k ∧ k ≠ g) v xs) (hk : KeepBut W W' g none) : Kd.S d e W' base (fun k => ok k ∧ k ≠ g) v xs := Kd.S_step h (fun k hok hlt => hk.2 k hlt hok.2 (by simp))
end Go.Proofs.Ytplcipjlkogadaa.H

namespace Go.Proofs.Ytplcipjlkogadaa.P
open Go.RowKit Go.Proofs.YtplcipjlkogadaaW.PrintWords Go.Proofs.YtplcipjlkogadaaW.PrintLast Go.Proofs.YtplcipjlkogadaaW.PrintMore
attribute [local go_sem] max2_int min2_int max_two min_two max_three min_three max_four min_four
def IsS78 (w0 W : World) (g : Nat) (f0 : List Int) (f1 : Int) (f2 : Int) : Prop := ∃ A0 c0, W.heap[g]? = some (.cells #[.slice A0 f0.length c0, .int .i64 f1, .int .u64 f2] 78 (0, 0)) ∧ w0.heap.size ≤ g ∧ Kd.C (Kd.int .u8) w0 A0 f0.length f0
theorem IsS78.grown {w0 W : World} {g : Nat} {f0 : List Int} {f1 : Int} {f2 : Int} {W1 : World} {row : Option Nat} (h : IsS78 w0 W g f0 f1 f2) (hw : W.grownBy W1 row) (hne : some g ≠ row) : IsS78 w0 W1 g f0 f1 f2 := by
  obtain ⟨A0, c0, hb, hg, hr0⟩ := h
  exact ⟨A0, c0, blk_grown hb hw hne, hg, hr0⟩
theorem IsS78.kept {w0 W : World} {g : Nat} {f0 : List Int} {f1 : Int} {f2 : Int} {W1 : World} {S : Nat → Prop} (h : IsS78 w0 W g f0 f1 f2) (hk : Kept W W1 S) (hne : ¬ S g) : IsS78 w0 W1 g f0 f1 f2 := by
  obtain ⟨A0, c0, hb, hg, hr0⟩ := h
  exact ⟨A0, c0, blk_kept hb hk hne, hg, hr0⟩
theorem IsS78.below {w0 W : World} {g : Nat} {f0 : List Int} {f1 : Int} {f2 : Int} {W1 : World} (h : IsS78 w0 W g f0 f1 f2) (hw : Below W.heap.size W W1) : IsS78 w0 W1 g f0 f1 f2 := h.grown (grown_of_below hw none) (by simp)
theorem IsS78.drewN {w0 W : World} {g : Nat} {f0 : List Int} {f1 : Int} {f2 : Int} (h : IsS78 w0 W g f0 f1 f2) (m : Nat) : IsS78 w0 (W.drewN m) g f0 f1 f2 := h
theorem IsS78.drew {w0 W : World} {g : Nat} {f0 : List Int} {f1 : Int} {f2 : Int} (h : IsS78 w0 W g f0 f1 f2) : IsS78 w0 W.drew g f0 f1 f2 := h
theorem IsS78.apart {w0 W : World} {g : Nat} {f0 : List Int} {f1 : Int} {f2 : Int} {α : Type} {d : Kd α} {e : Nat} {base : Nat} {ok : Nat → Prop} {v : Value} {xs : List α} (h : IsS78 w0 W g f0 f1 f2) (ho : d.R e W base ok v xs) (ht : ∀ q, q ∈ e :: d.E → q ≠ 78) : d.R e W base (fun k => ok k ∧ k ≠ g) v xs := by
  obtain ⟨A0, c0, hb, hg, hr0⟩ := h
  exact Kd.R_types ho hb ht
theorem IsS78.own_ne {w0 W : World} {g : Nat} {f0 : List Int} {f1 : Int} {f2 : Int} {α : Type} {d : Kd α} {e : Nat} {base : Nat} {ok : Nat → Prop} {v : Value} {xs : List α} (h : IsS78 w0 W g f0 f1 f2) (ho : d.R e W base ok v xs) (ht : e ≠ 78) : some g ≠ v.ownBlock := by
  obtain ⟨A0, c0, hb, hg, hr0⟩ := h
  exact Kd.R_ne ho hb ht
theorem IsS78.apartS {w0 W : World} {g : Nat} {f0 : List Int} {f1 : Int} {f2 : Int} {α : Type} {d : Kd α} {e : Nat} {base : Nat} {ok : Nat → Prop} {v : Value} {xs : List α} (h : IsS78 w0 W g f0 f1 f2) (ho : d.S e W base ok v xs) (ht : ∀ q, q ∈ e :: d.E → q ≠ 78) : d.S e W base (fun k => ok k ∧ k ≠ g) v xs := by
  obtain ⟨A0, c0, hb, hg, hr0⟩ := h
  exact Kd.S_types ho hb ht
theorem IsS78.own_neS {w0 W : World} {g : Nat} {f0 : List Int} {f1 : Int} {f2 : Int} {α : Type} {d : Kd α} {e : Nat} {base : Nat} {ok : Nat → Prop} {v : Value} {xs : List α} (h : IsS78 w0 W g f0 f1 f2) (ho : d.S e W base ok v xs) (ht : e ≠ 78) : some g ≠ v.ownBlock := by
  obtain ⟨A0, c0, hb, hg, hr0⟩ := h
  exact Kd.S_ne ho hb ht
theorem IsS78.lt {w0 W : World} {g : Nat} {f0 : List Int} {f1 : Int} {f2 : Int} (h : IsS78 w0 W g f0 f1 f2) : g < W.heap.size := by
  obtain ⟨A0, c0, hb, hg, hr0⟩ := h
  exact blk_lt hb
theorem IsS78.ge {w0 W : World} {g : Nat} {f0 : List Int} {f1 : Int} {f2 : Int} (h : IsS78 w0 W g f0 f1 f2) : w0.heap.size ≤ g := by
  obtain ⟨A0, c0, hb, hg, hr0⟩ := h
  exact hg
theorem IsS78.ne_blk {w0 W : World} {g : Nat} {f0 : List Int} {f1 : Int} {f2 : Int} {a : Nat} {cs : Array Value} {t : TypeId} {fr : Nat × Nat} (h : IsS78 w0 W g f0 f1 f2) (hb2 : W.heap[a]? = some (.cells cs t fr)) (ht : t ≠ 78) : g ≠ a := by
  obtain ⟨A0, c0, hb, hg, hr0⟩ := h
  rintro rfl
  rw [hb] at hb2
  injection hb2 with hb2
  injection hb2 with _ ht2
  exact ht ht2.symm
theorem IsS78.far {w0 W : World} {g : Nat} {f0 : List Int} {f1 : Int} {f2 : Int} {p : Addr} (h : IsS78 w0 W g f0 f1 f2) (hne : g ≠ p.block) (u : Value) : IsS78 w0 (W.setCell p u) g f0 f1 f2 := by
  obtain ⟨A0, c0, hb, hg, hr0⟩ := h
  exact ⟨A0, c0, blk_far hb hne u, hg, hr0⟩
theorem cellS78_0 {W : World} {g : Nat} {A0 : Option Addr} {c0 : Nat} {f0 : List Int} {f1 : Int} {f2 : Int} (h : W.heap[g]? = some (.cells #[.slice A0 f0.length c0, .int .i64 f1, .int .u64 f2] 78 (0, 0))) : W.cell? ⟨g, 0, none⟩ = some (.slice A0 f0.length c0) := (blk_cell h 0).trans rfl
theorem cellS78_1 {W : World} {g : Nat} {A0 : Option Addr} {c0 : Nat} {f0 : List Int} {f1 : Int} {f2 : Int} (h : W.heap[g]? = some (.cells #[.slice A0 f0.length c0, .int .i64 f1, .int .u64 f2] 78 (0, 0))) : W.cell? ⟨g, 1, none⟩ = some (.int .i64 f1) := (blk_cell h 1).trans rfl
theorem IsS78.set_1 {w0 W : World} {g : Nat} {f0 : List Int} {f1 : Int} {f2 : Int} (h : IsS78 w0 W g f0 f1 f2) (x : Int) : IsS78 w0 (W.setCell ⟨g, 1, none⟩ (.int .i64 x)) g f0 x f2 := by
  obtain ⟨A0, c0, hb, hg, hr0⟩ := h
  exact ⟨A0, c0, by simpa using blk_set hb 1 (.int .i64 x), hg, hr0⟩
theorem cellS78_2 {W : World} {g : Nat} {A0 : Option Addr} {c0 : Nat} {f0 : List Int} {f1 : Int} {f2 : Int} (h : W.heap[g]? = some (.cells #[.slice A0 f0.length c0, .int .i64 f1, .int .u64 f2] 78 (0, 0))) : W.cell? ⟨g, 2, none⟩ = some (.int .u64 f2) := (blk_cell h 2).trans rfl
theorem IsS78.set_2 {w0 W : World} {g : Nat} {f0 : List Int} {f1 : Int} {f2 : Int} (h : IsS78 w0 W g f0 f1 f2) (x : Int) : IsS78 w0 (W.setCell ⟨g, 2, none⟩ (.int .u64 x)) g f0 f1 x := by
  obtain ⟨A0, c0, hb, hg, hr0⟩ := h
  exact ⟨A0, c0, by simpa using blk_set hb 2 (.int .u64 x), hg, hr0⟩
def spec_l1Cur_next.f (s0_0 : List Int) (s0_1 : Int) (s0_2 : Int) : Option (Int × Int × Int) := if s0_1 < (s0_0.length : Int) then (if 0 ≤ s0_1 then (if (wrap64 (s0_1 + 1)) ≤ (s0_0.length : Int) then (some (wrap64 (rd s0_0 s0_1), wrap64 (s0_1 + 1), IntKind.u64.wrap ((IntKind.u64.wrap ((IntKind.u64.wrap (s0_2 * 6364136223846793005)) + (IntKind.u64.wrap (wrap64 (rd s0_0 s0_1))))) + 1442695040888963407))) else (some (wrap64 (Go.bits .and .u64 ((IntKind.u64.wrap ((IntKind.u64.wrap ((IntKind.u64.wrap (s0_2 * 6364136223846793005)) + (IntKind.u64.wrap (wrap64 (rd s0_0 s0_1))))) + 1442695040888963407)) / 1099511627776) 255), wrap64 (s0_1 + 1), IntKind.u64.wrap ((IntKind.u64.wrap ((IntKind.u64.wrap (s0_2 * 6364136223846793005)) + (IntKind.u64.wrap (wrap64 (rd s0_0 s0_1))))) + 1442695040888963407)))) else (none)) else (if (wrap64 (s0_1 + 1)) ≤ (s0_0.length : Int) then (some (0, wrap64 (s0_1 + 1), IntKind.u64.wrap ((IntKind.u64.wrap ((IntKind.u64.wrap (s0_2 * 6364136223846793005)) + 0)) + 1442695040888963407))) else (some (wrap64 (Go.bits .and .u64 ((IntKind.u64.wrap ((IntKind.u64.wrap ((IntKind.u64.wrap (s0_2 * 6364136223846793005)) + 0)) + 1442695040888963407)) / 1099511627776) 255), wrap64 (s0_1 + 1), IntKind.u64.wrap ((IntKind.u64.wrap ((IntKind.u64.wrap (s0_2 * 6364136223846793005)) + 0)) + 1442695040888963407))))
set_option maxHeartbeats 8000000 in
set_option maxRecDepth 100000 in
theorem spec_l1Cur_next.calls (g : Nat) (s0_0 : List Int) (s0_1 : Int) (s0_2 : Int) (r1 : Int) (r2 : Int) (r3 : Int) (w0 w : World) (hI : IsS78 w0 w g s0_0 s0_1 s0_2) (hB : Below w0.heap.size w0 w) (h : spec_l1Cur_next.f s0_0 s0_1 s0_2 = some (r1, r2, r3)) :
    Calls Try.prog 84 #[.pointer (some ⟨g, 0, none⟩)] w fun e w' => e = .returned (.int .i64 r1) ∧ IsS78 w0 w' g s0_0 r2 r3 ∧ Below w0.heap.size w0 w' ∧ KeepBut w w' g none := by
  have HI0 := Aside0.mk hI
  have HK := Aside0.mk (KeepBut.refl w g none)
  have HL := Aside0.mk hB.size
  clear hI
  have HW0 := Aside0.mk hB.size
  have HB := Aside0.mk hB
  clear hB
  have H : (if s0_1 < (s0_0.length : Int) then (if 0 ≤ s0_1 then (if (wrap64 (s0_1 + 1)) ≤ (s0_0.length : Int) then (some (wrap64 (rd s0_0 s0_1), wrap64 (s0_1 + 1), IntKind.u64.wrap ((IntKind.u64.wrap ((IntKind.u64.wrap (s0_2 * 6364136223846793005)) + (IntKind.u64.wrap (wrap64 (rd s0_0 s0_1))))) + 1442695040888963407))) else (some (wrap64 (Go.bits .and .u64 ((IntKind.u64.wrap ((IntKind.u64.wrap ((IntKind.u64.wrap (s0_2 * 6364136223846793005)) + (IntKind.u64.wrap (wrap64 (rd s0_0 s0_1))))) + 1442695040888963407)) / 1099511627776) 255), wrap64 (s0_1 + 1), IntKind.u64.wrap ((IntKind.u64.wrap ((IntKind.u64.wrap (s0_2 * 6364136223846793005)) + (IntKind.u64.wrap (wrap64 (rd s0_0 s0_1))))) + 1442695040888963407)))) else (none)) else (if (wrap64 (s0_1 + 1)) ≤ (s0_0.length : Int) then (some (0, wrap64 (s0_1 + 1), IntKind.u64.wrap ((IntKind.u64.wrap ((IntKind.u64.wrap (s0_2 * 6364136223846793005)) + 0)) + 1442695040888963407))) else (some (wrap64 (Go.bits .and .u64 ((IntKind.u64.wrap ((IntKind.u64.wrap ((IntKind.u64.wrap (s0_2 * 6364136223846793005)) + 0)) + 1442695040888963407)) / 1099511627776) 255), wrap64 (s0_1 + 1), IntKind.u64.wrap ((IntKind.u64.wrap ((IntKind.u64.wrap (s0_2 * 6364136223846793005)) + 0)) + 1442695040888963407))))) = some (r1, r2, r3) := h
  clear h
  by_cases c2 : s0_1 < (s0_0.length : Int)
  · rw [if_pos c2] at H
    have c2b0 : decide (s0_1 < (s0_0.length : Int)) = true := decide_eq_true c2
    clear c2
    by_cases c3 : 0 ≤ s0_1
    · rw [if_pos c3] at H
      have c3b0 : decide (0 ≤ s0_1) = true := decide_eq_true c3
      clear c3
      by_cases c4 : (wrap64 (s0_1 + 1)) ≤ (s0_0.length : Int)
      · rw [if_pos c4] at H
        have c4b0 : decide ((wrap64 (s0_1 + 1)) ≤ (s0_0.length : Int)) = true := decide_eq_true c4
        clear c4
        as_aux_lemma =>
          simp only [Option.some.injEq, Prod.mk.injEq] at H
          obtain ⟨rfl, rfl, rfl⟩ := H
          obtain ⟨ASz5_0, cSz5_0, HGz5, hgz5, HSz5_0⟩ := HI0.out
          have hcz5_0 := cellS78_0 HGz5
          have hcz5_1 := cellS78_1 HGz5
          have hcz5_2 := cellS78_2 HGz5
          have hfz5_1 := blk_frozen HGz5 1
          have hfz5_2 := blk_frozen HGz5 2
          clear HGz5 hgz5
          have p333 : 0 ≤ (s0_1 : Int) := of_decide_eq_true (by first | (with_reducible assumption) | assumption)
          have q333 : s0_1 < (s0_0.length : Int) := of_decide_eq_true (by first | (with_reducible assumption) | assumption)
          obtain ⟨ad333, e333, hx333_0⟩ := Kd.at_int HSz5_0 s0_1 p333 q333
          cases e333
          replace hx333_0 := pw_cell_below HB.out hx333_0
          replace p333 := eq_true p333
          replace q333 := eq_true q333
          go_enter Try.func84, Try.ntmps84
          go_wp2
          repeat (go_quiet (fail); try go_wp2)
          go_ret
          exact ⟨by first | rfl | (simp [errW_none, errW_some] <;> rfl) | (simp [*, errW_none, errW_some] <;> rfl), by (try simp only [Int.add_zero]); repeat (first | (with_reducible first | exact HI0.out | apply IsS78.alloc | apply IsS78.drewN | apply IsS78.drew | apply IsS78.set_1 | apply IsS78.set_2) | exact HI0.out), by repeat (first | (with_reducible first | exact HB.out | apply below_alloc | apply pw_below_drewN | apply below_drew1 | refine below_set ?_ (IsS78.ge HI0.out)) | exact HB.out), by repeat (first | (with_reducible first | exact HK.out | apply KeepBut.set_ | apply keep_drewN | apply keep_drew | apply keep_alloc) | exact HK.out)⟩
      · rw [if_neg c4] at H
        have c4b0 : decide ((wrap64 (s0_1 + 1)) ≤ (s0_0.length : Int)) = false := decide_eq_false c4
        clear c4
        as_aux_lemma =>
          simp only [Option.some.injEq, Prod.mk.injEq] at H
          obtain ⟨rfl, rfl, rfl⟩ := H
          obtain ⟨ASz6_0, cSz6_0, HGz6, hgz6, HSz6_0⟩ := HI0.out
          have hcz6_0 := cellS78_0 HGz6
          have hcz6_1 := cellS78_1 HGz6
          have hcz6_2 := cellS78_2 HGz6
          have hfz6_1 := blk_frozen HGz6 1
          have hfz6_2 := blk_frozen HGz6 2
          clear HGz6 hgz6
          have p333 : 0 ≤ (s0_1 : Int) := of_decide_eq_true (by first | (with_reducible assumption) | assumption)
          have q333 : s0_1 < (s0_0.length : Int) := of_decide_eq_true (by first | (with_reducible assumption) | assumption)
          obtain ⟨ad333, e333, hx333_0⟩ := Kd.at_int HSz6_0 s0_1 p333 q333
          cases e333
          replace hx333_0 := pw_cell_below HB.out hx333_0
          replace p333 := eq_true p333
          replace q333 := eq_true q333
          go_enter Try.func84, Try.ntmps84
          go_wp2
          repeat (go_quiet (fail); try go_wp2)
          go_ret
          exact ⟨by first | rfl | (simp [errW_none, errW_some] <;> rfl) | (simp [*, errW_none, errW_some] <;> rfl), by (try simp only [Int.add_zero]); repeat (first | (with_reducible first | exact HI0.out | apply IsS78.alloc | apply IsS78.drewN | apply IsS78.drew | apply IsS78.set_1 | apply IsS78.set_2) | exact HI0.out), by repeat (first | (with_reducible first | exact HB.out | apply below_alloc | apply pw_below_drewN | apply below_drew1 | refine below_set ?_ (IsS78.ge HI0.out)) | exact HB.out), by repeat (first | (with_reducible first | exact HK.out | apply KeepBut.set_ | apply keep_drewN | apply keep_drew | apply keep_alloc) | exact HK.out)⟩
    · rw [if_neg c3] at H
      exact absurd H (by simp)
  · rw [if_neg c2] at H
    have c2b0 : decide (s0_1 < (s0_0.length : Int)) = false := decide_eq_false c2
    clear c2
    by_cases c7 : (wrap64 (s0_1 + 1)) ≤ (s0_0.length : Int)
    · rw [if_pos c7] at H
      have c7b0 : decide ((wrap64 (s0_1 + 1)) ≤ (s0_0.length : Int)) = true := decide_eq_true c7
      clear c7
      as_aux_lemma =>
        simp only [Option.some.injEq, Prod.mk.injEq] at H
        obtain ⟨rfl, rfl, rfl⟩ := H
        obtain ⟨ASz8_0, cSz8_0, HGz8, hgz8, HSz8_0⟩ := HI0.out
        have hcz8_0 := cellS78_0 HGz8
        have hcz8_1 := cellS78_1 HGz8
        have hcz8_2 := cellS78_2 HGz8
        have hfz8_1 := blk_frozen HGz8 1
        have hfz8_2 := blk_frozen HGz8 2
        clear HGz8 hgz8
        go_enter Try.func84, Try.ntmps84
        go_wp2
        repeat (go_quiet (fail); try go_wp2)
        go_ret
        exact ⟨by first | rfl | (simp [errW_none, errW_some] <;> rfl) | (simp [*, errW_none, errW_some] <;> rfl), by (try simp only [Int.add_zero]); repeat (first | (with_reducible first | exact HI0.out | apply IsS78.alloc | apply IsS78.drewN | apply IsS78.drew | apply IsS78.set_1 | apply IsS78.set_2) | exact HI0.out), by repeat (first | (with_reducible first | exact HB.out | apply below_alloc | apply pw_below_drewN | apply below_drew1 | refine below_set ?_ (IsS78.ge HI0.out)) | exact HB.out), by repeat (first | (with_reducible first | exact HK.out | apply KeepBut.set_ | apply keep_drewN | apply keep_drew | apply keep_alloc) | exact HK.out)⟩
    · rw [if_neg c7] at H
      have c7b0 : decide ((wrap64 (s0_1 + 1)) ≤ (s0_0.length : Int)) = false := decide_eq_false c7
      clear c7
      as_aux_lemma =>
        simp only [Option.some.injEq, Prod.mk.injEq] at H
        obtain ⟨rfl, rfl, rfl⟩ := H
        obtain ⟨ASz9_0, cSz9_0, HGz9, hgz9, HSz9_0⟩ := HI0.out
        have hcz9_0 := cellS78_0 HGz9
        have hcz9_1 := cellS78_1 HGz9
        have hcz9_2 := cellS78_2 HGz9
        have hfz9_1 := blk_frozen HGz9 1
        have hfz9_2 := blk_frozen HGz9 2
        clear HGz9 hgz9
        go_enter Try.func84, Try.ntmps84
        go_wp2
        repeat (go_quiet (fail); try go_wp2)
        go_ret
        exact ⟨by first | rfl | (simp [errW_none, errW_some] <;> rfl) | (simp [*, errW_none, errW_some] <;> rfl), by (try simp only [Int.add_zero]); repeat (first | (with_reducible first | exact HI0.out | apply IsS78.alloc | apply IsS78.drewN | apply IsS78.drew | apply IsS78.set_1 | apply IsS78.set_2) | exact HI0.out), by repeat (first | (with_reducible first | exact HB.out | apply below_alloc | apply pw_below_drewN | apply below_drew1 | refine below_set ?_ (IsS78.ge HI0.out)) | exact HB.out), by repeat (first | (with_reducible first | exact HK.out | apply KeepBut.set_ | apply keep_drewN | apply keep_drew | apply keep_alloc) | exact HK.out)⟩
end Go.Proofs.Ytplcipjlkogadaa.P

namespace Go.Proofs.Ytplcipjlkogadaa.P
open Go.RowKit Go.Proofs.YtplcipjlkogadaaW.PrintWords Go.Proofs.YtplcipjlkogadaaW.PrintLast Go.Proofs.YtplcipjlkogadaaW.PrintMore
attribute [local go_sem] max2_int min2_int max_two min_two max_three min_three max_four min_four
def spec_l1Cur_pick.f (s0_0 : List Int) (s0_1 : Int) (s0_2 : Int) (a1 : Int) : Option (Int × Int × Int) := if a1 ≤ 1 then (some (0, s0_1, s0_2)) else ((spec_l1Cur_next.f s0_0 s0_1 s0_2).bind fun bt334 => (if a1 > 200 then ((spec_l1Cur_next.f s0_0 bt334.2.1 bt334.2.2).bind fun bt337 => (if a1 = 0 then (none) else (some (Int.tmod (wrap64 ((wrap64 (bt334.1 * 256)) + bt337.1)) a1, bt337.2.1, bt337.2.2)))) else (if a1 = 0 then (none) else (some (Int.tmod bt334.1 a1, bt334.2.1, bt334.2.2)))))
set_option maxHeartbeats 8000000 in
set_option maxRecDepth 100000 in
theorem spec_l1Cur_pick.calls (g : Nat) (s0_0 : List Int) (s0_1 : Int) (s0_2 : Int) (a1 : Int) (r1 : Int) (r2 : Int) (r3 : Int) (w0 w : World) (hI : IsS78 w0 w g s0_0 s0_1 s0_2) (hB : Below w0.heap.size w0 w) (h : spec_l1Cur_pick.f s0_0 s0_1 s0_2 a1 = some (r1, r2, r3)) :
    Calls Try.prog 77 #[.pointer (some ⟨g, 0, none⟩), .int .i64 a1] w fun e w' => e = .returned (.int .i64 r1) ∧ IsS78 w0 w' g s0_0 r2 r3 ∧ Below w0.heap.size w0 w' ∧ KeepBut w w' g none := by
  have HI0 := Aside0.mk hI
  have HK := Aside0.mk (KeepBut.refl w g none)
  have HL := Aside0.mk hB.size
  clear hI
  have HW0 := Aside0.mk hB.size
  have HB := Aside0.mk hB
  clear hB
  have H : (if a1 ≤ 1 then (some (0, s0_1, s0_2)) else ((spec_l1Cur_next.f s0_0 s0_1 s0_2).bind fun bt334 => (if a1 > 200 then ((spec_l1Cur_next.f s0_0 bt334.2.1 bt334.2.2).bind fun bt337 => (if a1 = 0 then (none) else (some (Int.tmod (wrap64 ((wrap64 (bt334.1 * 256)) + bt337.1)) a1, bt337.2.1, bt337.2.2)))) else (if a1 = 0 then (none) else (some (Int.tmod bt334.1 a1, bt334.2.1, bt334.2.2)))))) = some (r1, r2, r3) := h
  clear h
  by_cases c3 : a1 ≤ 1
  · rw [if_pos c3] at H
    have c3b0 : decide (a1 ≤ 1) = true := decide_eq_true c3
    clear c3
    as_aux_lemma =>
      simp only [Option.some.injEq, Prod.mk.injEq] at H
      obtain ⟨rfl, rfl, rfl⟩ := H
      go_enter Try.func77, Try.ntmps77
      go_wp2
      go_ret
      exact ⟨by first | rfl | (simp [errW_none, errW_some] <;> rfl) | (simp [*, errW_none, errW_some] <;> rfl), by (try simp only [Int.add_zero]); repeat (first | (with_reducible first | exact HI0.out | apply IsS78.alloc | apply IsS78.drewN | apply IsS78.drew | apply IsS78.set_1 | apply IsS78.set_2) | exact HI0.out), by repeat (first | (with_reducible first | exact HB.out | apply below_alloc | apply pw_below_drewN | apply below_drew1 | refine below_set ?_ (IsS78.ge HI0.out)) | exact HB.out), by repeat (first | (with_reducible first | exact HK.out | apply KeepBut.set_ | apply keep_drewN | apply keep_drew | apply keep_alloc) | exact HK.out)⟩
  · rw [if_neg c3] at H
    have c3b0 : decide (a1 ≤ 1) = false := decide_eq_false c3
    clear c3
    replace H := Option.bind_eq_some_iff.mp H
    obtain ⟨⟨t334, t335, t336⟩, A40, H⟩ := H
    replace H : (if a1 > 200 then ((spec_l1Cur_next.f s0_0 t335 t336).bind fun bt337 => (if a1 = 0 then (none) else (some (Int.tmod (wrap64 ((wrap64 (t334 * 256)) + bt337.1)) a1, bt337.2.1, bt337.2.2)))) else (if a1 = 0 then (none) else (some (Int.tmod t334 a1, t335, t336)))) = some (r1, r2, r3) := H
    have A4 := Aside0.mk A40
    clear A40
    by_cases c5 : a1 > 200
    · rw [if_pos c5] at H
      have c5b0 : decide (200 < a1) = true := decide_eq_true c5
      clear c5
      replace H := Option.bind_eq_some_iff.mp H
      obtain ⟨⟨t337, t338, t339⟩, A60, H⟩ := H
      replace H : (if a1 = 0 then (none) else (some (Int.tmod (wrap64 ((wrap64 (t334 * 256)) + t337)) a1, t338, t339))) = some (r1, r2, r3) := H
      have A6 := Aside0.mk A60
      clear A60
      by_cases c7 : a1 = 0
      · rw [if_pos c7] at H
        exact absurd H (by simp)
      · rw [if_neg c7] at H
        have c7b0 : (a1 == 0) = false := beq_eq_false_iff_ne.mpr c7
        have c7b1 : (a1 != 0) = true := bne_iff_ne.mpr c7
        as_aux_lemma =>
          simp only [Option.some.injEq, Prod.mk.injEq] at H
          obtain ⟨rfl, rfl, rfl⟩ := H
          go_enter Try.func77, Try.ntmps77
          go_wp2_with (first | ((with_reducible refine gate_callee (f := 84) rfl ?_); refine goesL_ (some 9) rfl rfl Try.func84 (by kernel_rfl) rfl #[.pointer (some ⟨g, 0, none⟩)] rfl (by (try simp only [List.map_toArray, List.map_cons, List.map_nil]); first | done | rfl | (simp only [List.length_drop, List.length_take]; rfl)) ?_; (with_reducible refine (spec_l1Cur_next.calls g s0_0 s0_1 s0_2 t334 t335 t336 w0 _ ?side1 ?side2 A4.out).mono ?_); (case side1 => repeat (first | (with_reducible first | exact HI0.out | apply IsS78.alloc | apply IsS78.drewN | apply IsS78.drew | apply IsS78.set_1 | apply IsS78.set_2) | exact HI0.out)); (case side2 => repeat (first | (with_reducible first | exact HB.out | apply below_alloc | apply pw_below_drewN | apply below_drew1 | refine below_set ?_ (IsS78.ge HI0.out)) | exact HB.out)); rintro e w8 ⟨rfl, hi, hb, hk⟩; refine ⟨_, rfl, ?_⟩; have n0_ := Aside0.mk (KeepBut.trans (by repeat (first | (with_reducible first | exact HK.out | apply KeepBut.set_ | apply keep_drewN | apply keep_drew | apply keep_alloc) | exact HK.out)) hk (.inl rfl)); have n1_ := Aside0.mk (hb); have n2_ := Aside0.mk (hi); clear HK; clear HB; clear HI0; have HK := n0_; have HB := n1_; have HI0 := n2_; clear n0_ n1_ n2_; (try clear hb); (try clear hb2); (try clear hk); (try clear hi)) | ((with_reducible refine gate_callee (f := 84) rfl ?_); refine goesL_ (some 15) rfl rfl Try.func84 (by kernel_rfl) rfl #[.pointer (some ⟨g, 0, none⟩)] rfl (by (try simp only [List.map_toArray, List.map_cons, List.map_nil]); first | done | rfl | (simp only [List.length_drop, List.length_take]; rfl)) ?_; (with_reducible refine (spec_l1Cur_next.calls g s0_0 t335 t336 t337 t338 t339 w0 _ ?side1 ?side2 A6.out).mono ?_); (case side1 => repeat (first | (with_reducible first | exact HI0.out | apply IsS78.alloc | apply IsS78.drewN | apply IsS78.drew | apply IsS78.set_1 | apply IsS78.set_2) | exact HI0.out)); (case side2 => repeat (first | (with_reducible first | exact HB.out | apply below_alloc | apply pw_below_drewN | apply below_drew1 | refine below_set ?_ (IsS78.ge HI0.out)) | exact HB.out)); rintro e w9 ⟨rfl, hi, hb, hk⟩; refine ⟨_, rfl, ?_⟩; have n0_ := Aside0.mk (KeepBut.trans (by repeat (first | (with_reducible first | exact HK.out | apply KeepBut.set_ | apply keep_drewN | apply keep_drew | apply keep_alloc) | exact HK.out)) hk (.inl rfl)); have n1_ := Aside0.mk (hb); have n2_ := Aside0.mk (hi); clear HK; clear HB; clear HI0; have HK := n0_; have HB := n1_; have HI0 := n2_; clear n0_ n1_ n2_; (try clear hb); (try clear hb2); (try clear hk); (try clear hi)))
          go_ret
          exact ⟨by first | rfl | (simp [errW_none, errW_some] <;> rfl) | (simp [*, errW_none, errW_some] <;> rfl), by (try simp only [Int.add_zero]); repeat (first | (with_reducible first | exact HI0.out | apply IsS78.alloc | apply IsS78.drewN | apply IsS78.drew | apply IsS78.set_1 | apply IsS78.set_2) | exact HI0.out), by repeat (first | (with_reducible first | exact HB.out | apply below_alloc | apply pw_below_drewN | apply below_drew1 | refine below_set ?_ (IsS78.ge HI0.out)) | exact HB.out), by repeat (first | (with_reducible first | exact HK.out | apply KeepBut.set_ | apply keep_drewN | apply keep_drew | apply keep_alloc) | exact HK.out)⟩
    · rw [if_neg c5] at H
      have c5b0 : decide (200 < a1) = false := decide_eq_false c5
      clear c5
      by_cases c10 : a1 = 0
      · rw [if_pos c10] at H
        exact absurd H (by simp)
      · rw [if_neg c10] at H
        have c10b0 : (a1 == 0) = false := beq_eq_false_iff_ne.mpr c10
        have c10b1 : (a1 != 0) = true := bne_iff_ne.mpr c10
        as_aux_lemma =>
          simp only [Option.some.injEq, Prod.mk.injEq] at H
          obtain ⟨rfl, rfl, rfl⟩ := H
          go_enter Try.func77, Try.ntmps77
          go_wp2_with (first | ((with_reducible refine gate_callee (f := 84) rfl ?_); refine goesL_ (some 9) rfl rfl Try.func84 (by kernel_rfl) rfl #[.pointer (some ⟨g, 0, none⟩)] rfl (by (try simp only [List.map_toArray, List.map_cons, List.map_nil]); first | done | rfl | (simp only [List.length_drop, List.length_take]; rfl)) ?_; (with_reducible refine (spec_l1Cur_next.calls g s0_0 s0_1 s0_2 t334 t335 t336 w0 _ ?side1 ?side2 A4.out).mono ?_); (case side1 => repeat (first | (with_reducible first | exact HI0.out | apply IsS78.alloc | apply IsS78.drewN | apply IsS78.drew | apply IsS78.set_1 | apply IsS78.set_2) | exact HI0.out)); (case side2 => repeat (first | (with_reducible first | exact HB.out | apply below_alloc | apply pw_below_drewN | apply below_drew1 | refine below_set ?_ (IsS78.ge HI0.out)) | exact HB.out)); rintro e w11 ⟨rfl, hi, hb, hk⟩; refine ⟨_, rfl, ?_⟩; have n0_ := Aside0.mk (KeepBut.trans (by repeat (first | (with_reducible first | exact HK.out | apply KeepBut.set_ | apply keep_drewN | apply keep_drew | apply keep_alloc) | exact HK.out)) hk (.inl rfl)); have n1_ := Aside0.mk (hb); have n2_ := Aside0.mk (hi); clear HK; clear HB; clear HI0; have HK := n0_; have HB := n1_; have HI0 := n2_; clear n0_ n1_ n2_; (try clear hb); (try clear hb2); (try clear hk); (try clear hi)))
          go_ret
          exact ⟨by first | rfl | (simp [errW_none, errW_some] <;> rfl) | (simp [*, errW_none, errW_some] <;> rfl), by (try simp only [Int.add_zero]); repeat (first | (with_reducible first | exact HI0.out | apply IsS78.alloc | apply IsS78.drewN | apply IsS78.drew | apply IsS78.set_1 | apply IsS78.set_2) | exact HI0.out), by repeat (first | (with_reducible first | exact HB.out | apply below_alloc | apply pw_below_drewN | apply below_drew1 | refine below_set ?_ (IsS78.ge HI0.out)) | exact HB.out), by repeat (first | (with_reducible first | exact HK.out | apply KeepBut.set_ | apply keep_drewN | apply keep_drew | apply keep_alloc) | exact HK.out)⟩
end Go.Proofs.Ytplcipjlkogadaa.P

namespace Go.Proofs.Ytplcipjlkogadaa.P
open Go.RowKit Go.Proofs.YtplcipjlkogadaaW.PrintWords Go.Proofs.YtplcipjlkogadaaW.PrintLast Go.Proofs.YtplcipjlkogadaaW.PrintMore
attribute [local go_sem] max2_int min2_int max_two min_two max_three min_three max_four min_four
def spec_l1Cur_one.f (s0_0 : List Int) (s0_1 : Int) (s0_2 : Int) (a1 : Int) : Option (Bool × Int × Int) := (spec_l1Cur_pick.f s0_0 s0_1 s0_2 a1).bind fun bt340 => (some ((bt340.1 == 0), bt340.2.1, bt340.2.2))
set_option maxHeartbeats 8000000 in
set_option maxRecDepth 100000 in
theorem spec_l1Cur_one.calls (g : Nat) (s0_0 : List Int) (s0_1 : Int) (s0_2 : Int) (a1 : Int) (r1 : Bool) (r2 : Int) (r3 : Int) (w0 w : World) (hI : IsS78 w0 w g s0_0 s0_1 s0_2) (hB : Below w0.heap.size w0 w) (h : spec_l1Cur_one.f s0_0 s0_1 s0_2 a1 = some (r1, r2, r3)) :
    Calls Try.prog 80 #[.pointer (some ⟨g, 0, none⟩), .int .i64 a1] w fun e w' => e = .returned (.bool r1) ∧ IsS78 w0 w' g s0_0 r2 r3 ∧ Below w0.heap.size w0 w' ∧ KeepBut w w' g none := by
  have HI0 := Aside0.mk hI
  have HK := Aside0.mk (KeepBut.refl w g none)
  have HL := Aside0.mk hB.size
  clear hI
  have HW0 := Aside0.mk hB.size
  have HB := Aside0.mk hB
  clear hB
  have H : ((spec_l1Cur_pick.f s0_0 s0_1 s0_2 a1).bind fun bt340 => (some ((bt340.1 == 0), bt340.2.1, bt340.2.2))) = some (r1, r2, r3) := h
  clear h
  replace H := Option.bind_eq_some_iff.mp H
  obtain ⟨⟨t340, t341, t342⟩, A30, H⟩ := H
  replace H : (some ((t340 == 0), t341, t342)) = some (r1, r2, r3) := H
  have A3 := Aside0.mk A30
  clear A30
  as_aux_lemma =>
    simp only [Option.some.injEq, Prod.mk.injEq] at H
    obtain ⟨rfl, rfl, rfl⟩ := H
    go_enter Try.func80, Try.ntmps80
    go_wp2_with (first | ((with_reducible refine gate_callee (f := 77) rfl ?_); refine goesL_ (some 7) rfl rfl Try.func77 (by kernel_rfl) rfl #[.pointer (some ⟨g, 0, none⟩), .int .i64 a1] rfl (by (try simp only [List.map_toArray, List.map_cons, List.map_nil]); first | done | rfl | (simp only [List.length_drop, List.length_take]; rfl)) ?_; (with_reducible refine (spec_l1Cur_pick.calls g s0_0 s0_1 s0_2 a1 t340 t341 t342 w0 _ ?side1 ?side2 A3.out).mono ?_); (case side1 => repeat (first | (with_reducible first | exact HI0.out | apply IsS78.alloc | apply IsS78.drewN | apply IsS78.drew | apply IsS78.set_1 | apply IsS78.set_2) | exact HI0.out)); (case side2 => repeat (first | (with_reducible first | exact HB.out | apply below_alloc | apply pw_below_drewN | apply below_drew1 | refine below_set ?_ (IsS78.ge HI0.out)) | exact HB.out)); rintro e w4 ⟨rfl, hi, hb, hk⟩; refine ⟨_, rfl, ?_⟩; have n0_ := Aside0.mk (KeepBut.trans (by repeat (first | (with_reducible first | exact HK.out | apply KeepBut.set_ | apply keep_drewN | apply keep_drew | apply keep_alloc) | exact HK.out)) hk (.inl rfl)); have n1_ := Aside0.mk (hb); have n2_ := Aside0.mk (hi); clear HK; clear HB; clear HI0; have HK := n0_; have HB := n1_; have HI0 := n2_; clear n0_ n1_ n2_; (try clear hb); (try clear hb2); (try clear hk); (try clear hi)))
    go_ret
    exact ⟨by first | rfl | (simp [errW_none, errW_some] <;> rfl) | (simp [*, errW_none, errW_some] <;> rfl), by repeat (first | (with_reducible first | exact HI0.out | apply IsS78.alloc | apply IsS78.drewN | apply IsS78.drew | apply IsS78.set_1 | apply IsS78.set_2) | exact HI0.out), by repeat (first | (with_reducible first | exact HB.out | apply below_alloc | apply pw_below_drewN | apply below_drew1 | refine below_set ?_ (IsS78.ge HI0.out)) | exact HB.out), by repeat (first | (with_reducible first | exact HK.out | apply KeepBut.set_ | apply keep_drewN | apply keep_drew | apply keep_alloc) | exact HK.out)⟩
end Go.Proofs.Ytplcipjlkogadaa.P

namespace Go.Proofs.Ytplcipjlkogadaa.P
open Go.RowKit Go.Proofs.YtplcipjlkogadaaW.PrintWords Go.Proofs.YtplcipjlkogadaaW.PrintLast Go.Proofs.YtplcipjlkogadaaW.PrintMore
attribute [local go_sem] max2_int min2_int max_two min_two max_three min_three max_four min_four
def spec_l1Cur_among.f (s0_0 : List Int) (s0_1 : Int) (s0_2 : Int) (l1 : List Int) : Option (Int × Int × Int) := (spec_l1Cur_pick.f s0_0 s0_1 s0_2 (l1.length : Int)).bind fun bt343 => (if 0 ≤ bt343.1 then (if bt343.1 < (l1.length : Int) then (some (rd l1 bt343.1, bt343.2.1, bt343.2.2)) else (none)) else (none))
set_option maxHeartbeats 8000000 in
set_option maxRecDepth 100000 in
theorem spec_l1Cur_among.calls (g : Nat) (s0_0 : List Int) (s0_1 : Int) (s0_2 : Int) (A1 : Option Addr) (c1 : Nat) (l1 : List Int) (r1 : Int) (r2 : Int) (r3 : Int) (w0 w : World) (hI : IsS78 w0 w g s0_0 s0_1 s0_2) (hB : Below w0.heap.size w0 w) (hr1 : Kd.C (Kd.int .i64) w A1 l1.length l1) (hc1 : l1.length ≤ c1) (hf1 : ∀ ad, A1 = some ad → 0 < l1.length → ad.block ≠ g) (h : spec_l1Cur_among.f s0_0 s0_1 s0_2 l1 = some (r1, r2, r3)) :
    Calls Try.prog 83 #[.pointer (some ⟨g, 0, none⟩), .slice A1 l1.length c1] w fun e w' => e = .returned (.int .i64 r1) ∧ IsS78 w0 w' g s0_0 r2 r3 ∧ Below w0.heap.size w0 w' ∧ KeepBut w w' g none := by
  have HR1 := Aside0.mk hr1
  have HC1 := Aside0.mk hc1
  clear hr1 hc1
  have HI0 := Aside0.mk hI
  have HK := Aside0.mk (KeepBut.refl w g none)
  have HL := Aside0.mk hB.size
  clear hI
  have HW0 := Aside0.mk hB.size
  have HB := Aside0.mk hB
  clear hB
  have H : ((spec_l1Cur_pick.f s0_0 s0_1 s0_2 (l1.length : Int)).bind fun bt343 => (if 0 ≤ bt343.1 then (if bt343.1 < (l1.length : Int) then (some (rd l1 bt343.1, bt343.2.1, bt343.2.2)) else (none)) else (none))) = some (r1, r2, r3) := h
  clear h
  replace H := Option.bind_eq_some_iff.mp H
  obtain ⟨⟨t343, t344, t345⟩, A30, H⟩ := H
  replace H : (if 0 ≤ t343 then (if t343 < (l1.length : Int) then (some (rd l1 t343, t344, t345)) else (none)) else (none)) = some (r1, r2, r3) := H
  have A3 := Aside0.mk A30
  clear A30
  by_cases c4 : 0 ≤ t343
  · rw [if_pos c4] at H
    have c4b0 : decide (0 ≤ t343) = true := decide_eq_true c4
    clear c4
    by_cases c5 : t343 < (l1.length : Int)
    · rw [if_pos c5] at H
      have c5b0 : decide (t343 < (l1.length : Int)) = true := decide_eq_true c5
      clear c5
      as_aux_lemma =>
        simp only [Option.some.injEq, Prod.mk.injEq] at H
        obtain ⟨rfl, rfl, rfl⟩ := H
        go_enter Try.func83, Try.ntmps83
        go_wp2_with (first | ((with_reducible refine gate_callee (f := 77) rfl ?_); refine goesL_ (some 9) rfl rfl Try.func77 (by kernel_rfl) rfl #[.pointer (some ⟨g, 0, none⟩), .int .i64 (l1.length : Int)] rfl (by (try simp only [List.map_toArray, List.map_cons, List.map_nil]); first | done | rfl | (simp only [List.length_drop, List.length_take]; rfl)) ?_; (with_reducible refine (spec_l1Cur_pick.calls g s0_0 s0_1 s0_2 (l1.length : Int) t343 t344 t345 w0 _ ?side1 ?side2 A3.out).mono ?_); (case side1 => repeat (first | (with_reducible first | exact HI0.out | apply IsS78.alloc | apply IsS78.drewN | apply IsS78.drew | apply IsS78.set_1 | apply IsS78.set_2) | exact HI0.out)); (case side2 => repeat (first | (with_reducible first | exact HB.out | apply below_alloc | apply pw_below_drewN | apply below_drew1 | refine below_set ?_ (IsS78.ge HI0.out)) | exact HB.out)); rintro e w6 ⟨rfl, hi, hb, hk⟩; refine ⟨_, rfl, ?_⟩; have n0_ := Aside0.mk (KeepBut.trans (by repeat (first | (with_reducible first | exact HK.out | apply KeepBut.set_ | apply keep_drewN | apply keep_drew | apply keep_alloc) | exact HK.out)) hk (.inl rfl)); have n1_ := Aside0.mk (hb); have n2_ := Aside0.mk (hi); clear HK; clear HB; clear HI0; have HK := n0_; have HB := n1_; have HI0 := n2_; clear n0_ n1_ n2_; (try clear hb); (try clear hb2); (try clear hk); (try clear hi); have p346 : 0 ≤ (t343 : Int) := of_decide_eq_true (by first | (with_reducible assumption) | assumption); have q346 : t343 < (l1.length : Int) := of_decide_eq_true (by first | (with_reducible assumption) | assumption); obtain ⟨ad346, e346, hx346_0⟩ := Kd.at_int HR1.out t343 p346 q346; cases e346; replace hx346_0 := keep_cell HK.out hx346_0 (by first | (rw [add_block]; exact hf1 _ rfl (by omega)) | exact hf1 _ rfl (by omega) | exact hf1 ad346 rfl (by omega)); replace p346 := eq_true p346; replace q346 := eq_true q346))
        go_ret
        exact ⟨by first | rfl | (simp [errW_none, errW_some] <;> rfl) | (simp [*, errW_none, errW_some] <;> rfl), by repeat (first | (with_reducible first | exact HI0.out | apply IsS78.alloc | apply IsS78.drewN | apply IsS78.drew | apply IsS78.set_1 | apply IsS78.set_2) | exact HI0.out), by repeat (first | (with_reducible first | exact HB.out | apply below_alloc | apply pw_below_drewN | apply below_drew1 | refine below_set ?_ (IsS78.ge HI0.out)) | exact HB.out), by repeat (first | (with_reducible first | exact HK.out | apply KeepBut.set_ | apply keep_drewN | apply keep_drew | apply keep_alloc) | exact HK.out)⟩
    · rw [if_neg c5] at H
      exact absurd H (by simp)
  · rw [if_neg c4] at H
    exact absurd H (by simp)
end Go.Proofs.Ytplcipjlkogadaa.P

