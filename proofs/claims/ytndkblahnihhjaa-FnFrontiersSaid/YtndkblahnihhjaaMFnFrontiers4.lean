import Derived.Test.YtndkblahnihhjaaMFnFrontiers1
import Derived.Test.YtndkblahnihhjaaMFnFrontiers2
import Derived.Test.YtndkblahnihhjaaMFnFrontiers3
set_option linter.unusedVariables false
set_option linter.unusedSimpArgs false
set_option linter.unusedSectionVars false
namespace Go.Proofs.Ytndkblahnihhjaa.P
open Go.RowKit Go.Proofs.YtndkblahnihhjaaW.PrintWords Go.Proofs.YtndkblahnihhjaaW.PrintLast Go.Proofs.YtndkblahnihhjaaW.PrintMore
attribute [local go_sem] max2_int min2_int max_two min_two max_three min_three max_four min_four
mutual
def spec_MeetingOf.j0 : Nat → Int → Int → Bool → List (List Int) → Option (Bool × Bool)
  | 0, _, _, _, _ => none
  | k + 1, x1, x2, x32, x161000 => if x32 = true then (some (false, false)) else ((spec_l11Joins.f x161000 (([x1] : List Int))).bind fun t173 => ((spec_l1Put.f k t173 x1).bind fun t176 => ((spec_l11Joins.f x161000 (([x2] : List Int))).bind fun t182 => ((spec_l1Put.f k t182 x2).bind fun t185 => (spec_MeetingOf.l0 k t176 t185 (t185.length : Int) 0)))))
def spec_MeetingOf.l0 : Nat → List Int → List Int → Int → Int → Option (Bool × Bool)
  | 0, _, _, _, _ => none
  | k + 1, x8, x44, x45, x46 => if x46 < x45 then (if 0 ≤ x46 then (if x46 < (x44.length : Int) then ((spec_l1Has.f k x8 (rd x44 x46)).bind fun t189 => (if t189 = true then (some (true, true)) else (spec_MeetingOf.l0 k x8 x44 x45 (wrap64 (x46 + 1))))) else (none)) else (none)) else (some (false, true))
end
def spec_MeetingOf.f (k : Nat) (l0_0 : List (List Int)) (a1 : Int) (a2 : Int) : Option (Bool × Bool) := (spec_GoodGraph.f k l0_0).bind fun t161 => (if t161 = true then (if a1 = a2 then (spec_MeetingOf.j0 k a1 a2 true l0_0) else ((spec_l11Blocks.f k l0_0 (([a1] : List Int))).bind fun t165 => (if t165 = true then ((spec_l11Blocks.f k l0_0 (([a2] : List Int))).bind fun t169 => (spec_MeetingOf.j0 k a1 a2 (!t169) l0_0)) else (spec_MeetingOf.j0 k a1 a2 true l0_0)))) else (spec_MeetingOf.j0 k a1 a2 true l0_0))
set_option maxHeartbeats 8000000 in
set_option maxRecDepth 100000 in
theorem spec_MeetingOf.calls (k : Nat) (A0_0 : Option Addr) (c0_0 : Nat) (l0_0 : List (List Int)) (a1 : Int) (a2 : Int) (r1 : Bool) (r2 : Bool) (w : World) (hr0_0 : Kd.C (Kd.slice 3 (Kd.int .i64)) w A0_0 l0_0.length l0_0) (hc0_0 : l0_0.length ≤ c0_0) (h : spec_MeetingOf.f k l0_0 a1 a2 = some (r1, r2)) :
    Calls Try.prog 9 #[.agg #[.slice A0_0 l0_0.length c0_0], .int .i64 a1, .int .i64 a2] w fun e w' => e = .returned (.tuple #[.bool r1, .bool r2]) ∧ Below w.heap.size w w' := by
  have hu28 := Try.underlying28
  have HR0_0 := Aside0.mk hr0_0
  have HC0_0 := Aside0.mk hc0_0
  clear hr0_0 hc0_0
  have HB := Aside0.mk (Below.refl w.heap.size w)
  have H : ((spec_GoodGraph.f k l0_0).bind fun t161 => (if t161 = true then (if a1 = a2 then (spec_MeetingOf.j0 k a1 a2 true l0_0) else ((spec_l11Blocks.f k l0_0 (([a1] : List Int))).bind fun t165 => (if t165 = true then ((spec_l11Blocks.f k l0_0 (([a2] : List Int))).bind fun t169 => (spec_MeetingOf.j0 k a1 a2 (!t169) l0_0)) else (spec_MeetingOf.j0 k a1 a2 true l0_0)))) else (spec_MeetingOf.j0 k a1 a2 true l0_0))) = some (r1, r2) := h
  clear h
  have HC4 := Aside0.mk H
  clear H
  go_enter Try.func9, Try.ntmps9
  go_upto_region 1 with (first | ((with_reducible refine gate_dst (N := 3) rfl ?_); (try (refine gate_guard (by rfl) ?_; dsimp only)); refine box_event ?hg (N := 3) ?hd (cs := #[.slice A0_0 l0_0.length c0_0]) (t := 28) ?hr ?_; (case hd => rfl); (case hg => rfl); (case hr => first | (go_simp; done) | (go_simp; rfl)); intro gb160 hg w5 hbox hb; have n0_ := Aside0.mk (below_step (by repeat (first | (with_reducible first | exact HB.out | apply below_alloc | apply pw_below_drewN | apply below_drew1) | exact HB.out)) hb); have n1_ := Aside0.mk (hbox); have n2_ := Aside0.mk ((by rw [hg]; exact (below_size (by repeat (first | (with_reducible first | exact HB.out | apply below_alloc | apply pw_below_drewN | apply below_drew1) | exact HB.out))) : w.heap.size ≤ gb160)); have n3_ := Aside0.mk ((by rw [hg]; exact (below_size (by repeat (first | (with_reducible first | exact HB.out | apply below_alloc | apply pw_below_drewN | apply below_drew1) | exact HB.out))) : w.heap.size ≤ gb160)); clear HB; have HB := n0_; have BK160 := n1_; have GW160 := n2_; have GE160 := n3_; clear n0_ n1_ n2_ n3_; clear hb hbox hg))
  (try simp only [Act.put, List.setIfInBounds_toArray, List.set_cons_zero, List.set_cons_succ])
  go_cut [32] (fun v32 wc => ∃ (kq : Nat) (x32_3 : Bool), v32 = .bool x32_3 ∧ Aside0 (spec_MeetingOf.j0 kq a1 a2 x32_3 l0_0 = some (r1, r2)) ∧ Aside0 (kq ≤ k) ∧ Aside0 (wc.heap[gb160]? = some (.cells #[(.slice A0_0 l0_0.length c0_0)] 28 (0, 0))) ∧ Aside0 (Below w.heap.size w wc))
  case first =>
    have H := HC4.out
    clear HC4
    replace H := Option.bind_eq_some_iff.mp H
    obtain ⟨t161, A60, H⟩ := H
    replace H : (if t161 = true then (if a1 = a2 then (spec_MeetingOf.j0 k a1 a2 true l0_0) else ((spec_l11Blocks.f k l0_0 (([a1] : List Int))).bind fun t165 => (if t165 = true then ((spec_l11Blocks.f k l0_0 (([a2] : List Int))).bind fun t169 => (spec_MeetingOf.j0 k a1 a2 (!t169) l0_0)) else (spec_MeetingOf.j0 k a1 a2 true l0_0)))) else (spec_MeetingOf.j0 k a1 a2 true l0_0)) = some (r1, r2) := H
    have A6 := Aside0.mk A60
    clear A60
    by_cases c7 : t161 = true
    · subst c7
      have H1 : (if a1 = a2 then (spec_MeetingOf.j0 k a1 a2 true l0_0) else ((spec_l11Blocks.f k l0_0 (([a1] : List Int))).bind fun t165 => (if t165 = true then ((spec_l11Blocks.f k l0_0 (([a2] : List Int))).bind fun t169 => (spec_MeetingOf.j0 k a1 a2 (!t169) l0_0)) else (spec_MeetingOf.j0 k a1 a2 true l0_0)))) = some (r1, r2) := by rw [if_pos rfl] at H; exact H
      clear H
      have H := H1
      clear H1
      by_cases c8 : a1 = a2
      · rw [if_pos c8] at H
        have c8b0 : (a1 == a2) = true := beq_iff_eq.mpr c8
        have c8b1 : (a1 != a2) = false := bne_eq_false_iff_eq.mpr c8
        clear c8
        (first | rw [c8b0] | (simp only [i64_w, i32_w]; rw [c8b0]) | skip)
        have H' := Aside0.mk H
        clear H
        have hcz9_0 : w5.cell? ⟨gb160, 0, none⟩ = some (.slice A0_0 l0_0.length c0_0) := (blk_cell BK160.out 0).trans rfl
        have hfz9_0 := blk_frozen BK160.out 0
        go_wp2_with (first | ((with_reducible refine gate_callee (f := 39) rfl ?_); refine goesL_ (some 12) rfl rfl Try.func39 (by kernel_rfl) rfl #[.agg #[.slice A0_0 l0_0.length c0_0]] rfl (by (try simp only [List.map_toArray, List.map_cons, List.map_nil]); first | done | rfl | (simp only [List.length_drop, List.length_take]; rfl)) ?_; (with_reducible refine (spec_GoodGraph.calls k _ _ l0_0 true _ ?side1 ?side2 A6.out).mono ?_); (case side1 => repeat (first | exact (Kd.C_below HR0_0.out HB.out) | (with_reducible refine Kd.C_alloc ?_ _) | (with_reducible refine Kd.C_drewN ?_ _) | (with_reducible refine Kd.C_drew ?_))); (case side2 => exact HC0_0.out); rintro e w10 ⟨rfl, hb⟩; refine ⟨_, rfl, ?_⟩; have n0_ := Aside0.mk (blk_below (g := gb160) (o := .cells #[.slice A0_0 l0_0.length c0_0] 28 (0, 0)) (by (with_reducible repeat (first | refine blk_drewN ?_ _ | refine blk_drew ?_ | refine blk_alloc ?_ _)); exact BK160.out) hb); have n1_ := Aside0.mk (below_step (by repeat (first | (with_reducible first | exact HB.out | apply below_alloc | apply pw_below_drewN | apply below_drew1 | refine below_set ?_ GE160.out) | exact HB.out)) hb); clear BK160; clear HB; have BK160 := n0_; have HB := n1_; clear n0_ n1_; (try clear hb); (try clear hb2); (try clear hk); (try clear hi)))
        go_meet
        case rel => exact ⟨_, (true), (by first | rfl | (simp; done) | (simp [*]; done)), H', ⟨by first | omega | exact Nat.le_refl _⟩, ⟨by (with_reducible repeat (first | refine blk_drewN ?_ _ | refine blk_drew ?_ | refine blk_alloc ?_ _)); exact BK160.out⟩, ⟨by repeat (first | (with_reducible first | exact HB.out | apply below_alloc | apply pw_below_drewN | apply below_drew1 | refine below_set ?_ GE160.out) | exact HB.out)⟩⟩
      · rw [if_neg c8] at H
        have c8b0 : (a1 == a2) = false := beq_eq_false_iff_ne.mpr c8
        have c8b1 : (a1 != a2) = true := bne_iff_ne.mpr c8
        (first | rw [c8b0] | (simp only [i64_w, i32_w]; rw [c8b0]) | skip)
        obtain ⟨y162, hy162⟩ : ∃ y_ : List Int, y_ = (([a1] : List Int)) := ⟨_, rfl⟩
        replace H : ((spec_l11Blocks.f k l0_0 y162).bind fun t165 => (if t165 = true then ((spec_l11Blocks.f k l0_0 (([a2] : List Int))).bind fun t169 => (spec_MeetingOf.j0 k a1 a2 (!t169) l0_0)) else (spec_MeetingOf.j0 k a1 a2 true l0_0))) = some (r1, r2) := by first | (rw [hy162]; with_reducible exact H) | (have H2_ := (Option.bind_some _ _).symm.trans H; rw [hy162]; with_reducible exact H2_) | (have H2_ := (Option.bind_some _ _).symm.trans H; with_reducible exact H2_) | with_reducible exact H | (rw [hy162]; exact H) | exact H
        have Ny162 := Aside0.mk hy162
        clear hy162
        replace H := Option.bind_eq_some_iff.mp H
        obtain ⟨t165, A110, H⟩ := H
        replace H : (if t165 = true then ((spec_l11Blocks.f k l0_0 (([a2] : List Int))).bind fun t169 => (spec_MeetingOf.j0 k a1 a2 (!t169) l0_0)) else (spec_MeetingOf.j0 k a1 a2 true l0_0)) = some (r1, r2) := H
        have A11 := Aside0.mk A110
        clear A110
        by_cases c12 : t165 = true
        · subst c12
          have H1 : ((spec_l11Blocks.f k l0_0 (([a2] : List Int))).bind fun t169 => (spec_MeetingOf.j0 k a1 a2 (!t169) l0_0)) = some (r1, r2) := by rw [if_pos rfl] at H; exact H
          clear H
          have H := H1
          clear H1
          obtain ⟨y166, hy166⟩ : ∃ y_ : List Int, y_ = (([a2] : List Int)) := ⟨_, rfl⟩
          replace H : ((spec_l11Blocks.f k l0_0 y166).bind fun t169 => (spec_MeetingOf.j0 k a1 a2 (!t169) l0_0)) = some (r1, r2) := by first | (rw [hy166]; with_reducible exact H) | (have H2_ := (Option.bind_some _ _).symm.trans H; rw [hy166]; with_reducible exact H2_) | (have H2_ := (Option.bind_some _ _).symm.trans H; with_reducible exact H2_) | with_reducible exact H | (rw [hy166]; exact H) | exact H
          have Ny166 := Aside0.mk hy166
          clear hy166
          replace H := Option.bind_eq_some_iff.mp H
          obtain ⟨t169, A130, H⟩ := H
          replace H : (spec_MeetingOf.j0 k a1 a2 (!t169) l0_0) = some (r1, r2) := H
          have A13 := Aside0.mk A130
          clear A130
          have H' := Aside0.mk H
          clear H
          have hcz14_0 : w5.cell? ⟨gb160, 0, none⟩ = some (.slice A0_0 l0_0.length c0_0) := (blk_cell BK160.out 0).trans rfl
          have hfz14_0 := blk_frozen BK160.out 0
          go_wp2_with (first | ((with_reducible refine gate_callee (f := 39) rfl ?_); refine goesL_ (some 12) rfl rfl Try.func39 (by kernel_rfl) rfl #[.agg #[.slice A0_0 l0_0.length c0_0]] rfl (by (try simp only [List.map_toArray, List.map_cons, List.map_nil]); first | done | rfl | (simp only [List.length_drop, List.length_take]; rfl)) ?_; (with_reducible refine (spec_GoodGraph.calls k _ _ l0_0 true _ ?side1 ?side2 A6.out).mono ?_); (case side1 => repeat (first | exact (Kd.C_below HR0_0.out HB.out) | (with_reducible refine Kd.C_alloc ?_ _) | (with_reducible refine Kd.C_drewN ?_ _) | (with_reducible refine Kd.C_drew ?_))); (case side2 => exact HC0_0.out); rintro e w15 ⟨rfl, hb⟩; refine ⟨_, rfl, ?_⟩; have n0_ := Aside0.mk (blk_below (g := gb160) (o := .cells #[.slice A0_0 l0_0.length c0_0] 28 (0, 0)) (by (with_reducible repeat (first | refine blk_drewN ?_ _ | refine blk_drew ?_ | refine blk_alloc ?_ _)); exact BK160.out) hb); have n1_ := Aside0.mk (below_step (by repeat (first | (with_reducible first | exact HB.out | apply below_alloc | apply pw_below_drewN | apply below_drew1 | refine below_set ?_ GE160.out) | exact HB.out)) hb); clear BK160; clear HB; have BK160 := n0_; have HB := n1_; clear n0_ n1_; (try clear hb); (try clear hb2); (try clear hk); (try clear hi); have hcz16_0 : w15.cell? ⟨gb160, 0, none⟩ = some (.slice A0_0 l0_0.length c0_0) := (blk_cell BK160.out 0).trans rfl; have hfz16_0 := blk_frozen BK160.out 0) | ((with_reducible refine gate_dst (N := 22) rfl ?_); (try (refine gate_guard (by rfl) ?_; dsimp only)); refine Kd.R_lit (Kd.int .i64) _ 3 ?hg (N := 22) ?hd (xs := ([a1] : List Int)) (inner := [.int .i64 a1]) (ok := fun _ => True) (okp := fun _ => True) ?hr ?hp (fun _ hk => hk) trivial (Below.refl _ _) (Nat.le_refl _) (by simp) ?_; (case hd => rfl); (case hg => rfl); (case hr => first | (go_simp; done) | (go_simp; rfl)); (case hp => exact (Reps.one (show Kd.M (Kd.int .i64) _ _ _ a1 [.int .i64 a1] from rfl) (Reps.none _ _))); intro v163 w17 ho18 hb hg_ hnew_; clear hg_ hnew_; (first | rw [← Ny162.out] at ho18 | (simp only [Int.reduceToNat] at ho18; rw [← Ny162.out] at ho18)); have n0_ := Aside0.mk (Kd.R_lower ho18 (below_size (by repeat (first | (with_reducible first | exact HB.out | apply below_alloc | apply pw_below_drewN | apply below_drew1 | refine below_set ?_ GE160.out) | exact HB.out)))); have n1_ := Aside0.mk (blk_below (g := gb160) (o := .cells #[.slice A0_0 l0_0.length c0_0] 28 (0, 0)) (by (with_reducible repeat (first | refine blk_drewN ?_ _ | refine blk_drew ?_ | refine blk_alloc ?_ _)); exact BK160.out) hb); have n2_ := Aside0.mk (below_step (by repeat (first | (with_reducible first | exact HB.out | apply below_alloc | apply pw_below_drewN | apply below_drew1 | refine below_set ?_ GE160.out) | exact HB.out)) hb); clear BK160; clear HB; have HO164 := n0_; have BK160 := n1_; have HB := n2_; clear n0_ n1_ n2_; clear hb ho18; obtain ⟨Ao19, co19, eo19⟩ := Kd.R_slice HO164.out; subst eo19) | (go_at_call 40; (with_reducible refine (spec_l11Blocks.calls k _ _ l0_0 _ _ y162 true _ ?side1 ?side2 ?side3 ?side4 A11.out).mono ?_); (case side1 => repeat (first | exact (Kd.C_below HR0_0.out HB.out) | (with_reducible refine Kd.C_alloc ?_ _) | (with_reducible refine Kd.C_drewN ?_ _) | (with_reducible refine Kd.C_drew ?_))); (case side2 => exact HC0_0.out); (case side3 => repeat (first | exact (Kd.R_reads' HO164.out).2.2 | (with_reducible refine Kd.C_alloc ?_ _) | (with_reducible refine Kd.C_drewN ?_ _) | (with_reducible refine Kd.C_drew ?_))); (case side4 => exact (Kd.R_reads' HO164.out).2.1); rintro e w20 ⟨rfl, hb⟩; have n0_ := Aside0.mk (Kd.R_below (by (with_reducible repeat (first | apply Kd.R_alloc | apply Kd.R_drewN | apply Kd.R_drew)); exact HO164.out) hb); have n1_ := Aside0.mk (blk_below (g := gb160) (o := .cells #[.slice A0_0 l0_0.length c0_0] 28 (0, 0)) (by (with_reducible repeat (first | refine blk_drewN ?_ _ | refine blk_drew ?_ | refine blk_alloc ?_ _)); exact BK160.out) hb); have n2_ := Aside0.mk (below_step (by repeat (first | (with_reducible first | exact HB.out | apply below_alloc | apply pw_below_drewN | apply below_drew1 | refine below_set ?_ GE160.out) | exact HB.out)) hb); clear HO164; clear BK160; clear HB; have HO164 := n0_; have BK160 := n1_; have HB := n2_; clear n0_ n1_ n2_; (try clear hb); (try clear hb2); (try clear hk); (try clear hi); have hcz21_0 : w20.cell? ⟨gb160, 0, none⟩ = some (.slice A0_0 l0_0.length c0_0) := (blk_cell BK160.out 0).trans rfl; have hfz21_0 := blk_frozen BK160.out 0) | ((with_reducible refine gate_dst (N := 29) rfl ?_); (try (refine gate_guard (by rfl) ?_; dsimp only)); refine Kd.R_lit (Kd.int .i64) _ 3 ?hg (N := 29) ?hd (xs := ([a2] : List Int)) (inner := [.int .i64 a2]) (ok := fun _ => True) (okp := fun _ => True) ?hr ?hp (fun _ hk => hk) trivial (Below.refl _ _) (Nat.le_refl _) (by simp) ?_; (case hd => rfl); (case hg => rfl); (case hr => first | (go_simp; done) | (go_simp; rfl)); (case hp => exact (Reps.one (show Kd.M (Kd.int .i64) _ _ _ a2 [.int .i64 a2] from rfl) (Reps.none _ _))); intro v167 w22 ho23 hb hg_ hnew_; clear hg_ hnew_; (first | rw [← Ny166.out] at ho23 | (simp only [Int.reduceToNat] at ho23; rw [← Ny166.out] at ho23)); have n0_ := Aside0.mk (Kd.R_elder' (by (with_reducible repeat (first | apply Kd.R_alloc | apply Kd.R_drewN | apply Kd.R_drew)); exact HO164.out) (Kd.R_base ho23) hb); have n1_ := Aside0.mk (Kd.R_lower (Kd.R_new' ho23 (Kd.R_lt (by (with_reducible repeat (first | apply Kd.R_alloc | apply Kd.R_drewN | apply Kd.R_drew)); exact HO164.out))) (below_size (by repeat (first | (with_reducible first | exact HB.out | apply below_alloc | apply pw_below_drewN | apply below_drew1 | refine below_set ?_ GE160.out) | exact HB.out)))); have n2_ := Aside0.mk (blk_below (g := gb160) (o := .cells #[.slice A0_0 l0_0.length c0_0] 28 (0, 0)) (by (with_reducible repeat (first | refine blk_drewN ?_ _ | refine blk_drew ?_ | refine blk_alloc ?_ _)); exact BK160.out) hb); have n3_ := Aside0.mk (below_step (by repeat (first | (with_reducible first | exact HB.out | apply below_alloc | apply pw_below_drewN | apply below_drew1 | refine below_set ?_ GE160.out) | exact HB.out)) hb); clear HO164; clear BK160; clear HB; have HO164 := n0_; have HO168 := n1_; have BK160 := n2_; have HB := n3_; clear n0_ n1_ n2_ n3_; clear hb ho23; obtain ⟨Ao24, co24, eo24⟩ := Kd.R_slice HO168.out; subst eo24) | (go_at_call 40; (with_reducible refine (spec_l11Blocks.calls k _ _ l0_0 _ _ y166 t169 _ ?side1 ?side2 ?side3 ?side4 A13.out).mono ?_); (case side1 => repeat (first | exact (Kd.C_below HR0_0.out HB.out) | (with_reducible refine Kd.C_alloc ?_ _) | (with_reducible refine Kd.C_drewN ?_ _) | (with_reducible refine Kd.C_drew ?_))); (case side2 => exact HC0_0.out); (case side3 => repeat (first | exact (Kd.R_reads' HO168.out).2.2 | (with_reducible refine Kd.C_alloc ?_ _) | (with_reducible refine Kd.C_drewN ?_ _) | (with_reducible refine Kd.C_drew ?_))); (case side4 => exact (Kd.R_reads' HO168.out).2.1); rintro e w25 ⟨rfl, hb⟩; have n0_ := Aside0.mk (Kd.R_below (by (with_reducible repeat (first | apply Kd.R_alloc | apply Kd.R_drewN | apply Kd.R_drew)); exact HO164.out) hb); have n1_ := Aside0.mk (Kd.R_below (by (with_reducible repeat (first | apply Kd.R_alloc | apply Kd.R_drewN | apply Kd.R_drew)); exact HO168.out) hb); have n2_ := Aside0.mk (blk_below (g := gb160) (o := .cells #[.slice A0_0 l0_0.length c0_0] 28 (0, 0)) (by (with_reducible repeat (first | refine blk_drewN ?_ _ | refine blk_drew ?_ | refine blk_alloc ?_ _)); exact BK160.out) hb); have n3_ := Aside0.mk (below_step (by repeat (first | (with_reducible first | exact HB.out | apply below_alloc | apply pw_below_drewN | apply below_drew1 | refine below_set ?_ GE160.out) | exact HB.out)) hb); clear HO164; clear HO168; clear BK160; clear HB; have HO164 := n0_; have HO168 := n1_; have BK160 := n2_; have HB := n3_; clear n0_ n1_ n2_ n3_; (try clear hb); (try clear hb2); (try clear hk); (try clear hi)))
          go_meet
          case rel => exact ⟨_, (!t169), (by first | rfl | (simp; done) | (simp [*]; done)), H', ⟨by first | omega | exact Nat.le_refl _⟩, ⟨by (with_reducible repeat (first | refine blk_drewN ?_ _ | refine blk_drew ?_ | refine blk_alloc ?_ _)); exact BK160.out⟩, ⟨by repeat (first | (with_reducible first | exact HB.out | apply below_alloc | apply pw_below_drewN | apply below_drew1 | refine below_set ?_ GE160.out) | exact HB.out)⟩⟩
        · replace c12 := Bool.eq_false_iff.mpr c12
          subst c12
          have H1 : (spec_MeetingOf.j0 k a1 a2 true l0_0) = some (r1, r2) := by rw [if_neg (show ¬ (false = true) by decide)] at H; exact H
          clear H
          have H := H1
          clear H1
          have H' := Aside0.mk H
          clear H
          have hcz26_0 : w5.cell? ⟨gb160, 0, none⟩ = some (.slice A0_0 l0_0.length c0_0) := (blk_cell BK160.out 0).trans rfl
          have hfz26_0 := blk_frozen BK160.out 0
          go_wp2_with (first | ((with_reducible refine gate_callee (f := 39) rfl ?_); refine goesL_ (some 12) rfl rfl Try.func39 (by kernel_rfl) rfl #[.agg #[.slice A0_0 l0_0.length c0_0]] rfl (by (try simp only [List.map_toArray, List.map_cons, List.map_nil]); first | done | rfl | (simp only [List.length_drop, List.length_take]; rfl)) ?_; (with_reducible refine (spec_GoodGraph.calls k _ _ l0_0 true _ ?side1 ?side2 A6.out).mono ?_); (case side1 => repeat (first | exact (Kd.C_below HR0_0.out HB.out) | (with_reducible refine Kd.C_alloc ?_ _) | (with_reducible refine Kd.C_drewN ?_ _) | (with_reducible refine Kd.C_drew ?_))); (case side2 => exact HC0_0.out); rintro e w27 ⟨rfl, hb⟩; refine ⟨_, rfl, ?_⟩; have n0_ := Aside0.mk (blk_below (g := gb160) (o := .cells #[.slice A0_0 l0_0.length c0_0] 28 (0, 0)) (by (with_reducible repeat (first | refine blk_drewN ?_ _ | refine blk_drew ?_ | refine blk_alloc ?_ _)); exact BK160.out) hb); have n1_ := Aside0.mk (below_step (by repeat (first | (with_reducible first | exact HB.out | apply below_alloc | apply pw_below_drewN | apply below_drew1 | refine below_set ?_ GE160.out) | exact HB.out)) hb); clear BK160; clear HB; have BK160 := n0_; have HB := n1_; clear n0_ n1_; (try clear hb); (try clear hb2); (try clear hk); (try clear hi); have hcz28_0 : w27.cell? ⟨gb160, 0, none⟩ = some (.slice A0_0 l0_0.length c0_0) := (blk_cell BK160.out 0).trans rfl; have hfz28_0 := blk_frozen BK160.out 0) | ((with_reducible refine gate_dst (N := 22) rfl ?_); (try (refine gate_guard (by rfl) ?_; dsimp only)); refine Kd.R_lit (Kd.int .i64) _ 3 ?hg (N := 22) ?hd (xs := ([a1] : List Int)) (inner := [.int .i64 a1]) (ok := fun _ => True) (okp := fun _ => True) ?hr ?hp (fun _ hk => hk) trivial (Below.refl _ _) (Nat.le_refl _) (by simp) ?_; (case hd => rfl); (case hg => rfl); (case hr => first | (go_simp; done) | (go_simp; rfl)); (case hp => exact (Reps.one (show Kd.M (Kd.int .i64) _ _ _ a1 [.int .i64 a1] from rfl) (Reps.none _ _))); intro v163 w29 ho30 hb hg_ hnew_; clear hg_ hnew_; (first | rw [← Ny162.out] at ho30 | (simp only [Int.reduceToNat] at ho30; rw [← Ny162.out] at ho30)); have n0_ := Aside0.mk (Kd.R_lower ho30 (below_size (by repeat (first | (with_reducible first | exact HB.out | apply below_alloc | apply pw_below_drewN | apply below_drew1 | refine below_set ?_ GE160.out) | exact HB.out)))); have n1_ := Aside0.mk (blk_below (g := gb160) (o := .cells #[.slice A0_0 l0_0.length c0_0] 28 (0, 0)) (by (with_reducible repeat (first | refine blk_drewN ?_ _ | refine blk_drew ?_ | refine blk_alloc ?_ _)); exact BK160.out) hb); have n2_ := Aside0.mk (below_step (by repeat (first | (with_reducible first | exact HB.out | apply below_alloc | apply pw_below_drewN | apply below_drew1 | refine below_set ?_ GE160.out) | exact HB.out)) hb); clear BK160; clear HB; have HO164 := n0_; have BK160 := n1_; have HB := n2_; clear n0_ n1_ n2_; clear hb ho30; obtain ⟨Ao31, co31, eo31⟩ := Kd.R_slice HO164.out; subst eo31) | (go_at_call 40; (with_reducible refine (spec_l11Blocks.calls k _ _ l0_0 _ _ y162 false _ ?side1 ?side2 ?side3 ?side4 A11.out).mono ?_); (case side1 => repeat (first | exact (Kd.C_below HR0_0.out HB.out) | (with_reducible refine Kd.C_alloc ?_ _) | (with_reducible refine Kd.C_drewN ?_ _) | (with_reducible refine Kd.C_drew ?_))); (case side2 => exact HC0_0.out); (case side3 => repeat (first | exact (Kd.R_reads' HO164.out).2.2 | (with_reducible refine Kd.C_alloc ?_ _) | (with_reducible refine Kd.C_drewN ?_ _) | (with_reducible refine Kd.C_drew ?_))); (case side4 => exact (Kd.R_reads' HO164.out).2.1); rintro e w32 ⟨rfl, hb⟩; have n0_ := Aside0.mk (Kd.R_below (by (with_reducible repeat (first | apply Kd.R_alloc | apply Kd.R_drewN | apply Kd.R_drew)); exact HO164.out) hb); have n1_ := Aside0.mk (blk_below (g := gb160) (o := .cells #[.slice A0_0 l0_0.length c0_0] 28 (0, 0)) (by (with_reducible repeat (first | refine blk_drewN ?_ _ | refine blk_drew ?_ | refine blk_alloc ?_ _)); exact BK160.out) hb); have n2_ := Aside0.mk (below_step (by repeat (first | (with_reducible first | exact HB.out | apply below_alloc | apply pw_below_drewN | apply below_drew1 | refine below_set ?_ GE160.out) | exact HB.out)) hb); clear HO164; clear BK160; clear HB; have HO164 := n0_; have BK160 := n1_; have HB := n2_; clear n0_ n1_ n2_; (try clear hb); (try clear hb2); (try clear hk); (try clear hi)))
          go_meet
          case rel => exact ⟨_, (true), (by first | rfl | (simp; done) | (simp [*]; done)), H', ⟨by first | omega | exact Nat.le_refl _⟩, ⟨by (with_reducible repeat (first | refine blk_drewN ?_ _ | refine blk_drew ?_ | refine blk_alloc ?_ _)); exact BK160.out⟩, ⟨by repeat (first | (with_reducible first | exact HB.out | apply below_alloc | apply pw_below_drewN | apply below_drew1 | refine below_set ?_ GE160.out) | exact HB.out)⟩⟩
    · replace c7 := Bool.eq_false_iff.mpr c7
      subst c7
      have H1 : (spec_MeetingOf.j0 k a1 a2 true l0_0) = some (r1, r2) := by rw [if_neg (show ¬ (false = true) by decide)] at H; exact H
      clear H
      have H := H1
      clear H1
      have H' := Aside0.mk H
      clear H
      have hcz33_0 : w5.cell? ⟨gb160, 0, none⟩ = some (.slice A0_0 l0_0.length c0_0) := (blk_cell BK160.out 0).trans rfl
      have hfz33_0 := blk_frozen BK160.out 0
      go_wp2_with (first | ((with_reducible refine gate_callee (f := 39) rfl ?_); refine goesL_ (some 12) rfl rfl Try.func39 (by kernel_rfl) rfl #[.agg #[.slice A0_0 l0_0.length c0_0]] rfl (by (try simp only [List.map_toArray, List.map_cons, List.map_nil]); first | done | rfl | (simp only [List.length_drop, List.length_take]; rfl)) ?_; (with_reducible refine (spec_GoodGraph.calls k _ _ l0_0 false _ ?side1 ?side2 A6.out).mono ?_); (case side1 => repeat (first | exact (Kd.C_below HR0_0.out HB.out) | (with_reducible refine Kd.C_alloc ?_ _) | (with_reducible refine Kd.C_drewN ?_ _) | (with_reducible refine Kd.C_drew ?_))); (case side2 => exact HC0_0.out); rintro e w34 ⟨rfl, hb⟩; refine ⟨_, rfl, ?_⟩; have n0_ := Aside0.mk (blk_below (g := gb160) (o := .cells #[.slice A0_0 l0_0.length c0_0] 28 (0, 0)) (by (with_reducible repeat (first | refine blk_drewN ?_ _ | refine blk_drew ?_ | refine blk_alloc ?_ _)); exact BK160.out) hb); have n1_ := Aside0.mk (below_step (by repeat (first | (with_reducible first | exact HB.out | apply below_alloc | apply pw_below_drewN | apply below_drew1 | refine below_set ?_ GE160.out) | exact HB.out)) hb); clear BK160; clear HB; have BK160 := n0_; have HB := n1_; clear n0_ n1_; (try clear hb); (try clear hb2); (try clear hk); (try clear hi)))
      go_meet
      case rel => exact ⟨_, (true), (by first | rfl | (simp; done) | (simp [*]; done)), H', ⟨by first | omega | exact Nat.le_refl _⟩, ⟨by (with_reducible repeat (first | refine blk_drewN ?_ _ | refine blk_drew ?_ | refine blk_alloc ?_ _)); exact BK160.out⟩, ⟨by repeat (first | (with_reducible first | exact HB.out | apply below_alloc | apply pw_below_drewN | apply below_drew1 | refine below_set ?_ GE160.out) | exact HB.out)⟩⟩
  case rest =>
    clear HC4
    try clear c1
    try clear p2
    try clear c3
    try clear c7
    try clear c8
    try clear c8b0
    try clear c8b1
    try clear c9
    try clear c12
    try clear hcz14_0
    try clear hcz16_0
    try clear hcz21_0
    try clear hcz26_0
    try clear hcz28_0
    try clear hcz33_0
    try clear hcz9_0
    try clear hfz14_0
    try clear hfz16_0
    try clear hfz21_0
    try clear hfz26_0
    try clear hfz28_0
    try clear hfz33_0
    try clear hfz9_0
    obtain ⟨kq, x32_3, rfl, HA, HJ3, BK160, HB⟩ := hcut
    cases kq with
    | zero => exact absurd HA.out (by simp [spec_MeetingOf.j0])
    | succ kj3 =>
      have H := HA.out
      clear HA
      simp only [spec_MeetingOf.j0] at H
      by_cases c35 : x32_3 = true
      · subst c35
        have H1 : (some (false, false)) = some (r1, r2) := by rw [if_pos rfl] at H; exact H
        clear H
        have H := H1
        clear H1
        simp only [Option.some.injEq, Prod.mk.injEq] at H
        obtain ⟨rfl, rfl⟩ := H
        go_wp2
        go_ret2
        exact ⟨by first | rfl | (simp [errW_none, errW_some] <;> rfl) | (simp [*, errW_none, errW_some] <;> rfl), by repeat (first | (with_reducible first | exact HB.out | apply below_alloc | apply pw_below_drewN | apply below_drew1 | refine below_set ?_ GE160.out) | exact HB.out)⟩
      · replace c35 := Bool.eq_false_iff.mpr c35
        subst c35
        have H1 : ((spec_l11Joins.f l0_0 (([a1] : List Int))).bind fun t173 => ((spec_l1Put.f kj3 t173 a1).bind fun t176 => ((spec_l11Joins.f l0_0 (([a2] : List Int))).bind fun t182 => ((spec_l1Put.f kj3 t182 a2).bind fun t185 => (spec_MeetingOf.l0 kj3 t176 t185 (t185.length : Int) 0))))) = some (r1, r2) := by rw [if_neg (show ¬ (false = true) by decide)] at H; exact H
        clear H
        have H := H1
        clear H1
        obtain ⟨y170, hy170⟩ : ∃ y_ : List Int, y_ = (([a1] : List Int)) := ⟨_, rfl⟩
        replace H : ((spec_l11Joins.f l0_0 y170).bind fun t173 => ((spec_l1Put.f kj3 t173 a1).bind fun t176 => ((spec_l11Joins.f l0_0 (([a2] : List Int))).bind fun t182 => ((spec_l1Put.f kj3 t182 a2).bind fun t185 => (spec_MeetingOf.l0 kj3 t176 t185 (t185.length : Int) 0))))) = some (r1, r2) := by first | (rw [hy170]; with_reducible exact H) | (have H2_ := (Option.bind_some _ _).symm.trans H; rw [hy170]; with_reducible exact H2_) | (have H2_ := (Option.bind_some _ _).symm.trans H; with_reducible exact H2_) | with_reducible exact H | (rw [hy170]; exact H) | exact H
        have Ny170 := Aside0.mk hy170
        clear hy170
        replace H := Option.bind_eq_some_iff.mp H
        obtain ⟨t173, A360, H⟩ := H
        replace H : ((spec_l1Put.f kj3 t173 a1).bind fun t176 => ((spec_l11Joins.f l0_0 (([a2] : List Int))).bind fun t182 => ((spec_l1Put.f kj3 t182 a2).bind fun t185 => (spec_MeetingOf.l0 kj3 t176 t185 (t185.length : Int) 0)))) = some (r1, r2) := H
        have A36 := Aside0.mk A360
        clear A360
        replace H := Option.bind_eq_some_iff.mp H
        obtain ⟨t176, A370, H⟩ := H
        replace H : ((spec_l11Joins.f l0_0 (([a2] : List Int))).bind fun t182 => ((spec_l1Put.f kj3 t182 a2).bind fun t185 => (spec_MeetingOf.l0 kj3 t176 t185 (t185.length : Int) 0))) = some (r1, r2) := H
        have A37 := Aside0.mk A370
        clear A370
        obtain ⟨y179, hy179⟩ : ∃ y_ : List Int, y_ = (([a2] : List Int)) := ⟨_, rfl⟩
        replace H : ((spec_l11Joins.f l0_0 y179).bind fun t182 => ((spec_l1Put.f kj3 t182 a2).bind fun t185 => (spec_MeetingOf.l0 kj3 t176 t185 (t185.length : Int) 0))) = some (r1, r2) := by first | (rw [hy179]; with_reducible exact H) | (have H2_ := (Option.bind_some _ _).symm.trans H; rw [hy179]; with_reducible exact H2_) | (have H2_ := (Option.bind_some _ _).symm.trans H; with_reducible exact H2_) | with_reducible exact H | (rw [hy179]; exact H) | exact H
        have Ny179 := Aside0.mk hy179
        clear hy179
        replace H := Option.bind_eq_some_iff.mp H
        obtain ⟨t182, A380, H⟩ := H
        replace H : ((spec_l1Put.f kj3 t182 a2).bind fun t185 => (spec_MeetingOf.l0 kj3 t176 t185 (t185.length : Int) 0)) = some (r1, r2) := H
        have A38 := Aside0.mk A380
        clear A380
        replace H := Option.bind_eq_some_iff.mp H
        obtain ⟨t185, A390, H⟩ := H
        replace H : (spec_MeetingOf.l0 kj3 t176 t185 (t185.length : Int) 0) = some (r1, r2) := H
        have A39 := Aside0.mk A390
        clear A390
        have H' := Aside0.mk H
        clear H
        have hcz40_0 : wc.cell? ⟨gb160, 0, none⟩ = some (.slice A0_0 l0_0.length c0_0) := (blk_cell BK160.out 0).trans rfl
        have hfz40_0 := blk_frozen BK160.out 0
        go_wp2_with (first | ((with_reducible refine gate_dst (N := 35) rfl ?_); (try (refine gate_guard (by rfl) ?_; dsimp only)); refine Kd.R_lit (Kd.int .i64) _ 3 ?hg (N := 35) ?hd (xs := ([a1] : List Int)) (inner := [.int .i64 a1]) (ok := fun _ => True) (okp := fun _ => True) ?hr ?hp (fun _ hk => hk) trivial (Below.refl _ _) (Nat.le_refl _) (by simp) ?_; (case hd => rfl); (case hg => rfl); (case hr => first | (go_simp; done) | (go_simp; rfl)); (case hp => exact (Reps.one (show Kd.M (Kd.int .i64) _ _ _ a1 [.int .i64 a1] from rfl) (Reps.none _ _))); intro v171 w41 ho42 hb hg_ hnew_; clear hg_ hnew_; (first | rw [← Ny170.out] at ho42 | (simp only [Int.reduceToNat] at ho42; rw [← Ny170.out] at ho42)); have n0_ := Aside0.mk (Kd.R_lower ho42 (below_size (by repeat (first | (with_reducible first | exact HB.out | apply below_alloc | apply pw_below_drewN | apply below_drew1 | refine below_set ?_ GE160.out) | exact HB.out)))); have n1_ := Aside0.mk (blk_below (g := gb160) (o := .cells #[.slice A0_0 l0_0.length c0_0] 28 (0, 0)) (by (with_reducible repeat (first | refine blk_drewN ?_ _ | refine blk_drew ?_ | refine blk_alloc ?_ _)); exact BK160.out) hb); have n2_ := Aside0.mk (below_step (by repeat (first | (with_reducible first | exact HB.out | apply below_alloc | apply pw_below_drewN | apply below_drew1 | refine below_set ?_ GE160.out) | exact HB.out)) hb); clear BK160; clear HB; have HO172 := n0_; have BK160 := n1_; have HB := n2_; clear n0_ n1_ n2_; clear hb ho42; obtain ⟨Ao43, co43, eo43⟩ := Kd.R_slice HO172.out; subst eo43) | ((with_reducible refine gate_callee (f := 42) rfl ?_); refine goesL_ (some 36) rfl rfl Try.func42 (by kernel_rfl) rfl #[.agg #[.slice A0_0 l0_0.length c0_0], .slice Ao43 y170.length co43] rfl (by (try simp only [List.map_toArray, List.map_cons, List.map_nil]); first | done | rfl | (simp only [List.length_drop, List.length_take]; rfl)) ?_; (with_reducible refine (spec_l11Joins.calls _ _ l0_0 _ _ y170 t173 _ ?side1 ?side2 ?side3 ?side4 A36.out).mono ?_); (case side1 => repeat (first | exact (Kd.C_below HR0_0.out HB.out) | (with_reducible refine Kd.C_alloc ?_ _) | (with_reducible refine Kd.C_drewN ?_ _) | (with_reducible refine Kd.C_drew ?_))); (case side2 => exact HC0_0.out); (case side3 => repeat (first | exact (Kd.R_reads' HO172.out).2.2 | (with_reducible refine Kd.C_alloc ?_ _) | (with_reducible refine Kd.C_drewN ?_ _) | (with_reducible refine Kd.C_drew ?_))); (case side4 => exact (Kd.R_reads' HO172.out).2.1); rintro e w44 ⟨v174, rfl, ho0, hb⟩; refine ⟨_, rfl, ?_⟩; have n0_ := Aside0.mk (Kd.R_elder' (by (with_reducible repeat (first | apply Kd.R_alloc | apply Kd.R_drewN | apply Kd.R_drew)); exact HO172.out) (Kd.R_base ho0) hb); have n1_ := Aside0.mk (Kd.R_lower (Kd.R_new' ho0 (Kd.R_lt (by (with_reducible repeat (first | apply Kd.R_alloc | apply Kd.R_drewN | apply Kd.R_drew)); exact HO172.out))) (below_size (by repeat (first | (with_reducible first | exact HB.out | apply below_alloc | apply pw_below_drewN | apply below_drew1 | refine below_set ?_ GE160.out) | exact HB.out)))); have n2_ := Aside0.mk (blk_below (g := gb160) (o := .cells #[.slice A0_0 l0_0.length c0_0] 28 (0, 0)) (by (with_reducible repeat (first | refine blk_drewN ?_ _ | refine blk_drew ?_ | refine blk_alloc ?_ _)); exact BK160.out) hb); have n3_ := Aside0.mk (below_step (by repeat (first | (with_reducible first | exact HB.out | apply below_alloc | apply pw_below_drewN | apply below_drew1 | refine below_set ?_ GE160.out) | exact HB.out)) hb); clear HO172; clear BK160; clear HB; have HO172 := n0_; have HO175 := n1_; have BK160 := n2_; have HB := n3_; clear n0_ n1_ n2_ n3_; (try clear hb); (try clear hb2); (try clear hk); (try clear hi); (try clear ho0); obtain ⟨Ao45, co45, eo45⟩ := Kd.R_slice HO175.out; subst eo45) | ((with_reducible refine gate_callee (f := 41) rfl ?_); refine goesL_ (some 38) rfl rfl Try.func41 (by kernel_rfl) rfl #[.slice Ao45 t173.length co45, .int .i64 a1] rfl (by (try simp only [List.map_toArray, List.map_cons, List.map_nil]); first | done | rfl | (simp only [List.length_drop, List.length_take]; rfl)) ?_; (with_reducible refine (spec_l1Put.calls kj3 (fun k_ => some k_ = (.slice Ao45 t173.length co45 : Value).ownBlock) (.slice Ao45 t173.length co45) t173 a1 t176 w _ ?side1 ?side2 A37.out).mono ?_); (case side1 => repeat (first | (with_reducible first | exact HB.out | apply below_alloc | apply pw_below_drewN | apply below_drew1 | refine below_set ?_ GE160.out) | exact HB.out)); (case side2 => exact Kd.R_tight rfl HO175.out); rintro e w46 ⟨v177, rfl, ho0, hb, hkp⟩; refine ⟨_, rfl, ?_⟩; have n0_ := Aside0.mk (blk_kept (by (with_reducible repeat (first | refine blk_drewN ?_ _ | refine blk_drew ?_ | refine blk_alloc ?_ _)); exact BK160.out) hkp (fun hs_ => (fun e_ => (Kd.R_ne HO175.out BK160.out (by decide)) e_) hs_)); have n1_ := Aside0.mk (Kd.R_mono (ok' := fun k_ => some k_ ≠ (v177 : Value).ownBlock) (Kd.R_keptB (HO172.out) hkp (fun k_ hk_ hs_ => (hk_.2) hs_)) (fun k_ hk_ => fun e_ => Or.elim (ho0.1 k_ e_.symm) (fun hs_ => hk_.2.1 hs_) (fun hn_ => Nat.not_le.2 hk_.2.2 hn_))); have n2_ := Aside0.mk (Kd.R_mono (ok' := fun k_ => some k_ ≠ (.slice Ao43 y170.length co43 : Value).ownBlock) ho0 (fun k_ hk_ => Or.elim hk_ (fun hs_ => fun e_ => (((HO172.out).1 k_ e_.symm).2) hs_) (fun hn_ => (Kd.fresh' (Kd.R_lt (by (with_reducible repeat (first | apply Kd.R_alloc | apply Kd.R_drewN | apply Kd.R_drew)); exact HO172.out)) k_ hn_)))); have n3_ := Aside0.mk (hb); clear BK160; clear HO172; clear HB; clear HO175; have BK160 := n0_; have HO172 := n1_; have HO178 := n2_; have HB := n3_; clear n0_ n1_ n2_ n3_; (try clear hb); (try clear hkp); (try clear ho0); have hcz47_0 : w46.cell? ⟨gb160, 0, none⟩ = some (.slice A0_0 l0_0.length c0_0) := (blk_cell BK160.out 0).trans rfl; have hfz47_0 := blk_frozen BK160.out 0) | ((with_reducible refine gate_dst (N := 41) rfl ?_); (try (refine gate_guard (by rfl) ?_; dsimp only)); refine Kd.R_lit (Kd.int .i64) _ 3 ?hg (N := 41) ?hd (xs := ([a2] : List Int)) (inner := [.int .i64 a2]) (ok := fun _ => True) (okp := fun _ => True) ?hr ?hp (fun _ hk => hk) trivial (Below.refl _ _) (Nat.le_refl _) (by simp) ?_; (case hd => rfl); (case hg => rfl); (case hr => first | (go_simp; done) | (go_simp; rfl)); (case hp => exact (Reps.one (show Kd.M (Kd.int .i64) _ _ _ a2 [.int .i64 a2] from rfl) (Reps.none _ _))); intro v180 w48 ho49 hb hg_ hnew_; clear hg_ hnew_; (first | rw [← Ny179.out] at ho49 | (simp only [Int.reduceToNat] at ho49; rw [← Ny179.out] at ho49)); have n0_ := Aside0.mk (Kd.R_elder' (by (with_reducible repeat (first | apply Kd.R_alloc | apply Kd.R_drewN | apply Kd.R_drew)); exact HO172.out) (Kd.R_base ho49) hb); have n1_ := Aside0.mk (Kd.R_elder' (by (with_reducible repeat (first | apply Kd.R_alloc | apply Kd.R_drewN | apply Kd.R_drew)); exact HO178.out) (Kd.R_base ho49) hb); have n2_ := Aside0.mk (Kd.R_lower (Kd.R_new' (Kd.R_new' ho49 (Kd.R_lt (by (with_reducible repeat (first | apply Kd.R_alloc | apply Kd.R_drewN | apply Kd.R_drew)); exact HO172.out))) (Kd.R_lt (by (with_reducible repeat (first | apply Kd.R_alloc | apply Kd.R_drewN | apply Kd.R_drew)); exact HO178.out))) (below_size (by repeat (first | (with_reducible first | exact HB.out | apply below_alloc | apply pw_below_drewN | apply below_drew1 | refine below_set ?_ GE160.out) | exact HB.out)))); have n3_ := Aside0.mk (blk_below (g := gb160) (o := .cells #[.slice A0_0 l0_0.length c0_0] 28 (0, 0)) (by (with_reducible repeat (first | refine blk_drewN ?_ _ | refine blk_drew ?_ | refine blk_alloc ?_ _)); exact BK160.out) hb); have n4_ := Aside0.mk (below_step (by repeat (first | (with_reducible first | exact HB.out | apply below_alloc | apply pw_below_drewN | apply below_drew1 | refine below_set ?_ GE160.out) | exact HB.out)) hb); clear HO172; clear HO178; clear BK160; clear HB; have HO172 := n0_; have HO178 := n1_; have HO181 := n2_; have BK160 := n3_; have HB := n4_; clear n0_ n1_ n2_ n3_ n4_; clear hb ho49; obtain ⟨Ao50, co50, eo50⟩ := Kd.R_slice HO181.out; subst eo50) | ((with_reducible refine gate_callee (f := 42) rfl ?_); refine goesL_ (some 42) rfl rfl Try.func42 (by kernel_rfl) rfl #[.agg #[.slice A0_0 l0_0.length c0_0], .slice Ao50 y179.length co50] rfl (by (try simp only [List.map_toArray, List.map_cons, List.map_nil]); first | done | rfl | (simp only [List.length_drop, List.length_take]; rfl)) ?_; (with_reducible refine (spec_l11Joins.calls _ _ l0_0 _ _ y179 t182 _ ?side1 ?side2 ?side3 ?side4 A38.out).mono ?_); (case side1 => repeat (first | exact (Kd.C_below HR0_0.out HB.out) | (with_reducible refine Kd.C_alloc ?_ _) | (with_reducible refine Kd.C_drewN ?_ _) | (with_reducible refine Kd.C_drew ?_))); (case side2 => exact HC0_0.out); (case side3 => repeat (first | exact (Kd.R_reads' HO181.out).2.2 | (with_reducible refine Kd.C_alloc ?_ _) | (with_reducible refine Kd.C_drewN ?_ _) | (with_reducible refine Kd.C_drew ?_))); (case side4 => exact (Kd.R_reads' HO181.out).2.1); rintro e w51 ⟨v183, rfl, ho0, hb⟩; refine ⟨_, rfl, ?_⟩; have n0_ := Aside0.mk (Kd.R_elder' (by (with_reducible repeat (first | apply Kd.R_alloc | apply Kd.R_drewN | apply Kd.R_drew)); exact HO172.out) (Kd.R_base ho0) hb); have n1_ := Aside0.mk (Kd.R_elder' (by (with_reducible repeat (first | apply Kd.R_alloc | apply Kd.R_drewN | apply Kd.R_drew)); exact HO178.out) (Kd.R_base ho0) hb); have n2_ := Aside0.mk (Kd.R_elder' (by (with_reducible repeat (first | apply Kd.R_alloc | apply Kd.R_drewN | apply Kd.R_drew)); exact HO181.out) (Kd.R_base ho0) hb); have n3_ := Aside0.mk (Kd.R_lower (Kd.R_new' (Kd.R_new' (Kd.R_new' ho0 (Kd.R_lt (by (with_reducible repeat (first | apply Kd.R_alloc | apply Kd.R_drewN | apply Kd.R_drew)); exact HO172.out))) (Kd.R_lt (by (with_reducible repeat (first | apply Kd.R_alloc | apply Kd.R_drewN | apply Kd.R_drew)); exact HO178.out))) (Kd.R_lt (by (with_reducible repeat (first | apply Kd.R_alloc | apply Kd.R_drewN | apply Kd.R_drew)); exact HO181.out))) (below_size (by repeat (first | (with_reducible first | exact HB.out | apply below_alloc | apply pw_below_drewN | apply below_drew1 | refine below_set ?_ GE160.out) | exact HB.out)))); have n4_ := Aside0.mk (blk_below (g := gb160) (o := .cells #[.slice A0_0 l0_0.length c0_0] 28 (0, 0)) (by (with_reducible repeat (first | refine blk_drewN ?_ _ | refine blk_drew ?_ | refine blk_alloc ?_ _)); exact BK160.out) hb); have n5_ := Aside0.mk (below_step (by repeat (first | (with_reducible first | exact HB.out | apply below_alloc | apply pw_below_drewN | apply below_drew1 | refine below_set ?_ GE160.out) | exact HB.out)) hb); clear HO172; clear HO178; clear HO181; clear BK160; clear HB; have HO172 := n0_; have HO178 := n1_; have HO181 := n2_; have HO184 := n3_; have BK160 := n4_; have HB := n5_; clear n0_ n1_ n2_ n3_ n4_ n5_; (try clear hb); (try clear hb2); (try clear hk); (try clear hi); (try clear ho0); obtain ⟨Ao52, co52, eo52⟩ := Kd.R_slice HO184.out; subst eo52) | ((with_reducible refine gate_callee (f := 41) rfl ?_); refine goesL_ (some 44) rfl rfl Try.func41 (by kernel_rfl) rfl #[.slice Ao52 t182.length co52, .int .i64 a2] rfl (by (try simp only [List.map_toArray, List.map_cons, List.map_nil]); first | done | rfl | (simp only [List.length_drop, List.length_take]; rfl)) ?_; (with_reducible refine (spec_l1Put.calls kj3 (fun k_ => some k_ = (.slice Ao52 t182.length co52 : Value).ownBlock) (.slice Ao52 t182.length co52) t182 a2 t185 w _ ?side1 ?side2 A39.out).mono ?_); (case side1 => repeat (first | (with_reducible first | exact HB.out | apply below_alloc | apply pw_below_drewN | apply below_drew1 | refine below_set ?_ GE160.out) | exact HB.out)); (case side2 => exact Kd.R_tight rfl HO184.out); rintro e w53 ⟨v186, rfl, ho0, hb, hkp⟩; refine ⟨_, rfl, ?_⟩; have n0_ := Aside0.mk (blk_kept (by (with_reducible repeat (first | refine blk_drewN ?_ _ | refine blk_drew ?_ | refine blk_alloc ?_ _)); exact BK160.out) hkp (fun hs_ => (fun e_ => (Kd.R_ne HO184.out BK160.out (by decide)) e_) hs_)); have n1_ := Aside0.mk (Kd.R_mono (ok' := fun k_ => some k_ ≠ (v177 : Value).ownBlock ∧ some k_ ≠ (.slice Ao50 y179.length co50 : Value).ownBlock ∧ some k_ ≠ (v186 : Value).ownBlock) (Kd.R_keptB (HO172.out) hkp (fun k_ hk_ hs_ => (hk_.2) hs_)) (fun k_ hk_ => ⟨hk_.1.1.1, hk_.1.1.2, fun e_ => Or.elim (ho0.1 k_ e_.symm) (fun hs_ => hk_.2.1 hs_) (fun hn_ => Nat.not_le.2 hk_.2.2 hn_)⟩)); have n2_ := Aside0.mk (Kd.R_mono (ok' := fun k_ => some k_ ≠ (.slice Ao43 y170.length co43 : Value).ownBlock ∧ some k_ ≠ (.slice Ao50 y179.length co50 : Value).ownBlock ∧ some k_ ≠ (v186 : Value).ownBlock) (Kd.R_keptB (HO178.out) hkp (fun k_ hk_ hs_ => (hk_.2) hs_)) (fun k_ hk_ => ⟨hk_.1.1.1, hk_.1.1.2, fun e_ => Or.elim (ho0.1 k_ e_.symm) (fun hs_ => hk_.2.1 hs_) (fun hn_ => Nat.not_le.2 hk_.2.2 hn_)⟩)); have n3_ := Aside0.mk (Kd.R_mono (ok' := fun k_ => some k_ ≠ (.slice Ao43 y170.length co43 : Value).ownBlock ∧ some k_ ≠ (v177 : Value).ownBlock ∧ some k_ ≠ (v186 : Value).ownBlock) (Kd.R_keptB (HO181.out) hkp (fun k_ hk_ hs_ => (hk_.2) hs_)) (fun k_ hk_ => ⟨hk_.1.1.1.2, hk_.1.1.2, fun e_ => Or.elim (ho0.1 k_ e_.symm) (fun hs_ => hk_.2.1 hs_) (fun hn_ => Nat.not_le.2 hk_.2.2 hn_)⟩)); have n4_ := Aside0.mk (Kd.R_mono (ok' := fun k_ => some k_ ≠ (.slice Ao43 y170.length co43 : Value).ownBlock ∧ some k_ ≠ (v177 : Value).ownBlock ∧ some k_ ≠ (.slice Ao50 y179.length co50 : Value).ownBlock) ho0 (fun k_ hk_ => ⟨Or.elim hk_ (fun hs_ => fun e_ => (((HO172.out).1 k_ e_.symm).2) hs_) (fun hn_ => (Kd.fresh' (Kd.R_lt (by (with_reducible repeat (first | apply Kd.R_alloc | apply Kd.R_drewN | apply Kd.R_drew)); exact HO172.out)) k_ hn_)), Or.elim hk_ (fun hs_ => fun e_ => (((HO178.out).1 k_ e_.symm).2) hs_) (fun hn_ => (Kd.fresh' (Kd.R_lt (by (with_reducible repeat (first | apply Kd.R_alloc | apply Kd.R_drewN | apply Kd.R_drew)); exact HO178.out)) k_ hn_)), Or.elim hk_ (fun hs_ => fun e_ => (((HO181.out).1 k_ e_.symm).2) hs_) (fun hn_ => (Kd.fresh' (Kd.R_lt (by (with_reducible repeat (first | apply Kd.R_alloc | apply Kd.R_drewN | apply Kd.R_drew)); exact HO181.out)) k_ hn_))⟩)); have n5_ := Aside0.mk (hb); clear BK160; clear HO172; clear HO178; clear HO181; clear HB; clear HO184; have BK160 := n0_; have HO172 := n1_; have HO178 := n2_; have HO181 := n3_; have HO187 := n4_; have HB := n5_; clear n0_ n1_ n2_ n3_ n4_ n5_; (try clear hb); (try clear hkp); (try clear ho0); obtain ⟨Ao54, co54, eo54⟩ := Kd.R_slice HO187.out; subst eo54))
        go_loopg [46] kj3 (fun kq v46 w' => ∃ (x46_2 : Int), v46 = .int .i64 x46_2 ∧ Aside0 (spec_MeetingOf.l0 kq t176 t185 (t185.length : Int) x46_2 = some (r1, r2)) ∧ Aside0 (kq ≤ kj3) ∧ Aside0 (Kd.R (Kd.int .i64) 3 w' w.heap.size (fun k_ => some k_ ≠ ((.slice Ao54 t185.length co54) : Value).ownBlock) v177 t176) ∧ Aside0 (Kd.R (Kd.int .i64) 3 w' w.heap.size (fun k_ => some k_ ≠ (v177 : Value).ownBlock) (.slice Ao54 t185.length co54) t185) ∧ Aside0 (w'.heap[gb160]? = some (.cells #[(.slice A0_0 l0_0.length c0_0)] 28 (0, 0))) ∧ Aside0 (Below w.heap.size w w'))
        case atStart => exact ⟨(0), (by first | rfl | (simp; done) | (simp [*]; done)), H', ⟨Nat.le_refl _⟩, ⟨by (with_reducible repeat (first | apply Kd.R_alloc | apply Kd.R_drewN | apply Kd.R_drew)); exact Kd.R_mono HO178.out (fun _ hk => hk.2.2)⟩, ⟨by (with_reducible repeat (first | apply Kd.R_alloc | apply Kd.R_drewN | apply Kd.R_drew)); exact Kd.R_mono HO187.out (fun _ hk => hk.2.1)⟩, ⟨by (with_reducible repeat (first | refine blk_drewN ?_ _ | refine blk_drew ?_ | refine blk_alloc ?_ _)); exact BK160.out⟩, ⟨by repeat (first | (with_reducible first | exact HB.out | apply below_alloc | apply pw_below_drewN | apply below_drew1 | refine below_set ?_ GE160.out) | exact HB.out)⟩⟩
        case round =>
          clear H'
          try clear c1
          try clear p2
          try clear c3
          try clear c4
          try clear c7
          try clear c8
          try clear c8b0
          try clear c8b1
          try clear c9
          try clear c12
          try clear c35
          try clear c39
          try clear c41
          try clear c42
          try clear hcz14_0
          try clear hcz16_0
          try clear hcz21_0
          try clear hcz26_0
          try clear hcz28_0
          try clear hcz33_0
          try clear hcz40_0
          try clear hcz47_0
          try clear hcz9_0
          try clear hfz14_0
          try clear hfz16_0
          try clear hfz21_0
          try clear hfz26_0
          try clear hfz28_0
          try clear hfz33_0
          try clear hfz40_0
          try clear hfz47_0
          try clear hfz9_0
          try clear p2
          obtain ⟨x46_2, rfl, HA, HK2, HO_8, HO_44, BK160, HB⟩ := hrel
          cases gk with
          | zero => exact absurd HA.out (by simp [spec_MeetingOf.l0])
          | succ k2 =>
            have H := HA.out
            clear HA
            simp only [spec_MeetingOf.l0] at H
            by_cases c55 : x46_2 < (t185.length : Int)
            · rw [if_pos c55] at H
              have c55b0 : decide (x46_2 < (t185.length : Int)) = true := decide_eq_true c55
              clear c55
              by_cases c56 : 0 ≤ x46_2
              · rw [if_pos c56] at H
                have c56b0 : decide (0 ≤ x46_2) = true := decide_eq_true c56
                clear c56
                by_cases c57 : x46_2 < (t185.length : Int)
                · rw [if_pos c57] at H
                  have c57b0 : decide (x46_2 < (t185.length : Int)) = true := decide_eq_true c57
                  clear c57
                  replace H := Option.bind_eq_some_iff.mp H
                  obtain ⟨t189, A580, H⟩ := H
                  replace H : (if t189 = true then (some (true, true)) else (spec_MeetingOf.l0 k2 t176 t185 (t185.length : Int) (wrap64 (x46_2 + 1)))) = some (r1, r2) := H
                  have A58 := Aside0.mk A580
                  clear A580
                  by_cases c59 : t189 = true
                  · subst c59
                    have H1 : (some (true, true)) = some (r1, r2) := by rw [if_pos rfl] at H; exact H
                    clear H
                    have H := H1
                    clear H1
                    simp only [Option.some.injEq, Prod.mk.injEq] at H
                    obtain ⟨rfl, rfl⟩ := H
                    have p188 : 0 ≤ (x46_2 : Int) := of_decide_eq_true (by first | (with_reducible assumption) | assumption)
                    have q188 : x46_2 < (t185.length : Int) := of_decide_eq_true (by first | (with_reducible assumption) | assumption)
                    obtain ⟨ad188, e188, hx188_0⟩ := Kd.at_int (Kd.R_reads' HO_44.out).2.2 x46_2 p188 q188
                    cases e188
                    replace p188 := eq_true p188
                    replace q188 := eq_true q188
                    obtain ⟨Ao60, co60, eo60⟩ := Kd.R_slice HO_8.out
                    subst eo60
                    go_wp2_with (first | ((with_reducible refine gate_callee (f := 43) rfl ?_); refine goesL_ (some 52) rfl rfl Try.func43 (by kernel_rfl) rfl #[.slice Ao60 t176.length co60, .int .i64 (rd t185 x46_2)] rfl (by (try simp only [List.map_toArray, List.map_cons, List.map_nil]); first | done | rfl | (simp only [List.length_drop, List.length_take]; rfl)) ?_; (with_reducible refine (spec_l1Has.calls k2 _ _ t176 (rd t185 x46_2) true _ ?side1 ?side2 A58.out).mono ?_); (case side1 => repeat (first | exact (Kd.R_reads' HO_8.out).2.2 | (with_reducible refine Kd.C_alloc ?_ _) | (with_reducible refine Kd.C_drewN ?_ _) | (with_reducible refine Kd.C_drew ?_))); (case side2 => exact (Kd.R_reads' HO_8.out).2.1); rintro e w' ⟨rfl, ⟨nd, rfl⟩⟩; refine ⟨_, rfl, ?_⟩))
                    go_ret2
                    exact ⟨by first | rfl | (simp [errW_none, errW_some] <;> rfl) | (simp [*, errW_none, errW_some] <;> rfl), by repeat (first | (with_reducible first | exact HB.out | apply below_alloc | apply pw_below_drewN | apply below_drew1 | refine below_set ?_ GE160.out) | exact HB.out)⟩
                  · replace c59 := Bool.eq_false_iff.mpr c59
                    subst c59
                    have H1 : (spec_MeetingOf.l0 k2 t176 t185 (t185.length : Int) (wrap64 (x46_2 + 1))) = some (r1, r2) := by rw [if_neg (show ¬ (false = true) by decide)] at H; exact H
                    clear H
                    have H := H1
                    clear H1
                    have H' := Aside0.mk H
                    clear H
                    have p188 : 0 ≤ (x46_2 : Int) := of_decide_eq_true (by first | (with_reducible assumption) | assumption)
                    have q188 : x46_2 < (t185.length : Int) := of_decide_eq_true (by first | (with_reducible assumption) | assumption)
                    obtain ⟨ad188, e188, hx188_0⟩ := Kd.at_int (Kd.R_reads' HO_44.out).2.2 x46_2 p188 q188
                    cases e188
                    replace p188 := eq_true p188
                    replace q188 := eq_true q188
                    obtain ⟨Ao61, co61, eo61⟩ := Kd.R_slice HO_8.out
                    subst eo61
                    go_wp2_with (first | ((with_reducible refine gate_callee (f := 43) rfl ?_); refine goesL_ (some 52) rfl rfl Try.func43 (by kernel_rfl) rfl #[.slice Ao61 t176.length co61, .int .i64 (rd t185 x46_2)] rfl (by (try simp only [List.map_toArray, List.map_cons, List.map_nil]); first | done | rfl | (simp only [List.length_drop, List.length_take]; rfl)) ?_; (with_reducible refine (spec_l1Has.calls k2 _ _ t176 (rd t185 x46_2) false _ ?side1 ?side2 A58.out).mono ?_); (case side1 => repeat (first | exact (Kd.R_reads' HO_8.out).2.2 | (with_reducible refine Kd.C_alloc ?_ _) | (with_reducible refine Kd.C_drewN ?_ _) | (with_reducible refine Kd.C_drew ?_))); (case side2 => exact (Kd.R_reads' HO_8.out).2.1); rintro e w' ⟨rfl, ⟨nd, rfl⟩⟩; refine ⟨_, rfl, ?_⟩))
                    go_roundg k2
                    case measure => have := HJ3.out; have := HK2.out; omega
                    case rel => exact ⟨(wrap64 (x46_2 + 1)), (by first | rfl | (simp; done) | (simp [*]; done)), H', ⟨by have := HJ3.out; have := HK2.out; omega⟩, ⟨by (with_reducible repeat (first | apply Kd.R_alloc | apply Kd.R_drewN | apply Kd.R_drew)); exact HO_8.out⟩, ⟨by (with_reducible repeat (first | apply Kd.R_alloc | apply Kd.R_drewN | apply Kd.R_drew)); exact HO_44.out⟩, ⟨by (with_reducible repeat (first | refine blk_drewN ?_ _ | refine blk_drew ?_ | refine blk_alloc ?_ _)); exact BK160.out⟩, ⟨by repeat (first | (with_reducible first | exact HB.out | apply below_alloc | apply pw_below_drewN | apply below_drew1 | refine below_set ?_ GE160.out) | exact HB.out)⟩⟩
                · rw [if_neg c57] at H
                  exact absurd H (by simp)
              · rw [if_neg c56] at H
                exact absurd H (by simp)
            · rw [if_neg c55] at H
              have c55b0 : decide (x46_2 < (t185.length : Int)) = false := decide_eq_false c55
              clear c55
              simp only [Option.some.injEq, Prod.mk.injEq] at H
              obtain ⟨rfl, rfl⟩ := H
              go_wp2
              go_ret2
              exact ⟨by first | rfl | (simp [errW_none, errW_some] <;> rfl) | (simp [*, errW_none, errW_some] <;> rfl), by repeat (first | (with_reducible first | exact HB.out | apply below_alloc | apply pw_below_drewN | apply below_drew1 | refine below_set ?_ GE160.out) | exact HB.out)⟩
end Go.Proofs.Ytndkblahnihhjaa.P

namespace Go.Proofs.Ytndkblahnihhjaa.P
open Go.RowKit Go.Proofs.YtndkblahnihhjaaW.PrintWords Go.Proofs.YtndkblahnihhjaaW.PrintLast Go.Proofs.YtndkblahnihhjaaW.PrintMore
attribute [local go_sem] max2_int min2_int max_two min_two max_three min_three max_four min_four
theorem madeCells12 (n : Nat) : madeCells #[.bool false, .bool false, .bool false, .bool false, .bool false, .bool false, .bool false, .bool false, .bool false, .bool false, .bool false, .bool false] (n * 12) = H.bcells (List.replicate n H.none12).flatten := by
  unfold H.none12
  rw [List.flatten_replicate_replicate]
  apply Array.ext
  · rw [size_madeCells, H.bcells_size, List.length_replicate]
  · intro i h1 h2
    have h3 : i % 12 < 12 := Nat.mod_lt _ (by decide)
    have e : ∀ k, k < 12 → (#[Value.bool false, .bool false, .bool false, .bool false, .bool false, .bool false, .bool false, .bool false, .bool false, .bool false, .bool false, .bool false] : Array Value)[k]! = .bool false := by
      intro k hk
      match k, hk with
      | 0, _ | 1, _ | 2, _ | 3, _ | 4, _ | 5, _ | 6, _ | 7, _ | 8, _ | 9, _ | 10, _ | 11, _ => rfl
    simp only [madeCells, H.bcells, Array.getElem_map, Array.getElem_range, List.getElem_toArray, List.getElem_map, List.getElem_replicate]
    exact e _ h3
theorem make_sets (W : World) (n : Nat) (hn : n ≤ 1048576) : (Instr.makeSlice 68 (.int .i64 (n : Int)) (.int .i64 (n : Int))).run Try.prog W = .ok (.slice (some ⟨W.heap.size, 0, none⟩) n n) (W.alloc (.cells (H.bcells (List.replicate n H.none12).flatten) 63)) := by
  have hi : (Try.prog.info? 63).map (fun i => (i.zero, i.size, i.bytes)) = some (some (.agg #[.bool false, .bool false, .bool false, .bool false, .bool false, .bool false, .bool false, .bool false, .bool false, .bool false, .bool false, .bool false]), 12, 12) := by kernel_rfl
  obtain ⟨i, hq, hs⟩ := Option.map_eq_some_iff.1 hi
  simp only [Prod.mk.injEq] at hs
  have h := run_make (P := Try.prog) W 68 63 i _ Try.underlying68 hq hs.1 .i64 .i64 (n : Int) (n : Int) (by omega) (by omega) (by rw [hs.2.2]; omega) (by omega)
  rw [h, hs.2.1, Int.toNat_natCast]
  simp only [Value.cells]
  rw [madeCells12]
theorem visits_drop (wo : Int) (row : List Int) (s : List Bool × List Int) {i : Nat} (hi : i < row.length) : H.visits wo (row.drop i) s = H.visits wo (row.drop (i + 1)) (H.visit wo s (row.getD i 0)) := by
  rw [List.drop_eq_getElem_cons hi, List.getD_eq_getElem?_getD, List.getElem?_eq_getElem hi]
  rfl
set_option maxHeartbeats 8000000 in
set_option maxRecDepth 100000 in
theorem impl_reach.calls (p : Addr) (A0 : Option Addr) (c0 : Nat) (g : List (List Int)) (s wo : Int) (w : World) (hp0 : w.cell? p = some (.slice A0 g.length c0)) (hr0 : Kd.C (Kd.slice 3 (Kd.int .i64)) w A0 g.length g) (hG : H.goodG g = true) (h0 : 0 ≤ s) (h1 : s < (g.length : Int)) :
    Calls Try.prog 62 #[.pointer (some p), .int .i64 s, .int .i64 wo] w fun e w' => e = .returned (.agg (H.bcells (H.reachF g s wo))) ∧ Below w.heap.size w w' := by
  have hn0 := hr0.2.1
  have hr := H.goodG_rows hG
  have h12 : s < 12 := by omega
  have HP0 := Aside0.mk hp0
  have HR0 := Aside0.mk hr0
  have HG := Aside0.mk hG
  have HROW := Aside0.mk (H.goodG_row hG)
  have HLL := Aside0.mk hr.1
  have HI := Aside0.mk (show (Try.prog.info? 63).map (·.size) = some 12 by kernel_rfl)
  have HN := Aside0.mk (show H.none12.length = 12 from rfl)
  have HO := Aside0.mk (H.Own.nil w)
  have HB1 := Aside0.mk (show H.bcells H.none12 = #[.bool false, .bool false, .bool false, .bool false, .bool false, .bool false, .bool false, .bool false, .bool false, .bool false, .bool false, .bool false] from rfl)
  clear hp0 hr0 hr
  by_cases hs : s = wo
  · subst hs
    have hR : H.reachF g s s = H.none12 := by unfold H.reachF; rw [if_pos rfl]
    rw [hR]
    clear hR hG
    go_enter Try.func62, Try.ntmps62
    go_wp2_with (first | ((with_reducible refine gate_dst (N := 6) rfl ?_); refine H.own_box HO.out ?bxg (N := 6) ?bxd (cs := H.bcells H.none12) (t := 63) ?bxr ?_; (case bxd => rfl); (case bxg => rfl); (case bxr => first | (go_simp; done) | (go_simp; rfl)); intro ga w_ ho_ hb_; replace HO := Aside0.mk ho_; clear ho_ hb_) | ((with_reducible refine gate_dst (N := 7) rfl ?_); refine H.own_box HO.out ?bxg (N := 7) ?bxd (cs := H.bcells H.none12) (t := 63) ?bxr ?_; (case bxd => rfl); (case bxg => rfl); (case bxr => first | (go_simp; done) | (go_simp; rfl)); intro gb w_ ho_ hb_; replace HO := Aside0.mk ho_; clear ho_ hb_) | ((with_reducible refine gate_store (t := 63) (p := 7) rfl ?_); refine H.own_ball HO.out 1 (bs' := H.none12) rfl rfl rfl rfl rfl rfl HI.out rfl ?_; intro w_ ho_ hg_; replace HO := Aside0.mk ho_; clear ho_ hg_) | ((with_reducible refine gate_dst (N := 15) rfl ?_); refine wpList_load_row rfl 63 (.tmp 7) rfl _ rfl 63 _ (0, 0) _ (HO.out.get 1 rfl) Try.underlying63 rfl HI.out ?_) | ((with_reducible refine gate_store (t := 63) (p := 6) rfl ?_); refine H.own_ball HO.out 0 (bs' := H.none12) rfl rfl rfl rfl rfl rfl HI.out rfl ?_; intro w_ ho_ hg_; replace HO := Aside0.mk ho_; clear ho_ hg_))
    (try simp only [Exit.inBlock, Exit.then])
    refine bodyPost_ret (results_cell_row rfl _ _ ga _ (H.bcells H.none12) (0, 0) _ rfl (HO.out.get 0 rfl) Try.underlying63 rfl HI.out) rfl ?_
    exact ⟨rfl, HO.out.below⟩
  · obtain ⟨hb, _⟩ := H.reach_some hG h0 h1 hs
    have hst := H.srch_start g h0 h12 hs
    generalize H.reachF g s wo = R at hb
    have HBF := Aside0.mk hb
    have HST := Aside0.mk hst
    have hsb : (s == wo) = false := beq_eq_false_iff_ne.2 hs
    obtain ⟨s0, rfl⟩ : ∃ k : Nat, s = (k : Int) := ⟨s.toNat, by omega⟩
    have hs0 : s0 < 12 := by omega
    have HS0 := Aside0.mk hs0
    clear hb hst hG hs
    go_enter Try.func62, Try.ntmps62
    go_wp2_with (first | ((with_reducible refine gate_dst (N := 6) rfl ?_); refine H.own_box HO.out ?bxg (N := 6) ?bxd (cs := H.bcells H.none12) (t := 63) ?bxr ?_; (case bxd => rfl); (case bxg => rfl); (case bxr => first | (go_simp; done) | (go_simp; rfl)); intro ga w_ ho_ hb_; replace HO := Aside0.mk ho_; clear ho_ hb_) | ((with_reducible refine gate_dst (N := 7) rfl ?_); refine H.own_box HO.out ?bxg (N := 7) ?bxd (cs := H.bcells H.none12) (t := 63) ?bxr ?_; (case bxd => rfl); (case bxg => rfl); (case bxr => first | (go_simp; done) | (go_simp; rfl)); intro gb w_ ho_ hb_; replace HO := Aside0.mk ho_; clear ho_ hb_) | ((with_reducible refine gate_store (t := 63) (p := 7) rfl ?_); refine H.own_ball HO.out 1 (bs' := H.none12) rfl rfl rfl rfl rfl rfl HI.out rfl ?_; intro w_ ho_ hg_; replace HO := Aside0.mk ho_; clear ho_ hg_) | ((with_reducible refine gate_store (t := 4) (p := 17) rfl ?_); refine H.own_bput HO.out 1 rfl rfl rfl rfl rfl rfl (by kernel_rfl) (by rw [HN.out]; exact HS0.out) ?_; intro w_ ho_ hg_; replace HO := Aside0.mk ho_; clear ho_ hg_) | ((with_reducible refine gate_dst (N := 19) rfl ?_); refine Kd.R_lit (Kd.int .i64) (w0 := w) w.heap.size 3 ?hg (N := 19) ?hd (xs := [(s0 : Int)]) (inner := [.int .i64 (s0 : Int)]) (ok := fun _ => True) (okp := fun _ => True) ?hr ?hp (fun _ hk => hk) trivial HO.out.below HO.out.size (by simp) ?_; (case hd => rfl); (case hg => rfl); (case hr => first | (go_simp; done) | (go_simp; rfl)); (case hp => exact Reps.snoc (Reps.none _ _) rfl rfl); intro v8 w_ ho_ hb_ hg_ hnew_; replace HO := Aside0.mk (HO.out.grown hg_ (fun k hk => by cases hk)); have HQ := Aside0.mk (Kd.Q_of_R ho_); clear ho_ hb_ hg_ hnew_))
    rw [Int.toNat_natCast] at HBF HST
    have hoff0 : H.off (H.none12.set s0 true) + 1 = 12 := (H.off_set (by rw [HN.out]; exact HS0.out) (H.none12_get s0)).trans rfl
    have HOF := Aside0.mk (show ([(s0 : Int)]).length + H.off (H.none12.set s0 true) ≤ 12 by simp only [List.length_cons, List.length_nil]; omega)
    have HTY := Aside0.mk (show ∀ y ∈ [(s0 : Int)], 0 ≤ y ∧ y < (g.length : Int) from fun y hy => by rw [List.mem_singleton.1 hy]; exact ⟨h0, h1⟩)
    clear hoff0
    go_loopg [8] 14 (fun kq v8 wr => ∃ (todo : List Int) (out : List Bool), Aside0 (H.bfs g wo kq todo out = some R) ∧ Aside0 (kq ≤ 14) ∧ Aside0 (out.length = 12) ∧ Aside0 (∀ y ∈ todo, 0 ≤ y ∧ y < (g.length : Int)) ∧ Aside0 (todo.length + H.off out ≤ 12) ∧ Aside0 ((Kd.int .i64).Q 3 wr w.heap.size (fun _ => True) v8 todo) ∧ Aside0 (H.Own w wr [(ga, H.bcells H.none12, 63), (gb, H.bcells out, 63)]))
    case atStart => exact ⟨[(s0 : Int)], _, HBF, ⟨Nat.le_refl _⟩, ⟨HST.out.len⟩, HTY, HOF, HQ, HO⟩
    case round =>
      clear HO HQ HBF HST HOF HTY
      obtain ⟨todo, out, HA, HK, HOL, HTY, HOF, HQ, HO⟩ := hrel
      cases gk with
      | zero => exact absurd HA.out (by simp [H.bfs])
      | succ k1 =>
        cases todo with
        | nil =>
          have hA := Option.some.inj HA.out
          subst hA
          obtain ⟨Aq, cq, rfl, _⟩ := Kd.Q_slice HQ.out
          go_wp2_with (first | ((with_reducible refine gate_dst (N := 55) rfl ?_); refine wpList_load_row rfl 63 (.tmp 7) rfl _ rfl 63 _ (0, 0) _ (HO.out.get 1 rfl) Try.underlying63 rfl (by rw [H.bcells_size, HOL.out]; exact HI.out) ?_) | ((with_reducible refine gate_store (t := 63) (p := 6) rfl ?_); refine H.own_ball HO.out 0 (bs' := out) rfl rfl rfl rfl rfl rfl HI.out HOL.out ?_; intro w_ ho_ hg_; replace HO := Aside0.mk ho_; clear ho_ hg_))
          (try simp only [Exit.inBlock, Exit.then])
          refine bodyPost_ret (results_cell_row rfl _ _ ga _ (H.bcells out) (0, 0) _ rfl (HO.out.get 0 rfl) Try.underlying63 rfl (by rw [H.bcells_size, HOL.out]; exact HI.out)) rfl ?_
          exact ⟨rfl, HO.out.below⟩
        | cons x todo =>
          have hA := HA.out
          simp only [H.bfs] at hA
          have hx := HTY.out x (by simp)
          obtain ⟨x0, rfl⟩ : ∃ k : Nat, x = (k : Int) := ⟨x.toNat, by omega⟩
          rw [Int.toNat_natCast] at hA
          obtain ⟨ad, A1, c1, e1, hc0, hc1, hc2⟩ := at_L1 HR0.out (x0 : Int) (by omega) (by omega)
          subst e1
          rw [Int.toNat_natCast] at hc0
          have hrd : rd_L1 g (x0 : Int) = g.getD x0 [] := rfl
          have hrow := HROW.out x0
          rw [hrd] at hc0 hc1 hc2
          generalize g.getD x0 [] = row at hA hc0 hc1 hc2 hrow
          have hrl := hc2.2.1
          have hxp := HO.out.old HP0.out
          have hxr := HO.out.old hc0
          obtain ⟨gq, oq, cq, rfl, _, _, _⟩ := Kd.Q_form HQ.out (by simp)
          have hnp : (0 : Int) < (((x0 : Int) :: todo).length : Int) := by simp only [List.length_cons]; omega
          generalize hnq : ((x0 : Int) :: todo).length = nq at HQ hnp ⊢
          clear hnq
          have hnb : decide (0 < nq) = true := decide_eq_true (by omega)
          have hxq := (Kd.Q_cell 0 HQ.out 0 (by decide) (by omega)).1
          rw [show rdOf 0 ((x0 : Int) :: todo) 0 = (x0 : Int) from rfl, show oq + (0 : Int).toNat = oq from rfl] at hxq
          have HA' := Aside0.mk hA
          have HC2 := Aside0.mk hc2
          have HRR := Aside0.mk hrow
          have hx0 : (0 : Int) ≤ (x0 : Int) := by omega
          have hx1 : (x0 : Int) < (g.length : Int) := hx.2
          clear hA hc0 hc1 hc2 hrd hrow HA hx
          go_wp2
          go_quiet (fail)
          generalize hq_ : World.drewN wr _ = wq; have hd_ : Drawn0 wr wq := ⟨_, hq_.symm⟩; clear hq_; replace HO := Aside0.mk (HO.out.drawn hd_); replace HQ := Aside0.mk (Kd.Q_below HQ.out hd_.below); clear hd_
          clear hxp hxr hxq
          go_wp2
          go_loopw [35, 8] (fun v35 v8 wr => ∃ (i : Nat) (out2 : List Bool) (todo2 : List Int), v35 = .int .i64 i ∧ i ≤ row.length ∧ Aside0 (H.visits wo (row.drop i) (out2, todo2) = H.visits wo row (out, (x0 : Int) :: todo)) ∧ Aside0 (out2.length = 12) ∧ Aside0 (1 ≤ todo2.length ∧ ∀ y ∈ todo2, 0 ≤ y ∧ y < (g.length : Int)) ∧ Aside0 (todo2.length + H.off out2 ≤ 12) ∧ Aside0 ((Kd.int .i64).Q 3 wr w.heap.size (fun _ => True) v8 todo2) ∧ Aside0 (H.Own w wr [(ga, H.bcells H.none12, 63), (gb, H.bcells out2, 63)])) (fun v35 _ _ => row.length - (intOf v35).toNat)
          case atStart => exact ⟨0, out, _, rfl, Nat.zero_le _, ⟨by rw [List.drop_zero]⟩, HOL, ⟨⟨by simp, HTY.out⟩⟩, HOF, HQ, HO⟩
          case round =>
            clear HO HQ HOF HTY HOL
            obtain ⟨i, out2, todo2, rfl, hi, HV, HOL, HTY, HOF, HQ, HO⟩ := hrel
            by_cases hlt : i < row.length
            · have hv := HV.out
              rw [visits_drop wo row _ hlt] at hv
              obtain ⟨ad2, e2, hcb⟩ := Kd.at_int HC2.out (i : Int) (by omega) (by omega)
              subst e2
              rw [Int.toNat_natCast] at hcb
              have hby := HRR.out (row.getD i 0) (by rw [List.getD_eq_getElem?_getD, List.getElem?_eq_getElem hlt]; exact List.getElem_mem hlt)
              have hrd2 : rd row (i : Int) = row.getD i 0 := rfl
              rw [hrd2] at hcb
              generalize row.getD i 0 = y at hv hcb hby
              obtain ⟨y0, rfl⟩ : ∃ k : Nat, y = (k : Int) := ⟨y.toNat, by omega⟩
              have hy12 : y0 < 12 := by have := HLL.out.2; omega
              have hcx := HO.out.old hcb
              have hcy := HO.out.bat 1 rfl (j := y0) (by rw [HOL.out]; exact hy12)
              have hy12' : (y0 : Int) < 12 := by omega
              have HY := Aside0.mk hy12
              have HYG := Aside0.mk hby
              have hil : (i : Int) < (row.length : Int) := by omega
              clear hcb hrd2 hby hy12
              cases hb : out2.getD y0 false with
              | true =>
                have hv2 : H.visit wo (out2, todo2) (y0 : Int) = (out2, todo2) := by
                  unfold H.visit
                  rw [if_neg (by rw [Int.toNat_natCast, hb]; simp)]
                rw [hv2] at hv
                rw [hb] at hcy
                have HV' := Aside0.mk hv
                clear hv hv2 hb HV
                go_wp2
                go_roundw
                case rel => exact ⟨i + 1, out2, todo2, by go_num, by omega, HV', HOL, HTY, HOF, HQ, HO⟩
                case measure => simp [intOf]; omega
              | false =>
                rw [hb] at hcy
                by_cases hw : (y0 : Int) = wo
                · have hv2 : H.visit wo (out2, todo2) (y0 : Int) = (out2, todo2) := by
                    unfold H.visit
                    rw [if_neg (fun h => h.2 hw)]
                  rw [hv2] at hv
                  have HV' := Aside0.mk hv
                  have hne : ((y0 : Int) != wo) = false := by rw [hw]; simp
                  clear hv hv2 hb HV hw
                  go_wp2
                  go_roundw
                  case rel => exact ⟨i + 1, out2, todo2, by go_num, by omega, HV', HOL, HTY, HOF, HQ, HO⟩
                  case measure => simp [intOf]; omega
                · have hv2 : H.visit wo (out2, todo2) (y0 : Int) = (out2.set y0 true, todo2 ++ [(y0 : Int)]) := by
                    unfold H.visit
                    rw [if_pos ⟨by rw [Int.toNat_natCast]; exact hb, hw⟩, Int.toNat_natCast]
                  rw [hv2] at hv
                  have hoff := H.off_set (bs := out2) (j := y0) (by rw [HOL.out]; exact HY.out) hb
                  have HV' := Aside0.mk hv
                  have hne : ((y0 : Int) != wo) = true := bne_iff_ne.2 hw
                  have HOF' := Aside0.mk (show (todo2 ++ [(y0 : Int)]).length + H.off (out2.set y0 true) ≤ 12 by rw [List.length_append]; have := HOF.out; simp only [List.length_cons, List.length_nil]; omega)
                  have HTY' := Aside0.mk (show 1 ≤ (todo2 ++ [(y0 : Int)]).length ∧ ∀ y ∈ todo2 ++ [(y0 : Int)], 0 ≤ y ∧ y < (g.length : Int) from ⟨by simp, fun y hy => by
                    rcases List.mem_append.1 hy with e | e
                    · exact HTY.out.2 y e
                    · rw [List.mem_singleton.1 e]; exact HYG.out⟩)
                  clear hv hv2 hb HV hw hoff
                  go_wp2_with (first | ((with_reducible refine gate_store (t := 4) (p := 49) rfl ?_); refine H.own_bput HO.out 1 rfl rfl rfl rfl rfl rfl (by kernel_rfl) (by rw [HOL.out]; exact HY.out) ?_; intro w_ ho_ hg_; replace HQ := Aside0.mk (HO.out.keepQ 1 rfl HQ.out hg_ (by decide)); clear hcy; replace HO := Aside0.mk ho_; clear ho_ hg_) | ((with_reducible refine gate_builtin (b := .append) (xs := #[.tmp 50, .tmp 52]) rfl ?_); at_builtin; refine Kd.Q_append (Kd.int .i64) (w0 := w) w.heap.size rfl (.tmp 50) (.tmp 52) 32 3 (.int .i64 0) 8 rfl Try.underlying32 info3 rfl (by decide) (by omega) u8 todo2 (y0 : Int) [.int .i64 (y0 : Int)] (fun _ => True) (fun _ => False) rfl rfl ?aP (fun _ hk => hk.elim) ?aF ?aO ?aB ?aS ?aL ?_; (case aP => exact rfl); (case aF => exact fun _ _ => trivial); (case aO => exact HQ.out); (case aB => exact HO.out.below); (case aS => exact HO.out.size); (case aL => have := HOF.out; omega); intro v1 w_ ho_ hb_ hg_ hat_; replace HO := Aside0.mk (HO.out.rowQ HQ.out (Nat.le_refl _) hg_ (by simp)); replace HQ := Aside0.mk ho_; clear ho_ hb_ hg_ hat_))
                  go_roundw
                  case rel => exact ⟨i + 1, _, _, by go_num, by omega, HV', ⟨by rw [List.length_set]; exact HOL.out⟩, HTY', HOF', HQ, HO⟩
                  case measure => simp [intOf]; omega
            · have hv := HV.out
              rw [List.drop_of_length_le (by omega)] at hv
              have hA := HA'.out
              rw [← hv] at hA
              have HA := Aside0.mk (show H.bfs g wo k1 (todo2.drop 1) out2 = some R from hA)
              have h2 := HTY.out.1
              clear hv hA HV HA'
              obtain ⟨gq2, oq2, cq2, rfl, _, _, _⟩ := Kd.Q_form HQ.out (by omega)
              obtain ⟨ti, hti, hz⟩ := Option.map_eq_some_iff.1 info3
              simp only [Prod.mk.injEq] at hz
              have hq := Kd.Q_drop (k := 1) HQ.out h2
              have hcut : ∀ W : World, (Instr.slice 32 (.slice (some ⟨gq2, oq2, none⟩) todo2.length cq2) (some (.int .i64 1)) none none).run Try.prog W = .ok (.slice (if cq2 = 1 then some ⟨gq2, oq2, none⟩ else (some (⟨gq2, oq2, none⟩ : Addr)).map (·.add (1 * (Kd.int .i64).sz))) (todo2.length - 1) (cq2 - 1)) W := cut_from 32 3 .i64 Try.underlying32 hti 1 hz.2.1 _ _ _ 1 (by decide) (by omega)
              generalize (if cq2 = 1 then some ⟨gq2, oq2, none⟩ else (some (⟨gq2, oq2, none⟩ : Addr)).map (·.add (1 * (Kd.int .i64).sz))) = A2 at hq hcut
              have HQ2 := Aside0.mk hq
              clear hq hti hz HQ
              go_wp2
              go_roundg k1
              case measure => have := HK.out; omega
              case rel => exact ⟨todo2.drop 1, out2, HA, ⟨by have := HK.out; omega⟩, HOL, ⟨fun y hy => HTY.out.2 y (List.mem_of_mem_drop hy)⟩, ⟨by have := HOF.out; rw [List.length_drop]; omega⟩, HQ2, HO⟩
end Go.Proofs.Ytndkblahnihhjaa.P

namespace Go.Proofs.Ytndkblahnihhjaa.P
open Go.RowKit Go.Proofs.YtndkblahnihhjaaW.PrintWords Go.Proofs.YtndkblahnihhjaaW.PrintLast Go.Proofs.YtndkblahnihhjaaW.PrintMore
attribute [local go_sem] max2_int min2_int max_two min_two max_three min_three max_four min_four
def rlAt (g : List (List Int)) (y : Int) : Bool := H.inB y 0 ((g.length : Int) - 1) && (H.reachF g 0 (-1)).getD y.toNat false
def rlF (g : List (List Int)) (l : List Int) : Bool := l.all (rlAt g) && H.upB l 0 ((g.length : Int) - 1) 0
set_option maxHeartbeats 8000000 in
set_option maxRecDepth 100000 in
theorem impl_reachedList.calls (p : Addr) (A0 : Option Addr) (c0 : Nat) (g : List (List Int)) (A1 : Option Addr) (c1 : Nat) (l : List Int) (w : World) (hp0 : w.cell? p = some (.slice A0 g.length c0)) (hr0 : Kd.C (Kd.slice 3 (Kd.int .i64)) w A0 g.length g) (hG : H.goodG g = true) (hr1 : Kd.C (Kd.int .i64) w A1 l.length l) (hc1 : l.length ≤ c1) :
    Calls Try.prog 46 #[.pointer (some p), .slice A1 l.length c1] w fun e w' => e = .returned (.bool (rlF g l)) ∧ Below w.heap.size w w' := by
  have hr := H.goodG_rows hG
  have HP0 := Aside0.mk hp0
  have HR0 := Aside0.mk hr0
  have HR1 := Aside0.mk hr1
  have HC1 := Aside0.mk hc1
  have HI := Aside0.mk (show (Try.prog.info? 63).map (·.size) = some 12 by kernel_rfl)
  have HO := Aside0.mk (H.Own.nil w)
  have hn1 : 1 ≤ g.length := hr.1.1
  have hn2 : g.length ≤ 12 := hr.1.2
  have hl64 := hr1.2.1
  have HRE := Aside0.mk (fun (W : World) (hO : Below w.heap.size w W) (wo : Int) => impl_reach.calls p A0 c0 g 0 wo W ((hO.cell (World.block_lt_of_cell? w _ HP0.out)).trans HP0.out) (Kd.C_below HR0.out hO) hG (by decide) (by omega))
  have HRL := Aside0.mk (H.reach_len (wo := -1) hG (s := 0) (by decide) (by omega))
  have HUP : Aside0 (∀ (W : World), Below w.heap.size w W → Calls Try.prog 72 #[.slice A1 l.length c1, .int .i64 0, .int .i64 ((g.length : Int) - 1)] W fun e w' => e = .returned (.bool (H.upB l 0 ((g.length : Int) - 1) 0)) ∧ Drawn0 W w') := ⟨fun W hb => by
    obtain ⟨k, hk⟩ := impl_rising.ends l 0 ((g.length : Int) - 1) (by omega)
    exact impl_rising.calls k A1 c1 l 0 ((g.length : Int) - 1) _ W (Kd.C_below HR1.out hb) HC1.out hk⟩
  unfold rlF
  have hat : ∀ y, rlAt g y = (H.inB y 0 ((g.length : Int) - 1) && (H.reachF g 0 (-1)).getD y.toNat false) := fun y => rfl
  obtain ⟨al, hal⟩ : ∃ al, H.reachF g 0 (-1) = al := ⟨_, rfl⟩
  rw [hal] at HRL hat
  have HAL := Aside0.mk hal
  have HAT := Aside0.mk hat
  clear hr hr0 hG hr1 hc1 hal hat
  go_enter Try.func46, Try.ntmps46
  go_wp2_with (first | (go_at_call 62; refine (HRE.out _ HO.out.below (-1)).mono ?_; rw [HAL.out]; rintro e w' ⟨rfl, hb⟩; replace HO := Aside0.mk (HO.out.step hb); clear hb hp0) | ((with_reducible refine gate_dst (N := 5) rfl ?_); refine H.own_box HO.out ?bxg (N := 5) ?bxd (cs := H.bcells H.none12) (t := 63) ?bxr ?_; (case bxd => rfl); (case bxg => rfl); (case bxr => first | (go_simp; done) | (go_simp; rfl)); intro ga w_ ho_ hb_; replace HO := Aside0.mk ho_; clear ho_ hb_) | ((with_reducible refine gate_store (t := 63) (p := 5) rfl ?_); refine H.own_ball HO.out 0 (bs' := al) rfl rfl rfl rfl rfl rfl HI.out HRL.out ?_; intro w_ ho_ hg_; replace HO := Aside0.mk ho_; clear ho_ hg_))
  go_loopw [12] (fun v12 wr => ∃ i : Nat, v12 = .int .i64 i ∧ i ≤ l.length ∧ Aside0 ((l.take i).all (rlAt g) = true) ∧ Aside0 (H.Own w wr [(ga, H.bcells al, 63)])) (fun v12 _ => l.length - (intOf v12).toNat)
  case atStart => exact ⟨0, rfl, Nat.zero_le _, ⟨rfl⟩, HO⟩
  case round =>
    clear HO
    obtain ⟨i, rfl, hi, HA, HO⟩ := hrel
    by_cases hlt : i < l.length
    · obtain ⟨ad, e1, hc⟩ := Kd.at_int HR1.out (i : Int) (by omega) (by omega)
      subst e1
      rw [Int.toNat_natCast] at hc
      have hd : rd l (i : Int) = l.getD i 0 := rfl
      rw [hd] at hc
      have htk : l.take (i + 1) = l.take i ++ [l.getD i 0] := by rw [List.take_add_one, List.getElem?_eq_getElem hlt, List.getD_eq_getElem?_getD, List.getElem?_eq_getElem hlt]; rfl
      have hmem : l.getD i 0 ∈ l := by rw [List.getD_eq_getElem?_getD, List.getElem?_eq_getElem hlt]; exact List.getElem_mem hlt
      obtain ⟨x, hx⟩ : ∃ x, l.getD i 0 = x := ⟨_, rfl⟩
      rw [hx] at hc htk hmem
      have hcx := HO.out.old hc
      have hpx := HO.out.old HP0.out
      have HTK := Aside0.mk htk
      have HMEM := Aside0.mk hmem
      have hil : (i : Int) < (l.length : Int) := by omega
      clear hd hx hc htk hmem
      cases hin : H.inB x 0 ((g.length : Int) - 1) with
      | false =>
        have HIN := Aside0.mk (show (decide ((0 : Int) ≤ _) && decide (_ ≤ (g.length : Int) - 1)) = _ from hin)
        have HF := Aside0.mk (show (l.all (rlAt g) && H.upB l 0 ((g.length : Int) - 1) 0) = false by
          have : l.all (rlAt g) = false := by
            rw [List.all_eq_false]
            exact ⟨x, HMEM.out, by rw [HAT.out]; unfold H.inB; rw [HIN.out]; simp⟩
          rw [this]
          rfl)
        clear hin
        go_wp2_with (first | (go_at_call 69; refine (impl_within.calls x 0 ((g.length : Int) - 1) _ _ (impl_within.tell x 0 ((g.length : Int) - 1))).mono ?_; rw [HIN.out]; rintro e w' ⟨rfl, ⟨m, rfl⟩⟩; replace HO := Aside0.mk (HO.out.drewN m); clear hcx hpx))
        go_ret
        exact ⟨by rw [HF.out]; rfl, HO.out.below⟩
      | true =>
        have HIN := Aside0.mk (show (decide ((0 : Int) ≤ _) && decide (_ ≤ (g.length : Int) - 1)) = _ from hin)
        have hxr : 0 ≤ x ∧ x ≤ (g.length : Int) - 1 := by
          have h0 := hin
          unfold H.inB at h0
          simpa using h0
        obtain ⟨k, rfl⟩ : ∃ k : Nat, x = (k : Int) := ⟨x.toNat, by omega⟩
        have HK12 := Aside0.mk (show k < al.length by rw [HRL.out]; omega)
        have hk12 : (k : Int) < 12 := by omega
        obtain ⟨bit, hbit⟩ : ∃ bit, al.getD k false = bit := ⟨_, rfl⟩
        have HBIT := Aside0.mk hbit
        clear hin hxr hbit
        cases bit with
        | false =>
          have HF := Aside0.mk (show (l.all (rlAt g) && H.upB l 0 ((g.length : Int) - 1) 0) = false by
            have : l.all (rlAt g) = false := by
              rw [List.all_eq_false]
              exact ⟨_, HMEM.out, by rw [HAT.out, Int.toNat_natCast, HBIT.out]; simp⟩
            rw [this]
            rfl)
          go_wp2_with (first | (go_at_call 69; refine (impl_within.calls (k : Int) 0 ((g.length : Int) - 1) _ _ (impl_within.tell (k : Int) 0 ((g.length : Int) - 1))).mono ?_; rw [HIN.out]; rintro e w' ⟨rfl, ⟨m, rfl⟩⟩; replace HO := Aside0.mk (HO.out.drewN m); have hcb := HO.out.bat 0 rfl HK12.out; rw [HBIT.out] at hcb; clear hcx hpx))
          go_ret
          exact ⟨by rw [HF.out]; rfl, HO.out.below⟩
        | true =>
          have HA2 := Aside0.mk (show (l.take (i + 1)).all (rlAt g) = true by
            rw [HTK.out, List.all_append, HA.out, List.all_cons, List.all_nil, HAT.out, Int.toNat_natCast, HBIT.out]
            unfold H.inB
            rw [HIN.out]
            rfl)
          go_wp2_with (first | (go_at_call 69; refine (impl_within.calls (k : Int) 0 ((g.length : Int) - 1) _ _ (impl_within.tell (k : Int) 0 ((g.length : Int) - 1))).mono ?_; rw [HIN.out]; rintro e w' ⟨rfl, ⟨m, rfl⟩⟩; replace HO := Aside0.mk (HO.out.drewN m); have hcb := HO.out.bat 0 rfl HK12.out; rw [HBIT.out] at hcb; clear hcx hpx))
          go_roundw
          case rel => exact ⟨i + 1, by go_num, by omega, HA2, HO⟩
          case measure => simp [intOf]; omega
    · have hE : i = l.length := by omega
      subst hE
      have hpx := HO.out.old HP0.out
      have HF := Aside0.mk (show l.all (rlAt g) = true by have := HA.out; rw [List.take_length] at this; exact this)
      go_wp2_with (first | (go_at_call 72; refine (HUP.out _ HO.out.below).mono ?_; rintro e w' ⟨rfl, hd⟩; replace HO := Aside0.mk (HO.out.step hd.below); clear hd hpx))
      go_ret
      exact ⟨by rw [HF.out]; rfl, HO.out.below⟩
end Go.Proofs.Ytndkblahnihhjaa.P

namespace Go.Proofs.Ytndkblahnihhjaa.Q.B
open Go.RowKit Go.Proofs.Ytndkblahnihhjaa.P Go.Proofs.Ytndkblahnihhjaa.H Go.Proofs.YtndkblahnihhjaaW.PrintWords
theorem getD_memI {l : List Int} {m : Nat} (h : m < l.length) : l.getD m 0 ∈ l := by
  rw [List.getD_eq_getElem?_getD, List.getElem?_eq_getElem h]
  exact List.getElem_mem h
def blk (R l : List Int) (j : Nat) : Bool := decide (l.getD j 0 ∈ R) && (decide (j = 0) || decide (l.getD (j - 1) 0 < l.getD j 0))
def blkAll (R l : List Int) (i : Nat) : Bool := decide (∀ j, j < l.length → i ≤ j → blk R l j = true)
theorem blkAll_end (R l : List Int) : blkAll R l l.length = true := by
  unfold blkAll
  exact decide_eq_true (fun j h1 h2 => by omega)
theorem blkAll_step (R l : List Int) {i : Nat} (h : i < l.length) : blkAll R l i = (blk R l i && blkAll R l (i + 1)) := by
  unfold blkAll
  rw [Bool.eq_iff_iff]
  simp only [Bool.and_eq_true, decide_eq_true_eq]
  constructor
  · intro a
    exact ⟨a i h (Nat.le_refl _), fun j h1 h2 => a j h1 (by omega)⟩
  · rintro ⟨a, b⟩ j h1 h2
    by_cases e : j = i
    · subst e
      exact a
    · exact b j h1 (by omega)
section
variable {g : List (List Int)}
theorem rlAt_mem (hG : goodG g = true) (y : Int) : rlAt g y = true ↔ y ∈ listTo (reachF g 0 (-1)) 12 := by
  have hr := goodG_rows hG
  have hn1 : 1 ≤ g.length := hr.1.1
  have hn2 : g.length ≤ 12 := hr.1.2
  unfold rlAt inB
  simp only [Bool.and_eq_true, decide_eq_true_eq]
  constructor
  · rintro ⟨⟨h1, h2⟩, h3⟩
    rw [show y = ((y.toNat : Nat) : Int) by omega]
    exact (reach_bit hG (-1) (by omega)).2 h3
  · intro h
    have hy := ((listTo_reach hG y).1 h).rng hG (by decide) (by omega)
    rw [show y = ((y.toNat : Nat) : Int) by omega] at h
    exact ⟨by omega, (reach_bit hG (-1) (by omega)).1 h⟩
theorem rlF_blk (hG : goodG g = true) (l : List Int) : rlF g l = blkAll (listTo (reachF g 0 (-1)) 12) l 0 := by
  unfold rlF blkAll upB
  rw [Bool.eq_iff_iff]
  simp only [Bool.and_eq_true, decide_eq_true_eq, List.all_eq_true]
  constructor
  · rintro ⟨h1, h2⟩ j hj _
    have h3 := h2 j hj (Nat.zero_le _)
    unfold upAt at h3
    unfold blk
    rw [Bool.and_eq_true] at h3 ⊢
    exact ⟨decide_eq_true ((rlAt_mem hG _).1 (h1 _ (getD_memI hj))), h3.2⟩
  · intro h
    refine ⟨fun y hy => ?_, fun j hj _ => ?_⟩
    · obtain ⟨j, hj, e⟩ := List.getElem_of_mem hy
      have h3 := h j hj (Nat.zero_le _)
      unfold blk at h3
      rw [Bool.and_eq_true, decide_eq_true_eq, List.getD_eq_getElem?_getD, List.getElem?_eq_getElem hj] at h3
      rw [← e]
      exact (rlAt_mem hG _).2 h3.1
    · have h3 := h j hj (Nat.zero_le _)
      unfold blk at h3
      rw [Bool.and_eq_true, decide_eq_true_eq] at h3
      have h4 := (rlAt_mem hG _).2 h3.1
      unfold rlAt at h4
      rw [Bool.and_eq_true] at h4
      unfold upAt
      rw [Bool.and_eq_true]
      exact ⟨h4.1, h3.2⟩
theorem blocks_ev (hG : goodG g = true) (l : List Int) (hl : l.length ≤ 1048576) : Ev (fun k => spec_l11Blocks.f k g l) (rlF g l) := by
  rw [rlF_blk hG]
  unfold spec_l11Blocks.f
  refine (specReach_ev hG (-1)).bind ?_
  have hRl := listTo_small (reachF g 0 (-1))
  generalize listTo (reachF g 0 (-1)) 12 = R at hRl
  refine down0 (n := l.length) (p := fun i => Ev (fun k => spec_l11Blocks.l0 k l R l (l.length : Int) (i : Int)) (blkAll R l i)) ?h0 ?hs
  case h0 =>
    rw [blkAll_end]
    exact Ev.step (f := fun _ => some true) (fun k => by simp only [spec_l11Blocks.l0]; rw [if_neg (by omega)]) (Ev.now _)
  case hs =>
    intro i hi ih
    rw [blkAll_step R l hi]
    have hrd : rd l (i : Int) = l.getD i 0 := rfl
    unfold blk
    by_cases h0 : i = 0
    · subst h0
      refine Ev.step (fun k => ?_) ((has_ev R (l.getD 0 0) hRl).bind (f := fun k t => if t = true then spec_l11Blocks.l0 k l R l (l.length : Int) ((0 : Int) + 1) else some false) ?_)
      · simp only [spec_l11Blocks.l0]
        rw [if_pos (by omega), if_pos (by omega), if_pos (by omega), hrd, if_neg (by omega), w64 (by omega) (by omega)]
        rfl
      · cases decide (l.getD 0 0 ∈ R) with
        | true => exact Ev.congr (fun k => by rw [if_pos rfl]; rfl) ih
        | false => exact ev_is fun k => by rw [if_neg (by simp)]; rfl
    · have ew : wrap64 ((i : Int) - 1) = ((i - 1 : Nat) : Int) := by rw [w64 (by omega) (by omega)]; omega
      have hrd1 : rd l (wrap64 ((i : Int) - 1)) = l.getD (i - 1) 0 := by rw [ew]; rfl
      refine Ev.step (fun k => ?_) ((has_ev R (l.getD i 0) hRl).bind (f := fun k t => if t = true then (if l.getD (i - 1) 0 ≥ l.getD i 0 then some false else spec_l11Blocks.l0 k l R l (l.length : Int) ((i : Int) + 1)) else some false) ?_)
      · simp only [spec_l11Blocks.l0]
        rw [if_pos (by omega), if_pos (by omega), if_pos (by omega), hrd, if_pos (by omega), if_pos (by rw [ew]; omega), if_pos (by rw [ew]; omega), hrd1, w64 (show -9223372036854775808 ≤ (i : Int) + 1 by omega) (by omega)]
      · rw [decide_eq_false h0, Bool.false_or]
        cases decide (l.getD i 0 ∈ R) with
        | true =>
          by_cases c : l.getD (i - 1) 0 < l.getD i 0
          · rw [decide_eq_true c]
            exact Ev.congr (fun k => by rw [if_pos rfl, if_neg (by omega)]; rfl) ih
          · rw [decide_eq_false c]
            exact ev_is fun k => by rw [if_pos rfl, if_pos (by omega)]; rfl
        | false => exact ev_is fun k => by rw [if_neg (by simp)]; rfl
end
theorem rl_rng {g : List (List Int)} {l : List Int} (h : rlF g l = true) : ∀ y ∈ l, 0 ≤ y ∧ y < (g.length : Int) := by
  intro y hy
  unfold rlF at h
  rw [Bool.and_eq_true] at h
  have h1 := List.all_eq_true.1 h.1 y hy
  unfold rlAt inB at h1
  simp only [Bool.and_eq_true, decide_eq_true_eq] at h1
  omega
theorem up_srt {l : List Int} {lo hi : Int} (hu : upB l lo hi 0 = true) : Srt l := by
  refine List.pairwise_iff_getElem.2 ?_
  have hstep : ∀ j, j + 1 < l.length → l.getD j 0 < l.getD (j + 1) 0 := by
    intro j hj
    have h1 := of_decide_eq_true hu (j + 1) hj (Nat.zero_le _)
    unfold upAt at h1
    simp only [Bool.and_eq_true, Bool.or_eq_true, decide_eq_true_eq] at h1
    rcases h1.2 with h2 | h2
    · omega
    · exact h2
  intro i j hi hj hij
  have : ∀ d, i + d + 1 < l.length → l.getD i 0 < l.getD (i + d + 1) 0 := by
    intro d
    induction d with
    | zero => intro h; exact hstep i h
    | succ d ih => intro h; exact Int.lt_trans (ih (by omega)) (hstep (i + d + 1) h)
  have := this (j - i - 1) (by omega)
  rw [show i + (j - i - 1) + 1 = j by omega, List.getD_eq_getElem?_getD, List.getElem?_eq_getElem hi, List.getD_eq_getElem?_getD, List.getElem?_eq_getElem hj] at this
  exact this
theorem rl_srt {g : List (List Int)} {l : List Int} (h : rlF g l = true) : Srt l := by
  unfold rlF at h
  rw [Bool.and_eq_true] at h
  exact up_srt h.2
theorem rl_len12 {g : List (List Int)} {l : List Int} (hn : g.length ≤ 12) (h : rlF g l = true) : l.length ≤ 12 := srt_len12 (rl_srt h) (fun y hy => by have := rl_rng h y hy; omega)
end Go.Proofs.Ytndkblahnihhjaa.Q.B

namespace Go.Proofs.Ytndkblahnihhjaa.P
open Go.RowKit Go.Proofs.YtndkblahnihhjaaW.PrintWords Go.Proofs.YtndkblahnihhjaaW.PrintLast Go.Proofs.YtndkblahnihhjaaW.PrintMore
attribute [local go_sem] max2_int min2_int max_two min_two max_three min_three max_four min_four
set_option maxHeartbeats 8000000 in
set_option maxRecDepth 100000 in
theorem impl_dominators.calls (p : Addr) (A0 : Option Addr) (c0 : Nat) (g : List (List Int)) (w : World) (hp0 : w.cell? p = some (.slice A0 g.length c0)) (hr0 : Kd.C (Kd.slice 3 (Kd.int .i64)) w A0 g.length g) (hG : H.goodG g = true) :
    Calls Try.prog 54 #[.pointer (some p)] w fun e w' => ∃ gm, e = .returned (.slice (some ⟨gm, 0, none⟩) g.length g.length) ∧ H.Own w w' [(gm, H.bcells (H.domF g).flatten, 63)] := by
  have hr := H.goodG_rows hG
  have HP0 := Aside0.mk hp0
  have HR0 := Aside0.mk hr0
  have HI := Aside0.mk (show (Try.prog.info? 63).map (·.size) = some 12 by kernel_rfl)
  have HO := Aside0.mk (H.Own.nil w)
  have hn1 : 1 ≤ g.length := hr.1.1
  have hn2 : g.length ≤ 12 := hr.1.2
  have HRE := Aside0.mk (fun (W : World) (hO : Below w.heap.size w W) (wo : Int) => impl_reach.calls p A0 c0 g 0 wo W ((hO.cell (World.block_lt_of_cell? w _ HP0.out)).trans HP0.out) (Kd.C_below HR0.out hO) hG (by decide) (by omega))
  have HRL := Aside0.mk (fun wo => H.reach_len (wo := wo) hG (s := 0) (by decide) (by omega))
  have HDM := Aside0.mk (fun k b => H.matF_mat (fun b' j => (decide (j < k) || (decide (j = k) && decide (b' < b))) && H.domV g b' j) g.length)
  have HDL := Aside0.mk (fun k b => H.matF_len (fun b' j => (decide (j < k) || (decide (j = k) && decide (b' < b))) && H.domV g b' j) g.length)
  have hmk : ∀ W : World, (Instr.makeSlice 68 (.int .i64 (g.length : Int)) (.int .i64 (g.length : Int))).run Try.prog W = .ok (.slice (some ⟨W.heap.size, 0, none⟩) g.length g.length) (W.alloc (.cells (H.bcells (List.replicate g.length H.none12).flatten) 63)) := fun W => make_sets W g.length (by omega)
  clear hr hr0 hG
  go_enter Try.func54, Try.ntmps54
  go_wp2_with (first | ((with_reducible refine gate_dst (N := 13) rfl ?_); refine H.own_make HO.out ?bxg (N := 13) ?bxd (n := g.length) (cs := H.bcells (List.replicate g.length H.none12).flatten) (t := 63) ?bxr ?_; (case bxd => rfl); (case bxg => rfl); (case bxr => first | (go_simp; done) | (go_simp; rfl)); intro gs w_ ho_ hb_; clear hmk; replace HO := Aside0.mk ho_; clear ho_ hb_) | (go_at_call 62; refine (HRE.out _ HO.out.below (-1)).mono ?_; rintro e w' ⟨rfl, hb⟩; replace HO := Aside0.mk (HO.out.step hb); have hp1 := HO.out.old HP0.out; clear hb hp0) | ((with_reducible refine gate_dst (N := 4) rfl ?_); refine H.own_box HO.out ?bxg (N := 4) ?bxd (cs := H.bcells H.none12) (t := 63) ?bxr ?_; (case bxd => rfl); (case bxg => rfl); (case bxr => first | (go_simp; done) | (go_simp; rfl)); intro ga w_ ho_ hb_; clear hp1; replace HO := Aside0.mk ho_; clear ho_ hb_) | ((with_reducible refine gate_store (t := 63) (p := 4) rfl ?_); refine H.own_ball HO.out 1 (bs' := H.reachF g 0 (-1)) rfl rfl rfl rfl rfl rfl HI.out (HRL.out (-1)) ?_; intro w_ ho_ hg_; replace HO := Aside0.mk ho_; have hp1 := HO.out.old HP0.out; clear ho_ hg_))
  obtain ⟨al, hal⟩ : ∃ al, H.reachF g 0 (-1) = al := ⟨_, rfl⟩
  have HALL := HRL.out (-1)
  rw [hal] at HO HALL
  have HAL := Aside0.mk hal
  have HALN := Aside0.mk HALL
  clear hal HALL
  go_loopw [21] (fun v21 wr => ∃ k : Nat, v21 = .int .i64 k ∧ k ≤ g.length ∧ Aside0 (H.Own w wr [(gs, H.bcells (H.domTo g k 0).flatten, 63), (ga, H.bcells al, 63)])) (fun v21 _ => g.length - (intOf v21).toNat)
  case atStart => exact ⟨0, rfl, Nat.zero_le _, ⟨by rw [H.domTo_zero]; exact HO.out⟩⟩
  case round =>
    clear HO hp1
    obtain ⟨k, rfl, hk, HO⟩ := hrel
    by_cases hlt : k < g.length
    · have hk12 : (k : Int) < 12 := by omega
      have hc := HO.out.bat 1 rfl (j := k) (by rw [HALN.out]; omega)
      have HKL := Aside0.mk hlt
      have hpk := HO.out.old HP0.out
      cases hb : al.getD k false with
      | false =>
        rw [hb] at hc
        have HSK := Aside0.mk (H.domTo_skip g (k := k) (by rw [HAL.out]; exact hb))
        clear hb
        go_wp2
        go_roundw
        case rel => exact ⟨k + 1, by go_num, by omega, ⟨by rw [HSK.out]; exact HO.out⟩⟩
        case measure => simp [intOf]; omega
      | true =>
        rw [hb] at hc
        have HBK := Aside0.mk hb
        clear hb
        go_wp2_with (first | (go_at_call 62; refine (HRE.out _ HO.out.below (k : Int)).mono ?_; rintro e w' ⟨rfl, hb⟩; replace HO := Aside0.mk (HO.out.step hb); clear hb hc hpk) | ((with_reducible refine gate_dst (N := 6) rfl ?_); refine H.own_box HO.out ?bxg (N := 6) ?bxd (cs := H.bcells H.none12) (t := 63) ?bxr ?_; (case bxd => rfl); (case bxg => rfl); (case bxr => first | (go_simp; done) | (go_simp; rfl)); intro gl w_ ho_ hb_; replace HO := Aside0.mk ho_; clear ho_ hb_) | ((with_reducible refine gate_store (t := 63) (p := 6) rfl ?_); refine H.own_ball HO.out 2 (bs' := H.reachF g 0 (k : Int)) rfl rfl rfl rfl rfl rfl HI.out (HRL.out (k : Int)) ?_; intro w_ ho_ hg_; replace HO := Aside0.mk ho_; clear ho_ hg_))
        obtain ⟨lf, hlf⟩ : ∃ lf, H.reachF g 0 (k : Int) = lf := ⟨_, rfl⟩
        have hll := HRL.out (k : Int)
        rw [hlf] at HO hll
        have HLF := Aside0.mk hlf
        have HLL := Aside0.mk hll
        clear hlf hll
        go_loopw [33] (fun v33 wr => ∃ b : Nat, v33 = .int .i64 b ∧ b ≤ g.length ∧ Aside0 (H.Own w wr [(gs, H.bcells (H.domTo g k b).flatten, 63), (ga, H.bcells al, 63), (gl, H.bcells lf, 63)])) (fun v33 _ => g.length - (intOf v33).toNat)
        case atStart => exact ⟨0, rfl, Nat.zero_le _, HO⟩
        case round =>
          clear HO
          obtain ⟨b, rfl, hb, HO⟩ := hrel
          by_cases hlt2 : b < g.length
          · have hb12 : (b : Int) < 12 := by omega
            have hbg : (b : Int) < (g.length : Int) := by omega
            have HBL := Aside0.mk hlt2
            have HK12 := Aside0.mk (show k < 12 by omega)
            have HB12 := Aside0.mk (show b < 12 by omega)
            go_wp2
            replace HO := Aside0.mk HO.out.drew
            cases hx : al.getD b false with
            | false =>
              have HV := Aside0.mk (show H.domV g b k = false by unfold H.domV; rw [HAL.out, hx]; simp)
              have HX := Aside0.mk hx
              clear hx
              refine start_ (n := 15) (S := fun w' => w'.cell? ⟨ga, b, none⟩ = some (.bool false)) (ds := [14]) #[false, false, false, false, false, false, false, false, false, false, false, false, false, false, false] (by kernel_rfl) rfl rfl ((HX.out ▸ HO.out.bat 1 rfl (by rw [HALN.out]; exact HB12.out))) (fun hHeld => ?_)
              refine pure_ (i := 0) (N := some 36) (v := ?_) (a' := ?_) #[true, false, false, false, false, false, false, false, false, false, false, false, false, false, false] rfl rfl (by kernel_rfl) (fun _ _ _ h => h) (Or.inl ⟨by rfl, ?_⟩) ?_ ?_
              rotate_left
              · intro w'
                go_simp
                with_reducible rfl
              rotate_left
              · simp only [Act.put, List.setIfInBounds_toArray, List.set_cons_zero, List.set_cons_succ, i64_w, i32_w]
                rfl
              refine pure_ (i := 1) (N := some 37) (v := ?_) (a' := ?_) #[true, true, false, false, false, false, false, false, false, false, false, false, false, false, false] rfl rfl (by kernel_rfl) (fun _ _ _ h => h) (Or.inl ⟨by rfl, ?_⟩) ?_ ?_
              rotate_left
              · intro w'
                go_simp
                with_reducible rfl
              rotate_left
              · simp only [Act.put, List.setIfInBounds_toArray, List.set_cons_zero, List.set_cons_succ, i64_w, i32_w]
                rfl
              refine pure_ (i := 2) (N := some 38) (v := ?_) (a' := ?_) #[true, true, true, false, false, false, false, false, false, false, false, false, false, false, false] rfl rfl (by kernel_rfl) (fun _ _ _ h => h) (Or.inl ⟨by rfl, ?_⟩) ?_ ?_
              rotate_left
              · intro w'
                go_simp
                with_reducible rfl
              rotate_left
              · simp only [Act.put, List.setIfInBounds_toArray, List.set_cons_zero, List.set_cons_succ, i64_w, i32_w]
                rfl
              refine pure_ (i := 3) (N := some 39) (v := ?_) (a' := ?_) #[true, true, true, true, false, false, false, false, false, false, false, false, false, false, false] rfl rfl (by kernel_rfl) (fun _ _ _ h => h) (Or.inl ⟨by rfl, ?_⟩) ?_ ?_
              rotate_left
              · intro w'
                go_simp
                with_reducible rfl
              rotate_left
              · simp only [Act.put, List.setIfInBounds_toArray, List.set_cons_zero, List.set_cons_succ, i64_w, i32_w]
                rfl
              refine pure_ (i := 4) (N := some 40) (v := ?_) (a' := ?_) #[true, true, true, true, true, false, false, false, false, false, false, false, false, false, false] rfl rfl (by kernel_rfl) (fun _ _ _ h => h) (Or.inl ⟨by rfl, ?_⟩) ?_ ?_
              rotate_left
              · intro w'
                go_simp
                with_reducible rfl
              rotate_left
              · simp only [Act.put, List.setIfInBounds_toArray, List.set_cons_zero, List.set_cons_succ, i64_w, i32_w]
                rfl
              refine pure_ (i := 12) (N := some 48) (v := ?_) (a' := ?_) #[true, true, true, true, true, false, false, false, false, false, false, false, true, false, false] rfl rfl (by kernel_rfl) (fun _ _ _ h => h) (Or.inl ⟨by rfl, ?_⟩) ?_ ?_
              rotate_left
              · intro w'
                go_simp
                with_reducible rfl
              rotate_left
              · simp only [Act.put, List.setIfInBounds_toArray, List.set_cons_zero, List.set_cons_succ, i64_w, i32_w]
                rfl
              refine take_ (i := 5) (N := some 41) (v := ?_) (a' := ?_) #[true, true, true, true, true, true, false, false, false, false, false, false, true, false, false] rfl rfl (by kernel_rfl) (fun _ _ _ h => h) (Or.inl ⟨by rfl, ?_⟩) hHeld ?_ ?_
              rotate_left
              · intro w' s0
                go_simp
                with_reducible rfl
              rotate_left
              · simp only [Act.put, List.setIfInBounds_toArray, List.set_cons_zero, List.set_cons_succ, i64_w, i32_w]
                rfl
              refine pure_ (i := 6) (N := some 42) (v := ?_) (a' := ?_) #[true, true, true, true, true, true, true, false, false, false, false, false, true, false, false] rfl rfl (by kernel_rfl) (fun _ _ _ h => h) (Or.inl ⟨by rfl, ?_⟩) ?_ ?_
              rotate_left
              · intro w'
                go_simp
                with_reducible rfl
              rotate_left
              · simp only [Act.put, List.setIfInBounds_toArray, List.set_cons_zero, List.set_cons_succ, i64_w, i32_w]
                rfl
              refine pure_ (i := 7) (N := some 43) (v := undef) (a' := ?_) #[true, true, true, true, true, true, true, true, false, false, false, false, true, false, false] rfl rfl (by kernel_rfl) (fun _ _ _ h => h) (Or.inr ⟨by rfl, rfl⟩) ?_ ?_
              rotate_left
              · simp only [Act.put, List.setIfInBounds_toArray, List.set_cons_zero, List.set_cons_succ, i64_w, i32_w]
                rfl
              refine pure_ (i := 8) (N := some 44) (v := undef) (a' := ?_) #[true, true, true, true, true, true, true, true, true, false, false, false, true, false, false] rfl rfl (by kernel_rfl) (fun _ _ _ h => h) (Or.inr ⟨by rfl, rfl⟩) ?_ ?_
              rotate_left
              · simp only [Act.put, List.setIfInBounds_toArray, List.set_cons_zero, List.set_cons_succ, i64_w, i32_w]
                rfl
              refine pure_ (i := 9) (N := some 45) (v := undef) (a' := ?_) #[true, true, true, true, true, true, true, true, true, true, false, false, true, false, false] rfl rfl (by kernel_rfl) (fun _ _ _ h => h) (Or.inr ⟨by rfl, rfl⟩) ?_ ?_
              rotate_left
              · simp only [Act.put, List.setIfInBounds_toArray, List.set_cons_zero, List.set_cons_succ, i64_w, i32_w]
                rfl
              refine pure_ (i := 10) (N := some 46) (v := undef) (a' := ?_) #[true, true, true, true, true, true, true, true, true, true, true, false, true, false, false] rfl rfl (by kernel_rfl) (fun _ _ _ h => h) (Or.inr ⟨by rfl, rfl⟩) ?_ ?_
              rotate_left
              · simp only [Act.put, List.setIfInBounds_toArray, List.set_cons_zero, List.set_cons_succ, i64_w, i32_w]
                rfl
              refine pure_ (i := 11) (N := some 47) (v := ?_) (a' := ?_) #[true, true, true, true, true, true, true, true, true, true, true, true, true, false, false] rfl rfl (by kernel_rfl) (fun _ _ _ h => h) (Or.inl ⟨by rfl, ?_⟩) ?_ ?_
              rotate_left
              · intro w'
                go_simp
                with_reducible rfl
              rotate_left
              · simp only [Act.put, List.setIfInBounds_toArray, List.set_cons_zero, List.set_cons_succ, i64_w, i32_w]
                rfl
              refine pure_ (i := 13) (N := some 49) (v := ?_) (a' := ?_) #[true, true, true, true, true, true, true, true, true, true, true, true, true, true, false] rfl rfl (by kernel_rfl) (fun _ _ _ h => h) (Or.inl ⟨by rfl, ?_⟩) ?_ ?_
              rotate_left
              · intro w'
                go_simp
                with_reducible rfl
              rotate_left
              · simp only [Act.put, List.setIfInBounds_toArray, List.set_cons_zero, List.set_cons_succ, i64_w, i32_w]
                rfl
              refine last_ (i := 14) (N := none) #[true, true, true, true, true, true, true, true, true, true, true, true, true, true, true] rfl rfl (by kernel_rfl) (by decide) (fun K hK => ?_)
              refine H.own_mput_step HO.out (by rfl) 0 (n := 12) rfl (HDM.out k b) rfl rfl rfl rfl (by kernel_rfl) (by show b < (H.domTo g k b).length; rw [H.domTo, HDL.out]; exact HBL.out) HK12.out ?_
              intro w_ ho_ hg_
              replace HO := Aside0.mk ho_
              clear ho_ hg_
              refine hK.out _ _ ?_
              clear hK K
              refine done_ (by kernel_rfl) ?_
              go_wp2
              go_roundw
              case rel => exact ⟨b + 1, by go_num, by omega, ⟨by rw [← H.domTo_put g HBL.out HV.out]; exact HO.out⟩⟩
              case measure => simp [intOf]; omega
            | true =>
              cases hy : lf.getD b false with
              | true =>
                have HV := Aside0.mk (show H.domV g b k = false by unfold H.domV; rw [HAL.out, hx, HLF.out, hy]; simp)
                have HX := Aside0.mk hx
                have HY := Aside0.mk hy
                clear hx hy
                refine start_ (n := 15) (S := fun w' => w'.cell? ⟨ga, b, none⟩ = some (.bool true) ∧ w'.cell? ⟨gl, b, none⟩ = some (.bool true)) (ds := [14]) #[false, false, false, false, false, false, false, false, false, false, false, false, false, false, false] (by kernel_rfl) rfl rfl ⟨(HX.out ▸ HO.out.bat 1 rfl (by rw [HALN.out]; exact HB12.out)), (HY.out ▸ HO.out.bat 2 rfl (by rw [HLL.out]; exact HB12.out))⟩ (fun hHeld => ?_)
                refine pure_ (i := 0) (N := some 36) (v := ?_) (a' := ?_) #[true, false, false, false, false, false, false, false, false, false, false, false, false, false, false] rfl rfl (by kernel_rfl) (fun _ _ _ h => h) (Or.inl ⟨by rfl, ?_⟩) ?_ ?_
                rotate_left
                · intro w'
                  go_simp
                  with_reducible rfl
                rotate_left
                · simp only [Act.put, List.setIfInBounds_toArray, List.set_cons_zero, List.set_cons_succ, i64_w, i32_w]
                  rfl
                refine pure_ (i := 1) (N := some 37) (v := ?_) (a' := ?_) #[true, true, false, false, false, false, false, false, false, false, false, false, false, false, false] rfl rfl (by kernel_rfl) (fun _ _ _ h => h) (Or.inl ⟨by rfl, ?_⟩) ?_ ?_
                rotate_left
                · intro w'
                  go_simp
                  with_reducible rfl
                rotate_left
                · simp only [Act.put, List.setIfInBounds_toArray, List.set_cons_zero, List.set_cons_succ, i64_w, i32_w]
                  rfl
                refine pure_ (i := 2) (N := some 38) (v := ?_) (a' := ?_) #[true, true, true, false, false, false, false, false, false, false, false, false, false, false, false] rfl rfl (by kernel_rfl) (fun _ _ _ h => h) (Or.inl ⟨by rfl, ?_⟩) ?_ ?_
                rotate_left
                · intro w'
                  go_simp
                  with_reducible rfl
                rotate_left
                · simp only [Act.put, List.setIfInBounds_toArray, List.set_cons_zero, List.set_cons_succ, i64_w, i32_w]
                  rfl
                refine pure_ (i := 3) (N := some 39) (v := ?_) (a' := ?_) #[true, true, true, true, false, false, false, false, false, false, false, false, false, false, false] rfl rfl (by kernel_rfl) (fun _ _ _ h => h) (Or.inl ⟨by rfl, ?_⟩) ?_ ?_
                rotate_left
                · intro w'
                  go_simp
                  with_reducible rfl
                rotate_left
                · simp only [Act.put, List.setIfInBounds_toArray, List.set_cons_zero, List.set_cons_succ, i64_w, i32_w]
                  rfl
                refine pure_ (i := 4) (N := some 40) (v := ?_) (a' := ?_) #[true, true, true, true, true, false, false, false, false, false, false, false, false, false, false] rfl rfl (by kernel_rfl) (fun _ _ _ h => h) (Or.inl ⟨by rfl, ?_⟩) ?_ ?_
                rotate_left
                · intro w'
                  go_simp
                  with_reducible rfl
                rotate_left
                · simp only [Act.put, List.setIfInBounds_toArray, List.set_cons_zero, List.set_cons_succ, i64_w, i32_w]
                  rfl
                refine pure_ (i := 12) (N := some 48) (v := ?_) (a' := ?_) #[true, true, true, true, true, false, false, false, false, false, false, false, true, false, false] rfl rfl (by kernel_rfl) (fun _ _ _ h => h) (Or.inl ⟨by rfl, ?_⟩) ?_ ?_
                rotate_left
                · intro w'
                  go_simp
                  with_reducible rfl
                rotate_left
                · simp only [Act.put, List.setIfInBounds_toArray, List.set_cons_zero, List.set_cons_succ, i64_w, i32_w]
                  rfl
                refine take_ (i := 5) (N := some 41) (v := ?_) (a' := ?_) #[true, true, true, true, true, true, false, false, false, false, false, false, true, false, false] rfl rfl (by kernel_rfl) (fun _ _ _ h => h) (Or.inl ⟨by rfl, ?_⟩) hHeld ?_ ?_
                rotate_left
                · rintro w' ⟨s0, s1⟩
                  go_simp
                  with_reducible rfl
                rotate_left
                · simp only [Act.put, List.setIfInBounds_toArray, List.set_cons_zero, List.set_cons_succ, i64_w, i32_w]
                  rfl
                refine pure_ (i := 6) (N := some 42) (v := ?_) (a' := ?_) #[true, true, true, true, true, true, true, false, false, false, false, false, true, false, false] rfl rfl (by kernel_rfl) (fun _ _ _ h => h) (Or.inl ⟨by rfl, ?_⟩) ?_ ?_
                rotate_left
                · intro w'
                  go_simp
                  with_reducible rfl
                rotate_left
                · simp only [Act.put, List.setIfInBounds_toArray, List.set_cons_zero, List.set_cons_succ, i64_w, i32_w]
                  rfl
                refine pure_ (i := 7) (N := some 43) (v := ?_) (a' := ?_) #[true, true, true, true, true, true, true, true, false, false, false, false, true, false, false] rfl rfl (by kernel_rfl) (fun _ _ _ h => h) (Or.inl ⟨by rfl, ?_⟩) ?_ ?_
                rotate_left
                · intro w'
                  go_simp
                  with_reducible rfl
                rotate_left
                · simp only [Act.put, List.setIfInBounds_toArray, List.set_cons_zero, List.set_cons_succ, i64_w, i32_w]
                  rfl
                refine pure_ (i := 8) (N := some 44) (v := ?_) (a' := ?_) #[true, true, true, true, true, true, true, true, true, false, false, false, true, false, false] rfl rfl (by kernel_rfl) (fun _ _ _ h => h) (Or.inl ⟨by rfl, ?_⟩) ?_ ?_
                rotate_left
                · intro w'
                  go_simp
                  with_reducible rfl
                rotate_left
                · simp only [Act.put, List.setIfInBounds_toArray, List.set_cons_zero, List.set_cons_succ, i64_w, i32_w]
                  rfl
                refine take_ (i := 9) (N := some 45) (v := ?_) (a' := ?_) #[true, true, true, true, true, true, true, true, true, true, false, false, true, false, false] rfl rfl (by kernel_rfl) (fun _ _ _ h => h) (Or.inl ⟨by rfl, ?_⟩) hHeld ?_ ?_
                rotate_left
                · rintro w' ⟨s0, s1⟩
                  go_simp
                  with_reducible rfl
                rotate_left
                · simp only [Act.put, List.setIfInBounds_toArray, List.set_cons_zero, List.set_cons_succ, i64_w, i32_w]
                  rfl
                refine pure_ (i := 10) (N := some 46) (v := ?_) (a' := ?_) #[true, true, true, true, true, true, true, true, true, true, true, false, true, false, false] rfl rfl (by kernel_rfl) (fun _ _ _ h => h) (Or.inl ⟨by rfl, ?_⟩) ?_ ?_
                rotate_left
                · intro w'
                  go_simp
                  with_reducible rfl
                rotate_left
                · simp only [Act.put, List.setIfInBounds_toArray, List.set_cons_zero, List.set_cons_succ, i64_w, i32_w]
                  rfl
                refine pure_ (i := 11) (N := some 47) (v := ?_) (a' := ?_) #[true, true, true, true, true, true, true, true, true, true, true, true, true, false, false] rfl rfl (by kernel_rfl) (fun _ _ _ h => h) (Or.inl ⟨by rfl, ?_⟩) ?_ ?_
                rotate_left
                · intro w'
                  go_simp
                  with_reducible rfl
                rotate_left
                · simp only [Act.put, List.setIfInBounds_toArray, List.set_cons_zero, List.set_cons_succ, i64_w, i32_w]
                  rfl
                refine pure_ (i := 13) (N := some 49) (v := ?_) (a' := ?_) #[true, true, true, true, true, true, true, true, true, true, true, true, true, true, false] rfl rfl (by kernel_rfl) (fun _ _ _ h => h) (Or.inl ⟨by rfl, ?_⟩) ?_ ?_
                rotate_left
                · intro w'
                  go_simp
                  with_reducible rfl
                rotate_left
                · simp only [Act.put, List.setIfInBounds_toArray, List.set_cons_zero, List.set_cons_succ, i64_w, i32_w]
                  rfl
                refine last_ (i := 14) (N := none) #[true, true, true, true, true, true, true, true, true, true, true, true, true, true, true] rfl rfl (by kernel_rfl) (by decide) (fun K hK => ?_)
                refine H.own_mput_step HO.out (by rfl) 0 (n := 12) rfl (HDM.out k b) rfl rfl rfl rfl (by kernel_rfl) (by show b < (H.domTo g k b).length; rw [H.domTo, HDL.out]; exact HBL.out) HK12.out ?_
                intro w_ ho_ hg_
                replace HO := Aside0.mk ho_
                clear ho_ hg_
                refine hK.out _ _ ?_
                clear hK K
                refine done_ (by kernel_rfl) ?_
                go_wp2
                go_roundw
                case rel => exact ⟨b + 1, by go_num, by omega, ⟨by rw [← H.domTo_put g HBL.out HV.out]; exact HO.out⟩⟩
                case measure => simp [intOf]; omega
              | false =>
                have HV := Aside0.mk (show H.domV g b k = true by unfold H.domV; rw [HAL.out, hx, HLF.out, hy, HBK.out]; simp)
                have HX := Aside0.mk hx
                have HY := Aside0.mk hy
                clear hx hy
                refine start_ (n := 15) (S := fun w' => w'.cell? ⟨ga, b, none⟩ = some (.bool true) ∧ w'.cell? ⟨gl, b, none⟩ = some (.bool false)) (ds := [14]) #[false, false, false, false, false, false, false, false, false, false, false, false, false, false, false] (by kernel_rfl) rfl rfl ⟨(HX.out ▸ HO.out.bat 1 rfl (by rw [HALN.out]; exact HB12.out)), (HY.out ▸ HO.out.bat 2 rfl (by rw [HLL.out]; exact HB12.out))⟩ (fun hHeld => ?_)
                refine pure_ (i := 0) (N := some 36) (v := ?_) (a' := ?_) #[true, false, false, false, false, false, false, false, false, false, false, false, false, false, false] rfl rfl (by kernel_rfl) (fun _ _ _ h => h) (Or.inl ⟨by rfl, ?_⟩) ?_ ?_
                rotate_left
                · intro w'
                  go_simp
                  with_reducible rfl
                rotate_left
                · simp only [Act.put, List.setIfInBounds_toArray, List.set_cons_zero, List.set_cons_succ, i64_w, i32_w]
                  rfl
                refine pure_ (i := 1) (N := some 37) (v := ?_) (a' := ?_) #[true, true, false, false, false, false, false, false, false, false, false, false, false, false, false] rfl rfl (by kernel_rfl) (fun _ _ _ h => h) (Or.inl ⟨by rfl, ?_⟩) ?_ ?_
                rotate_left
                · intro w'
                  go_simp
                  with_reducible rfl
                rotate_left
                · simp only [Act.put, List.setIfInBounds_toArray, List.set_cons_zero, List.set_cons_succ, i64_w, i32_w]
                  rfl
                refine pure_ (i := 2) (N := some 38) (v := ?_) (a' := ?_) #[true, true, true, false, false, false, false, false, false, false, false, false, false, false, false] rfl rfl (by kernel_rfl) (fun _ _ _ h => h) (Or.inl ⟨by rfl, ?_⟩) ?_ ?_
                rotate_left
                · intro w'
                  go_simp
                  with_reducible rfl
                rotate_left
                · simp only [Act.put, List.setIfInBounds_toArray, List.set_cons_zero, List.set_cons_succ, i64_w, i32_w]
                  rfl
                refine pure_ (i := 3) (N := some 39) (v := ?_) (a' := ?_) #[true, true, true, true, false, false, false, false, false, false, false, false, false, false, false] rfl rfl (by kernel_rfl) (fun _ _ _ h => h) (Or.inl ⟨by rfl, ?_⟩) ?_ ?_
                rotate_left
                · intro w'
                  go_simp
                  with_reducible rfl
                rotate_left
                · simp only [Act.put, List.setIfInBounds_toArray, List.set_cons_zero, List.set_cons_succ, i64_w, i32_w]
                  rfl
                refine pure_ (i := 4) (N := some 40) (v := ?_) (a' := ?_) #[true, true, true, true, true, false, false, false, false, false, false, false, false, false, false] rfl rfl (by kernel_rfl) (fun _ _ _ h => h) (Or.inl ⟨by rfl, ?_⟩) ?_ ?_
                rotate_left
                · intro w'
                  go_simp
                  with_reducible rfl
                rotate_left
                · simp only [Act.put, List.setIfInBounds_toArray, List.set_cons_zero, List.set_cons_succ, i64_w, i32_w]
                  rfl
                refine pure_ (i := 12) (N := some 48) (v := ?_) (a' := ?_) #[true, true, true, true, true, false, false, false, false, false, false, false, true, false, false] rfl rfl (by kernel_rfl) (fun _ _ _ h => h) (Or.inl ⟨by rfl, ?_⟩) ?_ ?_
                rotate_left
                · intro w'
                  go_simp
                  with_reducible rfl
                rotate_left
                · simp only [Act.put, List.setIfInBounds_toArray, List.set_cons_zero, List.set_cons_succ, i64_w, i32_w]
                  rfl
                refine take_ (i := 5) (N := some 41) (v := ?_) (a' := ?_) #[true, true, true, true, true, true, false, false, false, false, false, false, true, false, false] rfl rfl (by kernel_rfl) (fun _ _ _ h => h) (Or.inl ⟨by rfl, ?_⟩) hHeld ?_ ?_
                rotate_left
                · rintro w' ⟨s0, s1⟩
                  go_simp
                  with_reducible rfl
                rotate_left
                · simp only [Act.put, List.setIfInBounds_toArray, List.set_cons_zero, List.set_cons_succ, i64_w, i32_w]
                  rfl
                refine pure_ (i := 6) (N := some 42) (v := ?_) (a' := ?_) #[true, true, true, true, true, true, true, false, false, false, false, false, true, false, false] rfl rfl (by kernel_rfl) (fun _ _ _ h => h) (Or.inl ⟨by rfl, ?_⟩) ?_ ?_
                rotate_left
                · intro w'
                  go_simp
                  with_reducible rfl
                rotate_left
                · simp only [Act.put, List.setIfInBounds_toArray, List.set_cons_zero, List.set_cons_succ, i64_w, i32_w]
                  rfl
                refine pure_ (i := 7) (N := some 43) (v := ?_) (a' := ?_) #[true, true, true, true, true, true, true, true, false, false, false, false, true, false, false] rfl rfl (by kernel_rfl) (fun _ _ _ h => h) (Or.inl ⟨by rfl, ?_⟩) ?_ ?_
                rotate_left
                · intro w'
                  go_simp
                  with_reducible rfl
                rotate_left
                · simp only [Act.put, List.setIfInBounds_toArray, List.set_cons_zero, List.set_cons_succ, i64_w, i32_w]
                  rfl
                refine pure_ (i := 8) (N := some 44) (v := ?_) (a' := ?_) #[true, true, true, true, true, true, true, true, true, false, false, false, true, false, false] rfl rfl (by kernel_rfl) (fun _ _ _ h => h) (Or.inl ⟨by rfl, ?_⟩) ?_ ?_
                rotate_left
                · intro w'
                  go_simp
                  with_reducible rfl
                rotate_left
                · simp only [Act.put, List.setIfInBounds_toArray, List.set_cons_zero, List.set_cons_succ, i64_w, i32_w]
                  rfl
                refine take_ (i := 9) (N := some 45) (v := ?_) (a' := ?_) #[true, true, true, true, true, true, true, true, true, true, false, false, true, false, false] rfl rfl (by kernel_rfl) (fun _ _ _ h => h) (Or.inl ⟨by rfl, ?_⟩) hHeld ?_ ?_
                rotate_left
                · rintro w' ⟨s0, s1⟩
                  go_simp
                  with_reducible rfl
                rotate_left
                · simp only [Act.put, List.setIfInBounds_toArray, List.set_cons_zero, List.set_cons_succ, i64_w, i32_w]
                  rfl
                refine pure_ (i := 10) (N := some 46) (v := ?_) (a' := ?_) #[true, true, true, true, true, true, true, true, true, true, true, false, true, false, false] rfl rfl (by kernel_rfl) (fun _ _ _ h => h) (Or.inl ⟨by rfl, ?_⟩) ?_ ?_
                rotate_left
                · intro w'
                  go_simp
                  with_reducible rfl
                rotate_left
                · simp only [Act.put, List.setIfInBounds_toArray, List.set_cons_zero, List.set_cons_succ, i64_w, i32_w]
                  rfl
                refine pure_ (i := 11) (N := some 47) (v := ?_) (a' := ?_) #[true, true, true, true, true, true, true, true, true, true, true, true, true, false, false] rfl rfl (by kernel_rfl) (fun _ _ _ h => h) (Or.inl ⟨by rfl, ?_⟩) ?_ ?_
                rotate_left
                · intro w'
                  go_simp
                  with_reducible rfl
                rotate_left
                · simp only [Act.put, List.setIfInBounds_toArray, List.set_cons_zero, List.set_cons_succ, i64_w, i32_w]
                  rfl
                refine pure_ (i := 13) (N := some 49) (v := ?_) (a' := ?_) #[true, true, true, true, true, true, true, true, true, true, true, true, true, true, false] rfl rfl (by kernel_rfl) (fun _ _ _ h => h) (Or.inl ⟨by rfl, ?_⟩) ?_ ?_
                rotate_left
                · intro w'
                  go_simp
                  with_reducible rfl
                rotate_left
                · simp only [Act.put, List.setIfInBounds_toArray, List.set_cons_zero, List.set_cons_succ, i64_w, i32_w]
                  rfl
                refine last_ (i := 14) (N := none) #[true, true, true, true, true, true, true, true, true, true, true, true, true, true, true] rfl rfl (by kernel_rfl) (by decide) (fun K hK => ?_)
                refine H.own_mput_step HO.out (by rfl) 0 (n := 12) rfl (HDM.out k b) rfl rfl rfl rfl (by kernel_rfl) (by show b < (H.domTo g k b).length; rw [H.domTo, HDL.out]; exact HBL.out) HK12.out ?_
                intro w_ ho_ hg_
                replace HO := Aside0.mk ho_
                clear ho_ hg_
                refine hK.out _ _ ?_
                clear hK K
                refine done_ (by kernel_rfl) ?_
                go_wp2
                go_roundw
                case rel => exact ⟨b + 1, by go_num, by omega, ⟨by rw [← H.domTo_put g HBL.out HV.out]; exact HO.out⟩⟩
                case measure => simp [intOf]; omega
          · have hE : b = g.length := by omega
            subst hE
            go_wp2
            go_roundw
            case rel => exact ⟨k + 1, by go_num, by omega, ⟨by rw [← H.domTo_end]; exact HO.out.take (by simp)⟩⟩
            case measure => simp [intOf]; omega
    · have hE : k = g.length := by omega
      subst hE
      go_wp2
      go_ret
      exact ⟨gs, rfl, by rw [← H.domTo_last]; exact HO.out.take (by simp)⟩
end Go.Proofs.Ytndkblahnihhjaa.P

namespace Go.Proofs.Ytndkblahnihhjaa.P
open Go.RowKit Go.Proofs.YtndkblahnihhjaaW.PrintWords Go.Proofs.YtndkblahnihhjaaW.PrintLast Go.Proofs.YtndkblahnihhjaaW.PrintMore
attribute [local go_sem] max2_int min2_int max_two min_two max_three min_three max_four min_four
set_option maxHeartbeats 8000000 in
set_option maxRecDepth 100000 in
theorem impl_preds.calls (p : Addr) (A0 : Option Addr) (c0 : Nat) (g : List (List Int)) (w : World) (hp0 : w.cell? p = some (.slice A0 g.length c0)) (hr0 : Kd.C (Kd.slice 3 (Kd.int .i64)) w A0 g.length g) (hG : H.goodG g = true) :
    Calls Try.prog 61 #[.pointer (some p)] w fun e w' => ∃ gm, e = .returned (.slice (some ⟨gm, 0, none⟩) g.length g.length) ∧ H.Own w w' [(gm, H.bcells (H.prdF g).flatten, 63)] := by
  have hr := H.goodG_rows hG
  have HP0 := Aside0.mk hp0
  have HR0 := Aside0.mk hr0
  have HROW := Aside0.mk (H.goodG_row hG)
  have HI := Aside0.mk (show (Try.prog.info? 63).map (·.size) = some 12 by kernel_rfl)
  have HO := Aside0.mk (H.Own.nil w)
  have hn1 : 1 ≤ g.length := hr.1.1
  have hn2 : g.length ≤ 12 := hr.1.2
  have HRE := Aside0.mk (fun (W : World) (hO : Below w.heap.size w W) (wo : Int) => impl_reach.calls p A0 c0 g 0 wo W ((hO.cell (World.block_lt_of_cell? w _ HP0.out)).trans HP0.out) (Kd.C_below HR0.out hO) hG (by decide) (by omega))
  have HRL := Aside0.mk (fun wo => H.reach_len (wo := wo) hG (s := 0) (by decide) (by omega))
  have HDM := Aside0.mk (fun b i => H.matF_mat (fun x j => (decide (j < b) && H.prdV g x j) || (decide (j = b) && (decide ((x : Int) ∈ (g.getD b []).take i) && (H.reachF g 0 (-1)).getD b false))) g.length)
  have HDL := Aside0.mk (fun b i => H.matF_len (fun x j => (decide (j < b) && H.prdV g x j) || (decide (j = b) && (decide ((x : Int) ∈ (g.getD b []).take i) && (H.reachF g 0 (-1)).getD b false))) g.length)
  have hmk : ∀ W : World, (Instr.makeSlice 68 (.int .i64 (g.length : Int)) (.int .i64 (g.length : Int))).run Try.prog W = .ok (.slice (some ⟨W.heap.size, 0, none⟩) g.length g.length) (W.alloc (.cells (H.bcells (List.replicate g.length H.none12).flatten) 63)) := fun W => make_sets W g.length (by omega)
  clear hr hr0 hG
  go_enter Try.func61, Try.ntmps61
  go_wp2_with (first | ((with_reducible refine gate_dst (N := 14) rfl ?_); refine H.own_make HO.out ?bxg (N := 14) ?bxd (n := g.length) (cs := H.bcells (List.replicate g.length H.none12).flatten) (t := 63) ?bxr ?_; (case bxd => rfl); (case bxg => rfl); (case bxr => first | (go_simp; done) | (go_simp; rfl)); intro gs w_ ho_ hb_; clear hmk; replace HO := Aside0.mk ho_; clear ho_ hb_) | (go_at_call 62; refine (HRE.out _ HO.out.below (-1)).mono ?_; rintro e w' ⟨rfl, hb⟩; replace HO := Aside0.mk (HO.out.step hb); have hp1 := HO.out.old HP0.out; clear hb hp0) | ((with_reducible refine gate_dst (N := 4) rfl ?_); refine H.own_box HO.out ?bxg (N := 4) ?bxd (cs := H.bcells H.none12) (t := 63) ?bxr ?_; (case bxd => rfl); (case bxg => rfl); (case bxr => first | (go_simp; done) | (go_simp; rfl)); intro ga w_ ho_ hb_; clear hp1; replace HO := Aside0.mk ho_; clear ho_ hb_) | ((with_reducible refine gate_store (t := 63) (p := 4) rfl ?_); refine H.own_ball HO.out 1 (bs' := H.reachF g 0 (-1)) rfl rfl rfl rfl rfl rfl HI.out (HRL.out (-1)) ?_; intro w_ ho_ hg_; replace HO := Aside0.mk ho_; have hp1 := HO.out.old HP0.out; clear ho_ hg_))
  obtain ⟨al, hal⟩ : ∃ al, H.reachF g 0 (-1) = al := ⟨_, rfl⟩
  have HALL := HRL.out (-1)
  rw [hal] at HO HALL
  have HAL := Aside0.mk hal
  have HALN := Aside0.mk HALL
  clear hal HALL
  go_loopw [22] (fun v22 wr => ∃ b : Nat, v22 = .int .i64 b ∧ b ≤ g.length ∧ Aside0 (H.Own w wr [(gs, H.bcells (H.prdTo g b 0).flatten, 63), (ga, H.bcells al, 63)])) (fun v22 _ => g.length - (intOf v22).toNat)
  case atStart => exact ⟨0, rfl, Nat.zero_le _, ⟨by rw [H.prdTo_zero]; exact HO.out⟩⟩
  case round =>
    clear HO hp1
    obtain ⟨b, rfl, hb, HO⟩ := hrel
    by_cases hlt : b < g.length
    · obtain ⟨ad, A1, c1, e1, hc0, hc1, hc2⟩ := at_L1 HR0.out (b : Int) (by omega) (by omega)
      subst e1
      rw [Int.toNat_natCast] at hc0
      have hrd : rd_L1 g (b : Int) = g.getD b [] := rfl
      rw [hrd] at hc0 hc1 hc2
      have hrow := HROW.out b
      have hpe := H.prdTo_end g b
      have HPP := Aside0.mk (fun i x (hx : x < g.length) (hi : i < (g.getD b []).length) (he : (g.getD b []).getD i 0 = (x : Int)) => H.prdTo_put g hx hi he (v := al.getD b false) (by rw [HAL.out]))
      generalize hrw : g.getD b [] = row at hc0 hc1 hc2 hrow hpe HPP
      have hxr := HO.out.old hc0
      have HC2 := Aside0.mk hc2
      have HRR := Aside0.mk hrow
      have HPE := Aside0.mk hpe
      have hrl := hc2.2.1
      have hb12 : (b : Int) < 12 := by omega
      have hbg : (b : Int) < (g.length : Int) := by omega
      have HB12 := Aside0.mk (show b < 12 by omega)
      clear hc0 hc1 hc2 hrow hrd hpe hrw
      go_wp2
      go_loopw [29] (fun v29 wr => ∃ i : Nat, v29 = .int .i64 i ∧ i ≤ row.length ∧ Aside0 (H.Own w wr [(gs, H.bcells (H.prdTo g b i).flatten, 63), (ga, H.bcells al, 63)])) (fun v29 _ => row.length - (intOf v29).toNat)
      case atStart => exact ⟨0, rfl, Nat.zero_le _, HO⟩
      case round =>
        clear HO hxr
        obtain ⟨i, rfl, hi, HO⟩ := hrel
        by_cases hlt2 : i < row.length
        · obtain ⟨ad2, e2, hcb⟩ := Kd.at_int HC2.out (i : Int) (by omega) (by omega)
          subst e2
          rw [Int.toNat_natCast] at hcb
          have hrd2 : rd row (i : Int) = row.getD i 0 := rfl
          rw [hrd2] at hcb
          have hby := HRR.out (row.getD i 0) (by rw [List.getD_eq_getElem?_getD, List.getElem?_eq_getElem hlt2]; exact List.getElem_mem hlt2)
          obtain ⟨x0, hx0⟩ : ∃ k : Nat, row.getD i 0 = (k : Int) := ⟨(row.getD i 0).toNat, by omega⟩
          have hput := HPP.out i x0 (by omega) hlt2 hx0
          rw [hx0] at hcb hby
          have hcx := HO.out.old hcb
          have hx12 : (x0 : Int) < (g.length : Int) := hby.2
          have HXL := Aside0.mk (show x0 < g.length by omega)
          have HPUT := Aside0.mk hput
          have hil : (i : Int) < (row.length : Int) := by omega
          clear hcb hrd2 hby hx0 hput
          go_wp2
          replace HO := Aside0.mk HO.out.drew
          obtain ⟨va, hva⟩ : ∃ va, al.getD b false = va := ⟨_, rfl⟩
          have HVA := Aside0.mk hva
          rw [hva] at HPUT
          clear hva
          refine start_ (n := 9) (S := fun w' => w'.cell? ⟨ga, b, none⟩ = some (.bool va)) (ds := [8]) #[false, false, false, false, false, false, false, false, false] (by kernel_rfl) rfl rfl ((HVA.out ▸ HO.out.bat 1 rfl (by rw [HALN.out]; exact HB12.out))) (fun hHeld => ?_)
          refine pure_ (i := 0) (N := some 33) (v := ?_) (a' := ?_) #[true, false, false, false, false, false, false, false, false] rfl rfl (by kernel_rfl) (fun _ _ _ h => h) (Or.inl ⟨by rfl, ?_⟩) ?_ ?_
          rotate_left
          · intro w'
            go_simp
            with_reducible rfl
          rotate_left
          · simp only [Act.put, List.setIfInBounds_toArray, List.set_cons_zero, List.set_cons_succ, i64_w, i32_w]
            rfl
          refine pure_ (i := 1) (N := some 34) (v := ?_) (a' := ?_) #[true, true, false, false, false, false, false, false, false] rfl rfl (by kernel_rfl) (fun _ _ _ h => h) (Or.inl ⟨by rfl, ?_⟩) ?_ ?_
          rotate_left
          · intro w'
            go_simp
            with_reducible rfl
          rotate_left
          · simp only [Act.put, List.setIfInBounds_toArray, List.set_cons_zero, List.set_cons_succ, i64_w, i32_w]
            rfl
          refine pure_ (i := 2) (N := some 35) (v := ?_) (a' := ?_) #[true, true, true, false, false, false, false, false, false] rfl rfl (by kernel_rfl) (fun _ _ _ h => h) (Or.inl ⟨by rfl, ?_⟩) ?_ ?_
          rotate_left
          · intro w'
            go_simp
            with_reducible rfl
          rotate_left
          · simp only [Act.put, List.setIfInBounds_toArray, List.set_cons_zero, List.set_cons_succ, i64_w, i32_w]
            rfl
          refine pure_ (i := 3) (N := some 36) (v := ?_) (a' := ?_) #[true, true, true, true, false, false, false, false, false] rfl rfl (by kernel_rfl) (fun _ _ _ h => h) (Or.inl ⟨by rfl, ?_⟩) ?_ ?_
          rotate_left
          · intro w'
            go_simp
            with_reducible rfl
          rotate_left
          · simp only [Act.put, List.setIfInBounds_toArray, List.set_cons_zero, List.set_cons_succ, i64_w, i32_w]
            rfl
          refine pure_ (i := 4) (N := some 37) (v := ?_) (a' := ?_) #[true, true, true, true, true, false, false, false, false] rfl rfl (by kernel_rfl) (fun _ _ _ h => h) (Or.inl ⟨by rfl, ?_⟩) ?_ ?_
          rotate_left
          · intro w'
            go_simp
            with_reducible rfl
          rotate_left
          · simp only [Act.put, List.setIfInBounds_toArray, List.set_cons_zero, List.set_cons_succ, i64_w, i32_w]
            rfl
          refine pure_ (i := 6) (N := some 39) (v := ?_) (a' := ?_) #[true, true, true, true, true, false, true, false, false] rfl rfl (by kernel_rfl) (fun _ _ _ h => h) (Or.inl ⟨by rfl, ?_⟩) ?_ ?_
          rotate_left
          · intro w'
            go_simp
            with_reducible rfl
          rotate_left
          · simp only [Act.put, List.setIfInBounds_toArray, List.set_cons_zero, List.set_cons_succ, i64_w, i32_w]
            rfl
          refine take_ (i := 5) (N := some 38) (v := ?_) (a' := ?_) #[true, true, true, true, true, true, true, false, false] rfl rfl (by kernel_rfl) (fun _ _ _ h => h) (Or.inl ⟨by rfl, ?_⟩) hHeld ?_ ?_
          rotate_left
          · intro w' s0
            go_simp
            with_reducible rfl
          rotate_left
          · simp only [Act.put, List.setIfInBounds_toArray, List.set_cons_zero, List.set_cons_succ, i64_w, i32_w]
            rfl
          refine pure_ (i := 7) (N := some 40) (v := ?_) (a' := ?_) #[true, true, true, true, true, true, true, true, false] rfl rfl (by kernel_rfl) (fun _ _ _ h => h) (Or.inl ⟨by rfl, ?_⟩) ?_ ?_
          rotate_left
          · intro w'
            go_simp
            with_reducible rfl
          rotate_left
          · simp only [Act.put, List.setIfInBounds_toArray, List.set_cons_zero, List.set_cons_succ, i64_w, i32_w]
            rfl
          refine last_ (i := 8) (N := none) #[true, true, true, true, true, true, true, true, true] rfl rfl (by kernel_rfl) (by decide) (fun K hK => ?_)
          refine H.own_mput_step HO.out (by rfl) 0 (n := 12) rfl (HDM.out b i) rfl rfl rfl rfl (by kernel_rfl) (by show x0 < (H.prdTo g b i).length; rw [H.prdTo, HDL.out]; exact HXL.out) HB12.out ?_
          intro w_ ho_ hg_
          replace HO := Aside0.mk ho_
          clear ho_ hg_
          refine hK.out _ _ ?_
          clear hK K
          refine done_ (by kernel_rfl) ?_
          go_wp2
          go_roundw
          case rel => exact ⟨i + 1, by go_num, by omega, ⟨by rw [← HPUT.out]; exact HO.out⟩⟩
          case measure => simp [intOf]; omega
        · have hE : i = row.length := by omega
          subst hE
          go_wp2
          go_roundw
          case rel => exact ⟨b + 1, by go_num, by omega, ⟨by rw [← HPE.out]; exact HO.out⟩⟩
          case measure => simp [intOf]; omega
    · have hE : b = g.length := by omega
      subst hE
      go_wp2
      go_ret
      exact ⟨gs, rfl, by rw [← H.prdTo_last]; exact HO.out.take (by simp)⟩
end Go.Proofs.Ytndkblahnihhjaa.P

namespace Go.Proofs.Ytndkblahnihhjaa.P
open Go.RowKit Go.Proofs.YtndkblahnihhjaaW.PrintWords Go.Proofs.YtndkblahnihhjaaW.PrintLast Go.Proofs.YtndkblahnihhjaaW.PrintMore
attribute [local go_sem] max2_int min2_int max_two min_two max_three min_three max_four min_four
theorem run_idx12f (w : World) (bs : List Bool) (hb : bs.length = 12) (j : Nat) (hj : j < 12) : (Instr.index 63 (.agg (bs.map Value.bool).toArray) (.int .i64 (j : Int))).run Try.prog w = .ok (.bool (bs.getD j false)) w := by
  have h0 : (0 : Int) ≤ (j : Int) := by omega
  have h1 : (j : Int) < ((12 : Nat) : Int) := by omega
  have h2 : (bs.map Value.bool)[j]? = some (.bool (bs.getD j false)) := by rw [List.getElem?_map, H.getD_some false (by omega)]; rfl
  have hi : (Try.prog.info? 4).map (·.size) = some 1 := by kernel_rfl
  obtain ⟨i, hq, hs⟩ := Option.map_eq_some_iff.1 hi
  simp [Instr.index, run_underlying Try.underlying63, run_underlying Try.underlying4, asIntOf, h0, h1, part, isAgg, sizeOf, typeInfo, hq, hs, Sem.run_bind, go_sem]
  obtain ⟨v, hv⟩ : ∃ v, bs[j]? = some v := ⟨_, List.getElem?_eq_getElem (by omega)⟩
  rw [if_pos hj, hv]
  rfl
set_option maxHeartbeats 8000000 in
set_option maxRecDepth 100000 in
theorem impl_frontiers.calls (p : Addr) (A0 : Option Addr) (c0 : Nat) (g : List (List Int)) (w : World) (hp0 : w.cell? p = some (.slice A0 g.length c0)) (hr0 : Kd.C (Kd.slice 3 (Kd.int .i64)) w A0 g.length g) (hG : H.goodG g = true) :
    Calls Try.prog 59 #[.pointer (some p)] w fun e w' => ∃ gm, e = .returned (.slice (some ⟨gm, 0, none⟩) g.length g.length) ∧ H.Own w w' [(gm, H.bcells (H.froF g).flatten, 63)] := by
  have hr := H.goodG_rows hG
  have HP0 := Aside0.mk hp0
  have HR0 := Aside0.mk hr0
  have HI := Aside0.mk (show (Try.prog.info? 63).map (·.size) = some 12 by kernel_rfl)
  have HO := Aside0.mk (H.Own.nil w)
  have hn1 : 1 ≤ g.length := hr.1.1
  have hn2 : g.length ≤ 12 := hr.1.2
  have HDO := Aside0.mk (fun (W : World) (hO : Below w.heap.size w W) => impl_dominators.calls p A0 c0 g W ((hO.cell (World.block_lt_of_cell? w _ HP0.out)).trans HP0.out) (Kd.C_below HR0.out hO) hG)
  have HPR := Aside0.mk (fun (W : World) (hO : Below w.heap.size w W) => impl_preds.calls p A0 c0 g W ((hO.cell (World.block_lt_of_cell? w _ HP0.out)).trans HP0.out) (Kd.C_below HR0.out hO) hG)
  have HDM : Aside0 (H.Mat 12 (H.domF g)) := ⟨H.matF_mat _ _⟩
  have HDL : Aside0 ((H.domF g).length = g.length) := ⟨H.matF_len _ _⟩
  have HPM : Aside0 (H.Mat 12 (H.prdF g)) := ⟨H.matF_mat _ _⟩
  have HPL : Aside0 ((H.prdF g).length = g.length) := ⟨H.matF_len _ _⟩
  have HNO := Aside0.mk (fun (x y q : Nat) (hy : y < g.length) (hq : q < 12) (h : ((H.prdF g).getD y []).getD q false = false) => H.froE_no g (x := x) hy hq h)
  have HYES := Aside0.mk (fun (x y q : Nat) (hy : y < g.length) (hq : q < 12) (hx : x < 12) (h : ((H.prdF g).getD y []).getD q false = true) => H.froE_yes g hy hq hx h)
  obtain ⟨D, hD⟩ : ∃ D, H.domF g = D := ⟨_, rfl⟩
  obtain ⟨PR, hPR⟩ : ∃ PR, H.prdF g = PR := ⟨_, rfl⟩
  rw [hD] at HDM HDL HDO HYES
  rw [hPR] at HPM HPL HPR HNO HYES
  have hmk : ∀ W : World, (Instr.makeSlice 68 (.int .i64 (g.length : Int)) (.int .i64 (g.length : Int))).run Try.prog W = .ok (.slice (some ⟨W.heap.size, 0, none⟩) g.length g.length) (W.alloc (.cells (H.bcells (List.replicate g.length H.none12).flatten) 63)) := fun W => make_sets W g.length (by omega)
  clear hr hr0 hG hD hPR
  go_enter Try.func59, Try.ntmps59
  go_wp2_with (first | ((with_reducible refine gate_dst (N := 15) rfl ?_); refine H.own_make HO.out ?bxg (N := 15) ?bxd (n := g.length) (cs := H.bcells (List.replicate g.length H.none12).flatten) (t := 63) ?bxr ?_; (case bxd => rfl); (case bxg => rfl); (case bxr => first | (go_simp; done) | (go_simp; rfl)); intro gs w_ ho_ hb_; clear hmk; replace HO := Aside0.mk ho_; clear ho_ hb_) | (go_at_call 54; refine (HDO.out _ HO.out.below).mono ?_; rintro e w' ⟨gd, rfl, ho⟩; replace HO := Aside0.mk (HO.out.join ho); clear ho hp0) | (go_at_call 61; refine (HPR.out _ HO.out.below).mono ?_; rintro e w' ⟨gq, rfl, ho⟩; replace HO := Aside0.mk (HO.out.join ho); clear ho))
  go_loopw [22] (fun v22 wr => ∃ x : Nat, v22 = .int .i64 x ∧ x ≤ g.length ∧ Aside0 (H.Own w wr [(gs, H.bcells (H.froTo g x 0 0).flatten, 63), (gd, H.bcells D.flatten, 63), (gq, H.bcells PR.flatten, 63)])) (fun v22 _ => g.length - (intOf v22).toNat)
  case atStart => exact ⟨0, rfl, Nat.zero_le _, ⟨by rw [H.froTo_zero]; exact HO.out⟩⟩
  case round =>
    clear HO
    obtain ⟨x, rfl, hx, HO⟩ := hrel
    by_cases hlt : x < g.length
    · have hxg : (x : Int) < (g.length : Int) := by omega
      have hx12 : (x : Int) < 12 := by omega
      have HX := Aside0.mk hlt
      have HRO := Aside0.mk (H.froTo_row g x)
      go_wp2
      go_loopw [27] (fun v27 wr => ∃ y : Nat, v27 = .int .i64 y ∧ y ≤ g.length ∧ Aside0 (H.Own w wr [(gs, H.bcells (H.froTo g x y 0).flatten, 63), (gd, H.bcells D.flatten, 63), (gq, H.bcells PR.flatten, 63)])) (fun v27 _ => g.length - (intOf v27).toNat)
      case atStart => exact ⟨0, rfl, Nat.zero_le _, HO⟩
      case round =>
        clear HO
        obtain ⟨y, rfl, hy, HO⟩ := hrel
        by_cases hlt2 : y < g.length
        · have hyg : (y : Int) < (g.length : Int) := by omega
          have hy12 : (y : Int) < 12 := by omega
          have HY := Aside0.mk hlt2
          have HCO := Aside0.mk (H.froTo_col g x y hlt2)
          have HYP := Aside0.mk (show y < PR.length by rw [HPL.out]; exact hlt2)
          have HYD := Aside0.mk (show y < D.length by rw [HDL.out]; exact hlt2)
          have HRW := Aside0.mk (HPM.out.row HYP.out)
          have HN2 := Aside0.mk (fun q hq h => HNO.out x y q hlt2 hq h)
          have HY2 := Aside0.mk (fun q hq h => HYES.out x y q hlt2 hq (by omega) h)
          obtain ⟨row, hrow⟩ : ∃ row, PR.getD y [] = row := ⟨_, rfl⟩
          rw [hrow] at HRW HN2 HY2
          have HROW := Aside0.mk hrow
          clear hrow
          go_wp2_with ((with_reducible refine gate_dst (N := 33) rfl ?_); refine wpList_load_mid rfl 63 (.tmp 32) rfl gq (y * 12) rfl (row.map Value.bool) _ (by rw [← HROW.out]; exact HO.out.mrange 2 (n := 12) rfl HPM.out HYP.out) Try.underlying63 rfl (by rw [List.length_map, HRW.out]; exact HI.out) ?_)
          go_loopw [34] (fun v34 wr => ∃ i : Nat, v34 = .int .i64 i ∧ i ≤ 12 ∧ Aside0 (H.Own w wr [(gs, H.bcells (H.froTo g x y i).flatten, 63), (gd, H.bcells D.flatten, 63), (gq, H.bcells PR.flatten, 63)])) (fun v34 _ => 12 - (intOf v34).toNat)
          case atStart => exact ⟨0, rfl, Nat.zero_le _, HO⟩
          case round =>
            clear HO
            obtain ⟨i, rfl, hi, HO⟩ := hrel
            by_cases hlt3 : i < 12
            · have hi12 : (i : Int) < 12 := by omega
              have hidx := run_idx12f wr row HRW.out i hlt3
              have hn := HN2.out i hlt3
              have hye := HY2.out i hlt3
              obtain ⟨bit, hbt⟩ : ∃ bit, row.getD i false = bit := ⟨_, rfl⟩
              rw [hbt] at hidx hn hye
              clear hbt
              cases bit with
              | false =>
                have HNX := Aside0.mk (H.froTo_skip g (hn rfl))
                clear hn hye
                go_wp2
                go_roundw
                case rel => exact ⟨i + 1, by go_num, by omega, ⟨by rw [HNX.out]; exact HO.out⟩⟩
                case measure => simp [intOf]; omega
              | true =>
                obtain ⟨hin, hE⟩ := hye rfl
                have hig : (i : Int) < (g.length : Int) := by omega
                have hb1 := HO.out.mat 1 (n := 12) rfl HDM.out (show i < D.length by rw [HDL.out]; exact hin) (show x < 12 by omega)
                obtain ⟨b1, hb1e⟩ : ∃ b, (D.getD i []).getD x false = b := ⟨_, rfl⟩
                rw [hb1e] at hb1 hE
                clear hn hye hin hb1e
                cases b1 with
                | false =>
                  have HNX := Aside0.mk (H.froTo_skip g (hE.trans (Bool.false_and _)))
                  clear hE
                  go_wp2
                  go_roundw
                  case rel => exact ⟨i + 1, by go_num, by omega, ⟨by rw [HNX.out]; exact HO.out⟩⟩
                  case measure => simp [intOf]; omega
                | true =>
                  rw [Bool.true_and] at hE
                  by_cases hxy : x = y
                  · have HNX := Aside0.mk (H.froTo_put g HX.out (hE.trans (by rw [decide_eq_true hxy, Bool.true_or])))
                    subst hxy
                    clear hE
                    go_wp2_with ((with_reducible refine gate_store (t := 4) (p := 65) rfl ?_); refine H.own_mput HO.out 0 (n := 12) rfl (H.froTo_mat g x x i) rfl rfl rfl rfl rfl (by kernel_rfl) (by rw [H.froTo_len]; exact HX.out) (by omega) ?_; intro w_ ho_ hg_; replace HO := Aside0.mk ho_; clear ho_ hg_)
                    go_roundw
                    case rel => exact ⟨i + 1, by go_num, by omega, ⟨by rw [← HNX.out]; exact HO.out⟩⟩
                    case measure => simp [intOf]; omega
                  · have hb2 := HO.out.mat 1 (n := 12) rfl HDM.out HYD.out (show x < 12 by omega)
                    obtain ⟨b2, hb2e⟩ : ∃ b, (D.getD y []).getD x false = b := ⟨_, rfl⟩
                    rw [hb2e] at hb2 hE
                    have hxe : ((x : Int) == (y : Int)) = false := beq_eq_false_iff_ne.2 (by omega)
                    rw [decide_eq_false hxy, Bool.false_or] at hE
                    clear hb2e hxy
                    cases b2 with
                    | true =>
                      have HNX := Aside0.mk (H.froTo_skip g hE)
                      clear hE
                      go_wp2
                      go_roundw
                      case rel => exact ⟨i + 1, by go_num, by omega, ⟨by rw [HNX.out]; exact HO.out⟩⟩
                      case measure => simp [intOf]; omega
                    | false =>
                      have HNX := Aside0.mk (H.froTo_put g HX.out hE)
                      clear hE
                      go_wp2_with ((with_reducible refine gate_store (t := 4) (p := 65) rfl ?_); refine H.own_mput HO.out 0 (n := 12) rfl (H.froTo_mat g x y i) rfl rfl rfl rfl rfl (by kernel_rfl) (by rw [H.froTo_len]; exact HX.out) (by omega) ?_; intro w_ ho_ hg_; replace HO := Aside0.mk ho_; clear ho_ hg_)
                      go_roundw
                      case rel => exact ⟨i + 1, by go_num, by omega, ⟨by rw [← HNX.out]; exact HO.out⟩⟩
                      case measure => simp [intOf]; omega
            · have hE : i = 12 := by omega
              subst hE
              go_wp2
              go_roundw
              case rel => exact ⟨y + 1, by go_num, by omega, ⟨by rw [← HCO.out]; exact HO.out⟩⟩
              case measure => simp [intOf]; omega
        · have hE : y = g.length := by omega
          subst hE
          go_wp2
          go_roundw
          case rel => exact ⟨x + 1, by go_num, by omega, ⟨by rw [← HRO.out]; exact HO.out⟩⟩
          case measure => simp [intOf]; omega
    · have hE : x = g.length := by omega
      subst hE
      go_wp2
      go_ret
      exact ⟨gs, rfl, by rw [← H.froTo_last]; exact HO.out.take (by simp)⟩
end Go.Proofs.Ytndkblahnihhjaa.P

namespace Go.Proofs.Ytndkblahnihhjaa.P
open Go.RowKit Go.Proofs.YtndkblahnihhjaaW.PrintWords Go.Proofs.YtndkblahnihhjaaW.PrintLast Go.Proofs.YtndkblahnihhjaaW.PrintMore
attribute [local go_sem] max2_int min2_int max_two min_two max_three min_three max_four min_four
set_option maxHeartbeats 8000000 in
set_option maxRecDepth 100000 in
theorem impl_joins.calls (p : Addr) (A0 : Option Addr) (c0 : Nat) (g : List (List Int)) (AL : Option Addr) (cL : Nat) (l : List Int) (w : World) (hp0 : w.cell? p = some (.slice A0 g.length c0)) (hr0 : Kd.C (Kd.slice 3 (Kd.int .i64)) w A0 g.length g) (hG : H.goodG g = true) (hrl : Kd.C (Kd.int .i64) w AL l.length l) (hcl : l.length ≤ cL) (hrng : ∀ y ∈ l, 0 ≤ y ∧ y < (g.length : Int)) (hln : l.length ≤ 12) :
    Calls Try.prog 47 #[.pointer (some p), .slice AL l.length cL] w fun e w' => e = .returned (.agg (H.bcells (Q.joinsF (Q.froL g) l))) ∧ Below w.heap.size w w' := by
  have hr := H.goodG_rows hG
  have hn1 : 1 ≤ g.length := hr.1.1
  have hn2 : g.length ≤ 12 := hr.1.2
  have HP0 := Aside0.mk hp0
  have HR0 := Aside0.mk hr0
  have HRL := Aside0.mk hrl
  have HI := Aside0.mk (show (Try.prog.info? 63).map (·.size) = some 12 by kernel_rfl)
  have HN := Aside0.mk (show H.none12.length = 12 from rfl)
  have HO := Aside0.mk (H.Own.nil w)
  have HFR := Aside0.mk (fun (W : World) (hO : Below w.heap.size w W) => impl_frontiers.calls p A0 c0 g W ((hO.cell (World.block_lt_of_cell? w _ HP0.out)).trans HP0.out) (Kd.C_below HR0.out hO) hG)
  obtain ⟨hb, hjs⟩ := Q.joins_some (Q.froL_row12 hn2) (fun y hy => ⟨(hrng y hy).1, by have := (hrng y hy).2; omega⟩) hln
  have HTY := Aside0.mk hrng
  have HMM : Aside0 (H.Mat 12 (H.froF g)) := ⟨H.matF_mat _ _⟩
  have HML : Aside0 ((H.froF g).length = g.length) := ⟨H.matF_len _ _⟩
  have HAT := Aside0.mk (fun x => Q.froL_at (g := g) x)
  have HBG := Aside0.mk (fun (x j : Nat) (hx : x < g.length) (hj : j < 12) (h : ((H.froF g).getD x []).getD j false = true) => show j < g.length by
    unfold H.froF at h
    rw [H.matF_row hx, H.rowF_get hj] at h
    unfold H.froV at h
    simp only [Bool.and_eq_true, decide_eq_true_eq] at h
    exact h.1)
  obtain ⟨M, hM⟩ : ∃ M, H.froF g = M := ⟨_, rfl⟩
  rw [hM] at HMM HML HAT HFR HBG
  generalize Q.froL g = fl at hb HAT ⊢
  generalize Q.joinsF fl l = R at hb ⊢
  have HBF := Aside0.mk hb
  have hlr := hrl.2.1
  have HOF := Aside0.mk (show l.length + H.off H.none12 ≤ 24 by have := H.off_le H.none12; have := HN.out; omega)
  clear hr hr0 hrl hp0 hG hjs hM hb hrng
  go_enter Try.func47, Try.ntmps47
  go_wp2_with (first | ((with_reducible refine gate_dst (N := 4) rfl ?_); refine H.own_box HO.out ?bxg (N := 4) ?bxd (cs := H.bcells H.none12) (t := 63) ?bxr ?_; (case bxd => rfl); (case bxg => rfl); (case bxr => first | (go_simp; done) | (go_simp; rfl)); intro ga w_ ho_ hb_; replace HO := Aside0.mk ho_; clear ho_ hb_) | ((with_reducible refine gate_dst (N := 5) rfl ?_); refine H.own_box HO.out ?bxg (N := 5) ?bxd (cs := H.bcells H.none12) (t := 63) ?bxr ?_; (case bxd => rfl); (case bxg => rfl); (case bxr => first | (go_simp; done) | (go_simp; rfl)); intro gb w_ ho_ hb_; replace HO := Aside0.mk ho_; clear ho_ hb_) | ((with_reducible refine gate_store (t := 63) (p := 5) rfl ?_); refine H.own_ball HO.out 1 (bs' := H.none12) rfl rfl rfl rfl rfl rfl HI.out rfl ?_; intro w_ ho_ hg_; replace HO := Aside0.mk ho_; clear ho_ hg_) | (go_at_call 59; refine (HFR.out _ HO.out.below).mono ?_; rintro e w' ⟨gm, rfl, ho⟩; replace HO := Aside0.mk (HO.out.join ho); clear ho) | ((with_reducible refine gate_dst (N := 13) rfl ?_); refine Kd.R_lit (Kd.int .i64) (w0 := w) w.heap.size 3 ?bxg (N := 13) ?bxd (xs := ([] : List Int)) (inner := []) (ok := fun _ => True) (okp := fun _ => True) ?bxr ?bxp (fun _ hk => hk) trivial HO.out.below HO.out.size (by simp) ?_; (case bxd => rfl); (case bxg => rfl); (case bxr => first | (go_simp; done) | (go_simp; rfl)); (case bxp => exact Reps.none _ _); intro v13 w_ ho_ hb_ hg_ hnew_; replace HO := Aside0.mk (HO.out.grown hg_ (fun k hk => by cases hk)); have HE := Aside0.mk ho_; clear ho_ hb_ hg_ hnew_) | ((with_reducible refine gate_builtin (b := .append) (xs := #[.tmp 13, .tmp 14]) rfl ?_); at_builtin; refine Kd.R_append_rows (Kd.int .i64) (w0 := w) w.heap.size rfl (.tmp 13) (.tmp 14) 32 3 (.int .i64 0) 8 rfl Try.underlying32 info3 rfl (by decide) (by omega) v13 [] l _ _ _ (fun _ => True) (fun _ => False) rfl rfl ?aO ?aR (fun _ _ h => h) (fun _ h => h.elim) ?aF ?aB ?aS ?aL ?_; (case aO => exact HE.out); (case aR => exact Kd.C_below HRL.out HO.out.below); (case aF => exact fun _ _ => trivial); (case aB => exact HO.out.below); (case aS => exact HO.out.size); (case aL => simp only [List.length_nil]; omega); intro v7 w_ ho_ hb_ hg_ hat_; replace HO := Aside0.mk (HO.out.row HE.out (Nat.le_refl _) hg_ (by simp)); rw [List.nil_append] at ho_; have HQ := Aside0.mk (Kd.Q_of_R ho_); clear ho_ hb_ hg_ hat_ HE))
  go_loopg [7] 26 (fun kq v7 wr => ∃ (todo : List Int) (out : List Bool), Aside0 (H.bfs fl (-1) kq todo out = some R) ∧ Aside0 (kq ≤ 26) ∧ Aside0 (out.length = 12) ∧ Aside0 (∀ y ∈ todo, 0 ≤ y ∧ y < (g.length : Int)) ∧ Aside0 (todo.length + H.off out ≤ 24) ∧ Aside0 ((Kd.int .i64).Q 3 wr w.heap.size (fun _ => True) v7 todo) ∧ Aside0 (H.Own w wr [(ga, H.bcells H.none12, 63), (gb, H.bcells out, 63), (gm, H.bcells M.flatten, 63)]))
  case atStart => exact ⟨l, _, HBF, ⟨Nat.le_refl _⟩, HN, HTY, HOF, HQ, HO⟩
  case round =>
    clear HO HQ HBF HOF HTY
    obtain ⟨todo, out, HA, HK, HOL, HTY, HOF, HQ, HO⟩ := hrel
    cases gk with
    | zero => exact absurd HA.out (by simp [H.bfs])
    | succ k1 =>
      cases todo with
      | nil =>
        have hA := Option.some.inj HA.out
        subst hA
        obtain ⟨Aq, cq, rfl, _⟩ := Kd.Q_slice HQ.out
        go_wp2_with (first | ((with_reducible refine gate_dst (N := 45) rfl ?_); refine wpList_load_row rfl 63 (.tmp 5) rfl _ rfl 63 _ (0, 0) _ (HO.out.get 1 rfl) Try.underlying63 rfl (by rw [H.bcells_size, HOL.out]; exact HI.out) ?_) | ((with_reducible refine gate_store (t := 63) (p := 4) rfl ?_); refine H.own_ball HO.out 0 (bs' := out) rfl rfl rfl rfl rfl rfl HI.out HOL.out ?_; intro w_ ho_ hg_; replace HO := Aside0.mk ho_; clear ho_ hg_))
        (try simp only [Exit.inBlock, Exit.then])
        refine bodyPost_ret (results_cell_row rfl _ _ ga _ (H.bcells out) (0, 0) _ rfl (HO.out.get 0 rfl) Try.underlying63 rfl (by rw [H.bcells_size, HOL.out]; exact HI.out)) rfl ?_
        exact ⟨rfl, HO.out.below⟩
      | cons x todo =>
        have hA := HA.out
        simp only [H.bfs] at hA
        have hx := HTY.out x (by simp)
        obtain ⟨x0, rfl⟩ : ∃ k : Nat, x = (k : Int) := ⟨x.toNat, by omega⟩
        rw [Int.toNat_natCast, HAT.out] at hA
        have HXM := Aside0.mk (show x0 < M.length by rw [HML.out]; omega)
        have HRW := Aside0.mk (HMM.out.row HXM.out)
        have HBN := Aside0.mk (fun j hj => HBG.out x0 j (by omega) hj)
        obtain ⟨row, hrow⟩ : ∃ row, M.getD x0 [] = row := ⟨_, rfl⟩
        rw [hrow] at hA HRW HBN
        have HROW := Aside0.mk hrow
        obtain ⟨gq, oq, cq, rfl, _, _, _⟩ := Kd.Q_form HQ.out (by simp)
        have hnp : (0 : Int) < (((x0 : Int) :: todo).length : Int) := by simp only [List.length_cons]; omega
        generalize hnq : ((x0 : Int) :: todo).length = nq at HQ HOF hnp ⊢
        have HNQ := Aside0.mk hnq
        have hnb : decide (0 < nq) = true := decide_eq_true (by omega)
        have hxq := (Kd.Q_cell 0 HQ.out 0 (by decide) (by omega)).1
        rw [show rdOf 0 ((x0 : Int) :: todo) 0 = (x0 : Int) from rfl, show oq + (0 : Int).toNat = oq from rfl] at hxq
        have HA' := Aside0.mk hA
        have hx0 : (0 : Int) ≤ (x0 : Int) := by omega
        have hx1 : (x0 : Int) < (g.length : Int) := hx.2
        clear hA HA hx hrow hnq
        go_wp2_with ((with_reducible refine gate_dst (N := 26) rfl ?_); refine wpList_load_mid rfl 63 (.tmp 25) rfl gm (x0 * 12) rfl (row.map Value.bool) _ (by rw [← HROW.out]; exact HO.out.mrange 2 (n := 12) rfl HMM.out HXM.out) Try.underlying63 rfl (by rw [List.length_map, HRW.out]; exact HI.out) ?_)
        replace HQ := Aside0.mk (show (Kd.int .i64).Q 3 wr w.heap.size (fun _ => True) (.slice (some ⟨gq, oq, none⟩) nq cq) ((x0 : Int) :: todo) from HQ.out)
        go_loopw [27, 7] (fun v27 v7 wr => ∃ (i : Nat) (out2 : List Bool) (todo2 : List Int), v27 = .int .i64 i ∧ i ≤ 12 ∧ Aside0 (H.visits (-1) (Q.lfrom row i) (out2, todo2) = H.visits (-1) (listTo row 12) (out, (x0 : Int) :: todo)) ∧ Aside0 (out2.length = 12) ∧ Aside0 (1 ≤ todo2.length ∧ ∀ y ∈ todo2, 0 ≤ y ∧ y < (g.length : Int)) ∧ Aside0 (todo2.length + H.off out2 ≤ 24) ∧ Aside0 ((Kd.int .i64).Q 3 wr w.heap.size (fun _ => True) v7 todo2) ∧ Aside0 (H.Own w wr [(ga, H.bcells H.none12, 63), (gb, H.bcells out2, 63), (gm, H.bcells M.flatten, 63)])) (fun v27 _ _ => 12 - (intOf v27).toNat)
        case atStart => exact ⟨0, out, _, rfl, Nat.zero_le _, ⟨by rw [Q.lfrom_zero]⟩, HOL, ⟨⟨by simp, HTY.out⟩⟩, ⟨by rw [HNQ.out]; exact HOF.out⟩, HQ, HO⟩
        case round =>
          clear HO HQ HOF HTY HOL hxq
          obtain ⟨i, out2, todo2, rfl, hi, HV, HOL, HTY, HOF, HQ, HO⟩ := hrel
          by_cases hlt : i < 12
          · have hv := HV.out
            rw [Q.lfrom_step row hlt] at hv
            have hi12 : (i : Int) < 12 := by omega
            have HIL := Aside0.mk hlt
            have hidx := run_idx12f wr row HRW.out i hlt
            have hbn := HBN.out i hlt
            obtain ⟨bit, hbt⟩ : ∃ bit, row.getD i false = bit := ⟨_, rfl⟩
            rw [hbt] at hidx hv hbn
            clear hbt
            cases bit with
            | false =>
              rw [if_neg (by simp)] at hv
              have HV' := Aside0.mk hv
              clear hv HV hbn
              go_wp2
              go_roundw
              case rel => exact ⟨i + 1, out2, todo2, by go_num, by omega, HV', HOL, HTY, HOF, HQ, HO⟩
              case measure => simp [intOf]; omega
            | true =>
              rw [if_pos rfl] at hv
              have hig := hbn rfl
              have hcy := HO.out.bat 1 rfl (j := i) (by rw [HOL.out]; exact hlt)
              cases hb : out2.getD i false with
              | true =>
                have hv2 : H.visits (-1) ((i : Int) :: Q.lfrom row (i + 1)) (out2, todo2) = H.visits (-1) (Q.lfrom row (i + 1)) (out2, todo2) := by
                  show H.visits (-1) _ (H.visit (-1) (out2, todo2) (i : Int)) = _
                  unfold H.visit
                  rw [if_neg (by rw [Int.toNat_natCast, hb]; simp)]
                rw [hv2] at hv
                rw [hb] at hcy
                have HV' := Aside0.mk hv
                clear hv hv2 hb HV hbn
                go_wp2
                go_roundw
                case rel => exact ⟨i + 1, out2, todo2, by go_num, by omega, HV', HOL, HTY, HOF, HQ, HO⟩
                case measure => simp [intOf]; omega
              | false =>
                rw [hb] at hcy
                have hv2 : H.visits (-1) ((i : Int) :: Q.lfrom row (i + 1)) (out2, todo2) = H.visits (-1) (Q.lfrom row (i + 1)) (out2.set i true, todo2 ++ [(i : Int)]) := by
                  show H.visits (-1) _ (H.visit (-1) (out2, todo2) (i : Int)) = _
                  unfold H.visit
                  rw [if_pos ⟨by rw [Int.toNat_natCast]; exact hb, by omega⟩, Int.toNat_natCast]
                rw [hv2] at hv
                have hoff := H.off_set (bs := out2) (j := i) (by rw [HOL.out]; exact hlt) hb
                have HV' := Aside0.mk hv
                have HOF' := Aside0.mk (show (todo2 ++ [(i : Int)]).length + H.off (out2.set i true) ≤ 24 by rw [List.length_append]; have := HOF.out; simp only [List.length_cons, List.length_nil]; omega)
                have HTY' := Aside0.mk (show 1 ≤ (todo2 ++ [(i : Int)]).length ∧ ∀ y ∈ todo2 ++ [(i : Int)], 0 ≤ y ∧ y < (g.length : Int) from ⟨by simp, fun y hy => by
                  rcases List.mem_append.1 hy with e | e
                  · exact HTY.out.2 y e
                  · rw [List.mem_singleton.1 e]; omega⟩)
                clear hv hv2 hb HV hoff hbn hig
                go_wp2_with (first | ((with_reducible refine gate_store (t := 4) (p := 39) rfl ?_); refine H.own_bput HO.out 1 rfl rfl rfl rfl rfl rfl (by kernel_rfl) (by rw [HOL.out]; exact HIL.out) ?_; intro w_ ho_ hg_; replace HQ := Aside0.mk (HO.out.keepQ 1 rfl HQ.out hg_ (by decide)); clear hcy; replace HO := Aside0.mk ho_; clear ho_ hg_) | ((with_reducible refine gate_builtin (b := .append) (xs := #[.tmp 40, .tmp 42]) rfl ?_); at_builtin; refine Kd.Q_append (Kd.int .i64) (w0 := w) w.heap.size rfl (.tmp 40) (.tmp 42) 32 3 (.int .i64 0) 8 rfl Try.underlying32 info3 rfl (by decide) (by omega) u7 todo2 (i : Int) [.int .i64 (i : Int)] (fun _ => True) (fun _ => False) rfl rfl ?aP (fun _ hk => hk.elim) ?aF ?aO ?aB ?aS ?aL ?_; (case aP => exact rfl); (case aF => exact fun _ _ => trivial); (case aO => exact HQ.out); (case aB => exact HO.out.below); (case aS => exact HO.out.size); (case aL => have := HOF.out; omega); intro v1 w_ ho_ hb_ hg_ hat_; replace HO := Aside0.mk (HO.out.rowQ HQ.out (Nat.le_refl _) hg_ (by simp)); replace HQ := Aside0.mk ho_; clear ho_ hb_ hg_ hat_))
                go_roundw
                case rel => exact ⟨i + 1, _, _, by go_num, by omega, HV', ⟨by rw [List.length_set]; exact HOL.out⟩, HTY', HOF', HQ, HO⟩
                case measure => simp [intOf]; omega
          · have hE : i = 12 := by omega
            subst hE
            have hv := HV.out
            rw [Q.lfrom_end] at hv
            have hA := HA'.out
            rw [← hv] at hA
            have HA := Aside0.mk (show H.bfs fl (-1) k1 (todo2.drop 1) out2 = some R from hA)
            have h2 := HTY.out.1
            clear hv hA HV HA'
            obtain ⟨gq2, oq2, cq2, rfl, _, _, _⟩ := Kd.Q_form HQ.out (by omega)
            obtain ⟨ti, hti, hz⟩ := Option.map_eq_some_iff.1 info3
            simp only [Prod.mk.injEq] at hz
            have hq := Kd.Q_drop (k := 1) HQ.out h2
            have hcut : ∀ W : World, (Instr.slice 32 (.slice (some ⟨gq2, oq2, none⟩) todo2.length cq2) (some (.int .i64 1)) none none).run Try.prog W = .ok (.slice (if cq2 = 1 then some ⟨gq2, oq2, none⟩ else (some (⟨gq2, oq2, none⟩ : Addr)).map (·.add (1 * (Kd.int .i64).sz))) (todo2.length - 1) (cq2 - 1)) W := cut_from 32 3 .i64 Try.underlying32 hti 1 hz.2.1 _ _ _ 1 (by decide) (by omega)
            generalize (if cq2 = 1 then some ⟨gq2, oq2, none⟩ else (some (⟨gq2, oq2, none⟩ : Addr)).map (·.add (1 * (Kd.int .i64).sz))) = A2 at hq hcut
            have HQ2 := Aside0.mk hq
            clear hq hti hz HQ
            go_wp2
            go_roundg k1
            case measure => have := HK.out; omega
            case rel => exact ⟨todo2.drop 1, out2, HA, ⟨by have := HK.out; omega⟩, HOL, ⟨fun y hy => HTY.out.2 y (List.mem_of_mem_drop hy)⟩, ⟨by have := HOF.out; rw [List.length_drop]; omega⟩, HQ2, HO⟩
end Go.Proofs.Ytndkblahnihhjaa.P

namespace Go.Proofs.Ytndkblahnihhjaa.P
open Go.RowKit Go.Proofs.YtndkblahnihhjaaW.PrintWords Go.Proofs.YtndkblahnihhjaaW.PrintLast Go.Proofs.YtndkblahnihhjaaW.PrintMore
attribute [local go_sem] max2_int min2_int max_two min_two max_three min_three max_four min_four
def andF (bs : List Bool) (l : List Int) : List Bool := l.foldl (fun bs y => bs.set y.toNat true) bs
theorem andF_len : ∀ (l : List Int) (bs : List Bool), (andF bs l).length = bs.length
  | [], _ => rfl
  | y :: l, bs => by
    show (andF (bs.set y.toNat true) l).length = _
    rw [andF_len l, List.length_set]
theorem andF_get : ∀ (l : List Int) (bs : List Bool) (j : Nat), j < bs.length → (∀ y ∈ l, 0 ≤ y) → ((andF bs l).getD j false = true ↔ (bs.getD j false = true ∨ (j : Int) ∈ l))
  | [], bs, j, _, _ => by simp [andF]
  | y :: l, bs, j, hj, h0 => by
    show (andF (bs.set y.toNat true) l).getD j false = true ↔ _
    have hy := h0 y (by simp)
    rw [andF_get l _ j (by rw [List.length_set]; exact hj) (fun z hz => h0 z (by simp [hz])), List.mem_cons]
    by_cases e : y.toNat = j
    · have h1 : (bs.set y.toNat true).getD j false = true := by
        rw [List.getD_eq_getElem?_getD, List.getElem?_set, if_pos e, if_pos (by omega)]
        rfl
      have h2 : (j : Int) = y := by omega
      exact ⟨fun _ => .inr (.inl h2), fun _ => .inl h1⟩
    · have h1 : (bs.set y.toNat true).getD j false = bs.getD j false := by rw [List.getD_eq_getElem?_getD, List.getElem?_set_ne e, ← List.getD_eq_getElem?_getD]
      have h2 : ¬ (j : Int) = y := by omega
      rw [h1]
      constructor
      · rintro (h | h)
        · exact .inl h
        · exact .inr (.inr h)
      · rintro (h | h | h)
        · exact .inl h
        · exact absurd h h2
        · exact .inr h
set_option maxHeartbeats 8000000 in
set_option maxRecDepth 100000 in
theorem impl_and.calls (bs : List Bool) (AL : Option Addr) (cL : Nat) (l : List Int) (w : World) (hbs : bs.length = 12) (hrl : Kd.C (Kd.int .i64) w AL l.length l) (hcl : l.length ≤ cL) (hrng : ∀ y ∈ l, 0 ≤ y ∧ y < 12) :
    Calls Try.prog 48 #[.agg (H.bcells bs), .slice AL l.length cL] w fun e w' => e = .returned (.agg (H.bcells (andF bs l))) ∧ Below w.heap.size w w' := by
  have HRL := Aside0.mk hrl
  have HBL := Aside0.mk hbs
  have HRN := Aside0.mk hrng
  have HI := Aside0.mk (show (Try.prog.info? 63).map (·.size) = some 12 by kernel_rfl)
  have HO := Aside0.mk (H.Own.nil w)
  have hlr := hrl.2.1
  have HE := Aside0.mk (show andF bs l = andF bs (l.take l.length) by rw [List.take_length])
  have HST := Aside0.mk (fun i (hi : i < l.length) => show andF bs (l.take (i + 1)) = (andF bs (l.take i)).set (l.getD i 0).toNat true by
    have : l.take (i + 1) = l.take i ++ [l.getD i 0] := by rw [List.take_add_one, List.getElem?_eq_getElem hi, List.getD_eq_getElem?_getD, List.getElem?_eq_getElem hi]; rfl
    rw [this]
    unfold andF
    rw [List.foldl_append]
    rfl)
  have HAL := Aside0.mk (fun i => (andF_len (l.take i) bs).trans hbs)
  obtain ⟨fin, hfin⟩ : ∃ fin, andF bs l = fin := ⟨_, rfl⟩
  rw [hfin] at HE ⊢
  clear hrl hbs hrng hfin
  go_enter Try.func48, Try.ntmps48
  go_wp2_with (first | ((with_reducible refine gate_dst (N := 2) rfl ?_); refine H.own_box HO.out ?bxg (N := 2) ?bxd (cs := H.bcells bs) (t := 63) ?bxr ?_; (case bxd => rfl); (case bxg => rfl); (case bxr => first | (go_simp; done) | (go_simp; rfl)); intro gb w_ ho_ hb_; replace HO := Aside0.mk ho_; clear ho_ hb_) | ((with_reducible refine gate_dst (N := 4) rfl ?_); refine H.own_box HO.out ?bxg (N := 4) ?bxd (cs := H.bcells H.none12) (t := 63) ?bxr ?_; (case bxd => rfl); (case bxg => rfl); (case bxr => first | (go_simp; done) | (go_simp; rfl)); intro ga w_ ho_ hb_; replace HO := Aside0.mk ho_; clear ho_ hb_))
  go_loopw [9] (fun v9 wr => ∃ i : Nat, v9 = .int .i64 i ∧ i ≤ l.length ∧ Aside0 (H.Own w wr [(gb, H.bcells (andF bs (l.take i)), 63), (ga, H.bcells H.none12, 63)])) (fun v9 _ => l.length - (intOf v9).toNat)
  case atStart => exact ⟨0, rfl, Nat.zero_le _, HO⟩
  case round =>
    clear HO
    obtain ⟨i, rfl, hi, HO⟩ := hrel
    by_cases hlt : i < l.length
    · obtain ⟨ad, e1, hc⟩ := Kd.at_int HRL.out (i : Int) (by omega) (by omega)
      subst e1
      rw [Int.toNat_natCast] at hc
      have hd : rd l (i : Int) = l.getD i 0 := rfl
      rw [hd] at hc
      have hst := HST.out i hlt
      have hin := HRN.out _ (show l.getD i 0 ∈ l by rw [List.getD_eq_getElem?_getD, List.getElem?_eq_getElem hlt]; exact List.getElem_mem hlt)
      obtain ⟨x, hx⟩ : ∃ x : Nat, l.getD i 0 = (x : Int) := ⟨(l.getD i 0).toNat, by omega⟩
      rw [hx] at hc hst hin
      rw [Int.toNat_natCast] at hst
      have hcx := HO.out.old hc
      have HAT := Aside0.mk hst
      have HLI := Aside0.mk (HAL.out i)
      have hil : (i : Int) < (l.length : Int) := by omega
      have hx12 : (x : Int) < 12 := hin.2
      clear hd hc hst hx hin
      generalize andF bs (l.take i) = cur at HO HAT HLI
      go_wp2_with ((with_reducible refine gate_store (t := 4) (p := 14) rfl ?_); refine H.own_bput HO.out 0 rfl rfl rfl rfl rfl rfl (by kernel_rfl) (by rw [HLI.out]; omega) ?_; intro w_ ho_ hg_; replace HO := Aside0.mk ho_; clear ho_ hg_)
      go_roundw
      case rel => exact ⟨i + 1, by go_num, by omega, ⟨by rw [HAT.out]; exact HO.out⟩⟩
      case measure => simp [intOf]; omega
    · have hE : i = l.length := by omega
      subst hE
      rw [← HE.out] at HO
      have HLI := Aside0.mk ((congrArg List.length HE.out).trans (HAL.out l.length))
      go_wp2_with (first | ((with_reducible refine gate_dst (N := 16) rfl ?_); refine wpList_load_row rfl 63 (.tmp 2) rfl _ rfl 63 _ (0, 0) _ (HO.out.get 0 rfl) Try.underlying63 rfl (by rw [H.bcells_size, HLI.out]; exact HI.out) ?_) | ((with_reducible refine gate_store (t := 63) (p := 4) rfl ?_); refine H.own_ball HO.out 1 (bs' := fin) rfl rfl rfl rfl rfl rfl HI.out HLI.out ?_; intro w_ ho_ hg_; replace HO := Aside0.mk ho_; clear ho_ hg_))
      (try simp only [Exit.inBlock, Exit.then])
      refine bodyPost_ret (results_cell_row rfl _ _ ga _ (H.bcells fin) (0, 0) _ rfl (HO.out.get 1 rfl) Try.underlying63 rfl (by rw [H.bcells_size, HLI.out]; exact HI.out)) rfl ?_
      exact ⟨rfl, HO.out.below⟩
end Go.Proofs.Ytndkblahnihhjaa.P

namespace Go.Proofs.Ytndkblahnihhjaa.P
open Go.RowKit Go.Proofs.YtndkblahnihhjaaW.PrintWords Go.Proofs.YtndkblahnihhjaaW.PrintLast Go.Proofs.YtndkblahnihhjaaW.PrintMore
attribute [local go_sem] max2_int min2_int max_two min_two max_three min_three max_four min_four
def meetB (X Y : List Bool) : Bool := (List.range 12).any (fun k => X.getD k false && Y.getD k false)
def jnB (g : List (List Int)) (a : Int) : List Bool := andF (Q.joinsF (Q.froL g) [a]) [a]
def impl_MeetingOf.f (l0_0 : List (List Int)) (a1 a2 : Int) : Option (Bool × Bool) := some (if H.goodG l0_0 && (!decide (a1 = a2) && (rlF l0_0 [a1] && rlF l0_0 [a2])) then (meetB (jnB l0_0 a1) (jnB l0_0 a2), true) else (false, false))
set_option maxHeartbeats 8000000 in
set_option maxRecDepth 100000 in
theorem impl_MeetingOf.calls (A0_0 : Option Addr) (c0_0 : Nat) (l0_0 : List (List Int)) (a1 a2 : Int) (r1 r2 : Bool) (w : World) (hr0_0 : Kd.C (Kd.slice 3 (Kd.int .i64)) w A0_0 l0_0.length l0_0) (hc0_0 : l0_0.length ≤ c0_0) (h : impl_MeetingOf.f l0_0 a1 a2 = some (r1, r2)) :
    Calls Try.prog 11 #[.agg #[.slice A0_0 l0_0.length c0_0], .int .i64 a1, .int .i64 a2] w fun e w' => e = .returned (.tuple #[.bool r1, .bool r2]) ∧ Below w.heap.size w w' := by
  replace h := Option.some.inj h
  have HR0 := Aside0.mk hr0_0
  have HC0 := Aside0.mk hc0_0
  clear hr0_0 hc0_0
  have HO := Aside0.mk (H.Own.nil w)
  have HK := Aside0.mk (fun (W : World) (hb : Below w.heap.size w W) => impl_GoodGraph.calls A0_0 c0_0 l0_0 _ W (Kd.C_below HR0.out hb) HC0.out rfl)
  cases hgg : H.goodG l0_0 with
  | false =>
    rw [hgg, Bool.false_and, if_neg (by simp), Prod.mk.injEq] at h
    obtain ⟨rfl, rfl⟩ := h
    rw [hgg] at HK
    clear hgg
    go_enter Try.func11, Try.ntmps11
    go_wp2_with (first | ((with_reducible refine gate_dst (N := 3) rfl ?_); refine H.own_box HO.out ?bxg (N := 3) ?bxd (cs := #[Value.slice A0_0 l0_0.length c0_0]) (t := 28) ?bxr ?_; (case bxd => rfl); (case bxg => rfl); (case bxr => first | (go_simp; done) | (go_simp; rfl)); intro gp w_ ho_ hb_; replace HO := Aside0.mk ho_; clear ho_ hb_) | ((with_reducible refine gate_dst (N := 11) rfl ?_); refine wpList_load_row rfl 28 (.tmp 3) rfl _ rfl 28 _ (0, 0) _ (HO.out.get 0 rfl) Try.underlying28 rfl (by kernel_rfl) ?_) | (go_at_call 45; refine (HK.out _ HO.out.below).mono ?_; rintro e w' ⟨rfl, hb⟩; replace HO := Aside0.mk (HO.out.step hb); clear hb))
    go_ret2
    exact ⟨rfl, HO.out.below⟩
  | true =>
    rw [hgg, Bool.true_and] at h
    rw [hgg] at HK
    have hr := H.goodG_rows hgg
    have hn1 : 1 ≤ l0_0.length := hr.1.1
    have hn2 : l0_0.length ≤ 12 := hr.1.2
    have HG := Aside0.mk hgg
    have HRX := Aside0.mk (fun (a : Int) (p : Addr) (A : Option Addr) (c : Nat) (W : World) (hb : Below w.heap.size w W) (hp : W.cell? p = some (.slice A0_0 l0_0.length c0_0)) (hr1 : Kd.C (Kd.int .i64) W A [a].length [a]) (hc1 : [a].length ≤ c) => impl_reachedList.calls p A0_0 c0_0 l0_0 A c [a] W hp (Kd.C_below HR0.out hb) HG.out hr1 hc1)
    have HRA := Aside0.mk (HRX.out a1)
    have HRB := Aside0.mk (HRX.out a2)
    clear hgg hr
    by_cases he : a1 = a2
    · rw [decide_eq_true he, Bool.not_true, Bool.false_and, if_neg (by simp), Prod.mk.injEq] at h
      obtain ⟨rfl, rfl⟩ := h
      subst he
      go_enter Try.func11, Try.ntmps11
      go_wp2_with (first | ((with_reducible refine gate_dst (N := 3) rfl ?_); refine H.own_box HO.out ?bxg (N := 3) ?bxd (cs := #[Value.slice A0_0 l0_0.length c0_0]) (t := 28) ?bxr ?_; (case bxd => rfl); (case bxg => rfl); (case bxr => first | (go_simp; done) | (go_simp; rfl)); intro gp w_ ho_ hb_; replace HO := Aside0.mk ho_; clear ho_ hb_) | ((with_reducible refine gate_dst (N := 11) rfl ?_); refine wpList_load_row rfl 28 (.tmp 3) rfl _ rfl 28 _ (0, 0) _ (HO.out.get 0 rfl) Try.underlying28 rfl (by kernel_rfl) ?_) | (go_at_call 45; refine (HK.out _ HO.out.below).mono ?_; rintro e w' ⟨rfl, hb⟩; replace HO := Aside0.mk (HO.out.step hb); clear hb))
      go_ret2
      exact ⟨rfl, HO.out.below⟩
    · rw [decide_eq_false he, Bool.not_false, Bool.true_and] at h
      have hee : (a1 == a2) = false := beq_eq_false_iff_ne.2 he
      clear he
      cases ha : rlF l0_0 [a1] with
      | false =>
        rw [ha, Bool.false_and, if_neg (by simp), Prod.mk.injEq] at h
        obtain ⟨rfl, rfl⟩ := h
        rw [ha] at HRA
        clear ha
        go_enter Try.func11, Try.ntmps11
        go_wp2_with (first | ((with_reducible refine gate_dst (N := 3) rfl ?_); refine H.own_box HO.out ?bxg (N := 3) ?bxd (cs := #[Value.slice A0_0 l0_0.length c0_0]) (t := 28) ?bxr ?_; (case bxd => rfl); (case bxg => rfl); (case bxr => first | (go_simp; done) | (go_simp; rfl)); intro gp w_ ho_ hb_; replace HO := Aside0.mk ho_; clear ho_ hb_) | ((with_reducible refine gate_dst (N := 11) rfl ?_); refine wpList_load_row rfl 28 (.tmp 3) rfl _ rfl 28 _ (0, 0) _ (HO.out.get 0 rfl) Try.underlying28 rfl (by kernel_rfl) ?_) | (go_at_call 45; refine (HK.out _ HO.out.below).mono ?_; rintro e w' ⟨rfl, hb⟩; replace HO := Aside0.mk (HO.out.step hb); clear hb) | ((with_reducible refine gate_dst (N := 21) rfl ?_); (try (refine gate_guard (by rfl) ?_; dsimp only)); refine Kd.R_lit (Kd.int .i64) (w0 := w) w.heap.size 3 ?lg21 (N := 21) ?ld21 (xs := [a1]) (inner := [.int .i64 a1]) (ok := fun _ => True) (okp := fun _ => True) ?lr21 ?lp21 (fun _ hk => hk) trivial HO.out.below HO.out.size (by simp) ?_; (case ld21 => rfl); (case lg21 => rfl); (case lr21 => first | (go_simp; done) | (go_simp; rfl)); (case lp21 => exact Reps.snoc (Reps.none _ _) rfl rfl); intro v21 w_ ho_ hb_ hg_ hnew_; obtain ⟨A21, c21, e21⟩ := Kd.R_slice ho_; subst e21; replace HO := Aside0.mk (HO.out.grown hg_ (fun k hk => by cases hk)); have H21 := Aside0.mk ho_; clear ho_ hb_ hg_ hnew_) | (go_at_call 46; (refine (HRA.out _ _ _ _ HO.out.below (HO.out.cell 0 rfl 0) (Kd.R_reads' H21.out).2.2 (Kd.R_reads' H21.out).2.1).mono ?_; rintro e w' ⟨rfl, hb⟩; replace HO := Aside0.mk (HO.out.step hb); clear hb )))
        go_ret2
        exact ⟨rfl, HO.out.below⟩
      | true =>
        rw [ha, Bool.true_and] at h
        rw [ha] at HRA
        have har := Q.B.rl_rng ha
        cases hb : rlF l0_0 [a2] with
        | false =>
          rw [hb, if_neg (by simp), Prod.mk.injEq] at h
          obtain ⟨rfl, rfl⟩ := h
          rw [hb] at HRB
          clear ha hb har
          go_enter Try.func11, Try.ntmps11
          go_wp2_with (first | ((with_reducible refine gate_dst (N := 3) rfl ?_); refine H.own_box HO.out ?bxg (N := 3) ?bxd (cs := #[Value.slice A0_0 l0_0.length c0_0]) (t := 28) ?bxr ?_; (case bxd => rfl); (case bxg => rfl); (case bxr => first | (go_simp; done) | (go_simp; rfl)); intro gp w_ ho_ hb_; replace HO := Aside0.mk ho_; clear ho_ hb_) | ((with_reducible refine gate_dst (N := 11) rfl ?_); refine wpList_load_row rfl 28 (.tmp 3) rfl _ rfl 28 _ (0, 0) _ (HO.out.get 0 rfl) Try.underlying28 rfl (by kernel_rfl) ?_) | (go_at_call 45; refine (HK.out _ HO.out.below).mono ?_; rintro e w' ⟨rfl, hb⟩; replace HO := Aside0.mk (HO.out.step hb); clear hb) | ((with_reducible refine gate_dst (N := 21) rfl ?_); (try (refine gate_guard (by rfl) ?_; dsimp only)); refine Kd.R_lit (Kd.int .i64) (w0 := w) w.heap.size 3 ?lg21 (N := 21) ?ld21 (xs := [a1]) (inner := [.int .i64 a1]) (ok := fun _ => True) (okp := fun _ => True) ?lr21 ?lp21 (fun _ hk => hk) trivial HO.out.below HO.out.size (by simp) ?_; (case ld21 => rfl); (case lg21 => rfl); (case lr21 => first | (go_simp; done) | (go_simp; rfl)); (case lp21 => exact Reps.snoc (Reps.none _ _) rfl rfl); intro v21 w_ ho_ hb_ hg_ hnew_; obtain ⟨A21, c21, e21⟩ := Kd.R_slice ho_; subst e21; replace HO := Aside0.mk (HO.out.grown hg_ (fun k hk => by cases hk)); have H21 := Aside0.mk ho_; clear ho_ hb_ hg_ hnew_) | ((with_reducible refine gate_dst (N := 27) rfl ?_); (try (refine gate_guard (by rfl) ?_; dsimp only)); refine Kd.R_lit (Kd.int .i64) (w0 := w) w.heap.size 3 ?lg27 (N := 27) ?ld27 (xs := [a2]) (inner := [.int .i64 a2]) (ok := fun _ => True) (okp := fun _ => True) ?lr27 ?lp27 (fun _ hk => hk) trivial HO.out.below HO.out.size (by simp) ?_; (case ld27 => rfl); (case lg27 => rfl); (case lr27 => first | (go_simp; done) | (go_simp; rfl)); (case lp27 => exact Reps.snoc (Reps.none _ _) rfl rfl); intro v27 w_ ho_ hb_ hg_ hnew_; obtain ⟨A27, c27, e27⟩ := Kd.R_slice ho_; subst e27; replace HO := Aside0.mk (HO.out.grown hg_ (fun k hk => by cases hk)); have H27 := Aside0.mk ho_; clear ho_ hb_ hg_ hnew_) | (go_at_call 46; first | (refine (HRA.out _ _ _ _ HO.out.below (HO.out.cell 0 rfl 0) (Kd.R_reads' H21.out).2.2 (Kd.R_reads' H21.out).2.1).mono ?_; rintro e w' ⟨rfl, hb⟩; replace HO := Aside0.mk (HO.out.step hb); clear hb HRA H21) | (refine (HRB.out _ _ _ _ HO.out.below (HO.out.cell 0 rfl 0) (Kd.R_reads' H27.out).2.2 (Kd.R_reads' H27.out).2.1).mono ?_; rintro e w' ⟨rfl, hb⟩; replace HO := Aside0.mk (HO.out.step hb); clear hb )))
          go_ret2
          exact ⟨rfl, HO.out.below⟩
        | true =>
          rw [hb, if_pos rfl, Prod.mk.injEq] at h
          obtain ⟨rfl, rfl⟩ := h
          rw [hb] at HRB
          have hbr := Q.B.rl_rng hb
          have HI := Aside0.mk (show (Try.prog.info? 63).map (·.size) = some 12 by kernel_rfl)
          have HJX := Aside0.mk (fun (a : Int) (hrn : ∀ y ∈ [a], 0 ≤ y ∧ y < (l0_0.length : Int)) (p : Addr) (A : Option Addr) (c : Nat) (W : World) (hb : Below w.heap.size w W) (hp : W.cell? p = some (.slice A0_0 l0_0.length c0_0)) (hr1 : Kd.C (Kd.int .i64) W A [a].length [a]) (hc1 : [a].length ≤ c) => impl_joins.calls p A0_0 c0_0 l0_0 A c [a] W hp (Kd.C_below HR0.out hb) HG.out hr1 hc1 hrn (by simp))
          have HLX := Aside0.mk (fun (a : Int) (hrn : ∀ y ∈ [a], 0 ≤ y ∧ y < (l0_0.length : Int)) => (Q.joins_some (fl := Q.froL l0_0) (l := [a]) (Q.froL_row12 hn2) (fun y hy => ⟨(hrn y hy).1, by have := (hrn y hy).2; omega⟩) (by simp)).2.len)
          have HAX := Aside0.mk (fun (bs : List Bool) (a : Int) (hbs : bs.length = 12) (hrn : ∀ y ∈ [a], 0 ≤ y ∧ y < (l0_0.length : Int)) (A : Option Addr) (c : Nat) (W : World) (hr1 : Kd.C (Kd.int .i64) W A [a].length [a]) (hc1 : [a].length ≤ c) => impl_and.calls bs A c [a] W hbs hr1 hc1 (fun y hy => ⟨(hrn y hy).1, by have := (hrn y hy).2; omega⟩))
          have HJA := Aside0.mk (HJX.out a1 har)
          have HJB := Aside0.mk (HJX.out a2 hbr)
          have hla := HLX.out a1 har
          have hlb := HLX.out a2 hbr
          have hxl := (andF_len [a1] (Q.joinsF (Q.froL l0_0) [a1])).trans hla
          have hyl := (andF_len [a2] (Q.joinsF (Q.froL l0_0) [a2])).trans hlb
          have HNA := Aside0.mk (HAX.out (Q.joinsF (Q.froL l0_0) [a1]) a1 hla har)
          have HNB := Aside0.mk (HAX.out (Q.joinsF (Q.froL l0_0) [a2]) a2 hlb hbr)
          unfold jnB
          generalize Q.joinsF (Q.froL l0_0) [a1] = J1 at HJA HNA hxl ⊢
          generalize Q.joinsF (Q.froL l0_0) [a2] = J2 at HJB HNB hyl ⊢
          generalize andF J1 [a1] = X at HNA hxl ⊢
          generalize andF J2 [a2] = Y at HNB hyl ⊢
          have HXL := Aside0.mk hxl
          have HYL := Aside0.mk hyl
          have HME := Aside0.mk (show meetB X Y = (List.range 12).any (fun k => X.getD k false && Y.getD k false) from rfl)
          obtain ⟨mt, hmt⟩ : ∃ mt, meetB X Y = mt := ⟨_, rfl⟩
          rw [hmt] at HME ⊢
          clear ha hb har hbr hla hlb hxl hyl hmt HJX HLX HAX HRX
          go_enter Try.func11, Try.ntmps11
          go_wp2_with (first | ((with_reducible refine gate_dst (N := 3) rfl ?_); refine H.own_box HO.out ?bxg (N := 3) ?bxd (cs := #[Value.slice A0_0 l0_0.length c0_0]) (t := 28) ?bxr ?_; (case bxd => rfl); (case bxg => rfl); (case bxr => first | (go_simp; done) | (go_simp; rfl)); intro gp w_ ho_ hb_; replace HO := Aside0.mk ho_; clear ho_ hb_) | ((with_reducible refine gate_dst (N := 11) rfl ?_); refine wpList_load_row rfl 28 (.tmp 3) rfl _ rfl 28 _ (0, 0) _ (HO.out.get 0 rfl) Try.underlying28 rfl (by kernel_rfl) ?_) | (go_at_call 45; refine (HK.out _ HO.out.below).mono ?_; rintro e w' ⟨rfl, hb⟩; replace HO := Aside0.mk (HO.out.step hb); clear hb) | ((with_reducible refine gate_dst (N := 21) rfl ?_); (try (refine gate_guard (by rfl) ?_; dsimp only)); refine Kd.R_lit (Kd.int .i64) (w0 := w) w.heap.size 3 ?lg21 (N := 21) ?ld21 (xs := [a1]) (inner := [.int .i64 a1]) (ok := fun _ => True) (okp := fun _ => True) ?lr21 ?lp21 (fun _ hk => hk) trivial HO.out.below HO.out.size (by simp) ?_; (case ld21 => rfl); (case lg21 => rfl); (case lr21 => first | (go_simp; done) | (go_simp; rfl)); (case lp21 => exact Reps.snoc (Reps.none _ _) rfl rfl); intro v21 w_ ho_ hb_ hg_ hnew_; obtain ⟨A21, c21, e21⟩ := Kd.R_slice ho_; subst e21; replace HO := Aside0.mk (HO.out.grown hg_ (fun k hk => by cases hk)); have H21 := Aside0.mk ho_; clear ho_ hb_ hg_ hnew_) | ((with_reducible refine gate_dst (N := 27) rfl ?_); (try (refine gate_guard (by rfl) ?_; dsimp only)); refine Kd.R_lit (Kd.int .i64) (w0 := w) w.heap.size 3 ?lg27 (N := 27) ?ld27 (xs := [a2]) (inner := [.int .i64 a2]) (ok := fun _ => True) (okp := fun _ => True) ?lr27 ?lp27 (fun _ hk => hk) trivial HO.out.below HO.out.size (by simp) ?_; (case ld27 => rfl); (case lg27 => rfl); (case lr27 => first | (go_simp; done) | (go_simp; rfl)); (case lp27 => exact Reps.snoc (Reps.none _ _) rfl rfl); intro v27 w_ ho_ hb_ hg_ hnew_; obtain ⟨A27, c27, e27⟩ := Kd.R_slice ho_; subst e27; replace HO := Aside0.mk (HO.out.grown hg_ (fun k hk => by cases hk)); have H27 := Aside0.mk ho_; clear ho_ hb_ hg_ hnew_) | (go_at_call 46; first | (refine (HRA.out _ _ _ _ HO.out.below (HO.out.cell 0 rfl 0) (Kd.R_reads' H21.out).2.2 (Kd.R_reads' H21.out).2.1).mono ?_; rintro e w' ⟨rfl, hb⟩; replace HO := Aside0.mk (HO.out.step hb); clear hb HRA H21) | (refine (HRB.out _ _ _ _ HO.out.below (HO.out.cell 0 rfl 0) (Kd.R_reads' H27.out).2.2 (Kd.R_reads' H27.out).2.1).mono ?_; rintro e w' ⟨rfl, hb⟩; replace HO := Aside0.mk (HO.out.step hb); clear hb )) | ((with_reducible refine gate_dst (N := 32) rfl ?_); refine Kd.R_lit (Kd.int .i64) (w0 := w) w.heap.size 3 ?lg32 (N := 32) ?ld32 (xs := [a1]) (inner := [.int .i64 a1]) (ok := fun _ => True) (okp := fun _ => True) ?lr32 ?lp32 (fun _ hk => hk) trivial HO.out.below HO.out.size (by simp) ?_; (case ld32 => rfl); (case lg32 => rfl); (case lr32 => first | (go_simp; done) | (go_simp; rfl)); (case lp32 => exact Reps.snoc (Reps.none _ _) rfl rfl); intro v32 w_ ho_ hb_ hg_ hnew_; obtain ⟨A32, c32, e32⟩ := Kd.R_slice ho_; subst e32; replace HO := Aside0.mk (HO.out.grown hg_ (fun k hk => by cases hk)); have H32 := Aside0.mk ho_; clear ho_ hb_ hg_ hnew_) | ((with_reducible refine gate_dst (N := 35) rfl ?_); refine Kd.R_lit (Kd.int .i64) (w0 := w) w.heap.size 3 ?lg35 (N := 35) ?ld35 (xs := [a1]) (inner := [.int .i64 a1]) (ok := fun _ => True) (okp := fun _ => True) ?lr35 ?lp35 (fun _ hk => hk) trivial HO.out.below HO.out.size (by simp) ?_; (case ld35 => rfl); (case lg35 => rfl); (case lr35 => first | (go_simp; done) | (go_simp; rfl)); (case lp35 => exact Reps.snoc (Reps.none _ _) rfl rfl); intro v35 w_ ho_ hb_ hg_ hnew_; obtain ⟨A35, c35, e35⟩ := Kd.R_slice ho_; subst e35; replace HO := Aside0.mk (HO.out.grown hg_ (fun k hk => by cases hk)); have H35 := Aside0.mk ho_; clear ho_ hb_ hg_ hnew_) | ((with_reducible refine gate_dst (N := 38) rfl ?_); refine Kd.R_lit (Kd.int .i64) (w0 := w) w.heap.size 3 ?lg38 (N := 38) ?ld38 (xs := [a2]) (inner := [.int .i64 a2]) (ok := fun _ => True) (okp := fun _ => True) ?lr38 ?lp38 (fun _ hk => hk) trivial HO.out.below HO.out.size (by simp) ?_; (case ld38 => rfl); (case lg38 => rfl); (case lr38 => first | (go_simp; done) | (go_simp; rfl)); (case lp38 => exact Reps.snoc (Reps.none _ _) rfl rfl); intro v38 w_ ho_ hb_ hg_ hnew_; obtain ⟨A38, c38, e38⟩ := Kd.R_slice ho_; subst e38; replace HO := Aside0.mk (HO.out.grown hg_ (fun k hk => by cases hk)); have H38 := Aside0.mk ho_; clear ho_ hb_ hg_ hnew_) | ((with_reducible refine gate_dst (N := 41) rfl ?_); refine Kd.R_lit (Kd.int .i64) (w0 := w) w.heap.size 3 ?lg41 (N := 41) ?ld41 (xs := [a2]) (inner := [.int .i64 a2]) (ok := fun _ => True) (okp := fun _ => True) ?lr41 ?lp41 (fun _ hk => hk) trivial HO.out.below HO.out.size (by simp) ?_; (case ld41 => rfl); (case lg41 => rfl); (case lr41 => first | (go_simp; done) | (go_simp; rfl)); (case lp41 => exact Reps.snoc (Reps.none _ _) rfl rfl); intro v41 w_ ho_ hb_ hg_ hnew_; obtain ⟨A41, c41, e41⟩ := Kd.R_slice ho_; subst e41; replace HO := Aside0.mk (HO.out.grown hg_ (fun k hk => by cases hk)); have H41 := Aside0.mk ho_; clear ho_ hb_ hg_ hnew_) | (go_at_call 47; first | (refine (HJA.out _ _ _ _ HO.out.below (HO.out.cell 0 rfl 0) (Kd.R_reads' H32.out).2.2 (Kd.R_reads' H32.out).2.1).mono ?_; rintro e w' ⟨rfl, hb⟩; replace HO := Aside0.mk (HO.out.step hb); clear hb HJA H32) | (refine (HJB.out _ _ _ _ HO.out.below (HO.out.cell 0 rfl 0) (Kd.R_reads' H38.out).2.2 (Kd.R_reads' H38.out).2.1).mono ?_; rintro e w' ⟨rfl, hb⟩; replace HO := Aside0.mk (HO.out.step hb); clear hb H38)) | (go_at_call 48; first | (refine (HNA.out _ _ _ (Kd.R_reads' H35.out).2.2 (Kd.R_reads' H35.out).2.1).mono ?_; rintro e w' ⟨rfl, hb⟩; replace HO := Aside0.mk (HO.out.step hb); clear hb HNA H35) | (refine (HNB.out _ _ _ (Kd.R_reads' H41.out).2.2 (Kd.R_reads' H41.out).2.1).mono ?_; rintro e w' ⟨rfl, hb⟩; replace HO := Aside0.mk (HO.out.step hb); clear hb H41)) | ((with_reducible refine gate_dst (N := 8) rfl ?_); refine H.own_box HO.out ?bxg (N := 8) ?bxd (cs := H.bcells H.none12) (t := 63) ?bxr ?_; (case bxd => rfl); (case bxg => rfl); (case bxr => first | (go_simp; done) | (go_simp; rfl)); intro gx w_ ho_ hb_; replace HO := Aside0.mk ho_; clear ho_ hb_) | ((with_reducible refine gate_dst (N := 9) rfl ?_); refine H.own_box HO.out ?bxg (N := 9) ?bxd (cs := H.bcells H.none12) (t := 63) ?bxr ?_; (case bxd => rfl); (case bxg => rfl); (case bxr => first | (go_simp; done) | (go_simp; rfl)); intro gy w_ ho_ hb_; replace HO := Aside0.mk ho_; clear ho_ hb_) | ((with_reducible refine gate_store (t := 63) (p := 8) rfl ?_); refine H.own_ball HO.out 1 (bs' := X) rfl rfl rfl rfl rfl rfl HI.out HXL.out ?_; intro w_ ho_ hg_; replace HO := Aside0.mk ho_; clear ho_ hg_) | ((with_reducible refine gate_store (t := 63) (p := 9) rfl ?_); refine H.own_ball HO.out 2 (bs' := Y) rfl rfl rfl rfl rfl rfl HI.out HYL.out ?_; intro w_ ho_ hg_; replace HO := Aside0.mk ho_; clear ho_ hg_))
          go_loopw [43] (fun v43 wr => ∃ k : Nat, v43 = .int .i64 k ∧ k ≤ 12 ∧ Aside0 ((List.range k).any (fun k => X.getD k false && Y.getD k false) = false) ∧ Aside0 (H.Own w wr [(gp, #[Value.slice A0_0 l0_0.length c0_0], 28), (gx, H.bcells X, 63), (gy, H.bcells Y, 63)])) (fun v43 _ => 12 - (intOf v43).toNat)
          case atStart => exact ⟨0, rfl, Nat.zero_le _, ⟨rfl⟩, HO⟩
          case round =>
            clear HO
            obtain ⟨k, rfl, hk, HA, HO⟩ := hrel
            by_cases hlt : k < 12
            · have hk12 : (k : Int) < 12 := by omega
              have hcx := HO.out.bat 1 rfl (j := k) (by rw [HXL.out]; exact hlt)
              have hcy := HO.out.bat 2 rfl (j := k) (by rw [HYL.out]; exact hlt)
              have hst : (List.range (k + 1)).any (fun k => X.getD k false && Y.getD k false) = (X.getD k false && Y.getD k false) := by rw [List.range_succ, List.any_append, HA.out]; simp
              have hin : (X.getD k false && Y.getD k false) = true → mt = true := fun h => by
                rw [HME.out]
                exact List.any_eq_true.2 ⟨k, List.mem_range.2 hlt, h⟩
              obtain ⟨b1, hb1⟩ : ∃ b, X.getD k false = b := ⟨_, rfl⟩
              obtain ⟨b2, hb2⟩ : ∃ b, Y.getD k false = b := ⟨_, rfl⟩
              rw [hb1] at hcx hst hin
              rw [hb2] at hcy hst hin
              clear hb1 hb2
              cases b1 with
              | false =>
                have HST := Aside0.mk hst
                clear hst hin
                go_wp2
                go_roundw
                case rel => exact ⟨k + 1, by go_num, by omega, ⟨by rw [HST.out]; rfl⟩, HO⟩
                case measure => simp [intOf]; omega
              | true =>
                cases b2 with
                | false =>
                  have HST := Aside0.mk hst
                  clear hst hin
                  go_wp2
                  go_roundw
                  case rel => exact ⟨k + 1, by go_num, by omega, ⟨by rw [HST.out]; rfl⟩, HO⟩
                  case measure => simp [intOf]; omega
                | true =>
                  have HMT := Aside0.mk (hin rfl)
                  clear hst hin
                  go_wp2
                  go_ret2
                  exact ⟨by rw [HMT.out]; rfl, HO.out.below⟩
            · have hE : k = 12 := by omega
              subst hE
              have HMT := Aside0.mk (show mt = false by rw [HME.out]; exact HA.out)
              go_wp2
              go_ret2
              exact ⟨by rw [HMT.out]; rfl, HO.out.below⟩
end Go.Proofs.Ytndkblahnihhjaa.P

