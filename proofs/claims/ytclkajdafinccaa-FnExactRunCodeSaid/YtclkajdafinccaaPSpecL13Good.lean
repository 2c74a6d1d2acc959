-- Written by a program of this session (wip/plug.py) out of Lean's print of the translation.
import Derived.Test.YtclkajdafinccaaP0
import Derived.Test.YtclkajdafinccaaPSpecL1In
namespace Go.Proofs.Ytclkajdafinccaa.P
open Go.RowKit Go.Proofs.YtclkajdafinccaaW.PrintWords Go.Proofs.YtclkajdafinccaaW.PrintLast Go.Proofs.YtclkajdafinccaaW.PrintMore
attribute [local go_sem] max2_int min2_int max_two min_two max_three min_three max_four min_four   -- for this text's walks alone
set_option linter.unusedVariables false
set_option linter.unusedSimpArgs false

/-! ### spec_l13Good: function 63 -/
mutual
def spec_l13Good.l0 : Nat → List (S89) → List Bool → List (S89) → Int → Int → Option (Bool)
  | 0, _, _, _, _, _ => none
  | k + 1, x0, x3, x7, x8, x9 => if x9 < x8 then (if 0 ≤ x9 then (if x9 < (x7.length : Int) then ((spec_l1In.f ((rd_T89 x7 x9).f1) 0 39).bind fun t259 => (if t259 = true then ((spec_l1In.f ((rd_T89 x7 x9).f2) 0 39).bind fun t260 => (if t260 = true then ((spec_l1In.f ((rd_T89 x7 x9).f3) 0 39).bind fun t261 => (spec_l13Good.j1 k x0 x3 x7 x8 x9 (!t261) ((rd_T89 x7 x9).f0) ((rd_T89 x7 x9).f1) ((rd_T89 x7 x9).f2) ((rd_T89 x7 x9).f3) ((rd_T89 x7 x9).f4))) else (spec_l13Good.j1 k x0 x3 x7 x8 x9 true ((rd_T89 x7 x9).f0) ((rd_T89 x7 x9).f1) ((rd_T89 x7 x9).f2) ((rd_T89 x7 x9).f3) ((rd_T89 x7 x9).f4)))) else (spec_l13Good.j1 k x0 x3 x7 x8 x9 true ((rd_T89 x7 x9).f0) ((rd_T89 x7 x9).f1) ((rd_T89 x7 x9).f2) ((rd_T89 x7 x9).f3) ((rd_T89 x7 x9).f4)))) else (none)) else (none)) else ((spec_l1In.f (x0.length : Int) 1 60).bind fun t256 => (some t256))
def spec_l13Good.j1 : Nat → List (S89) → List Bool → List (S89) → Int → Int → Bool → Int → Int → Int → Int → Int → Option (Bool)
  | 0, _, _, _, _, _, _, _, _, _, _, _ => none
  | k + 1, x0, x3, x7, x8, x9, x28, x259000, x259001, x259002, x259003, x259004 => if x28 = true then (some false) else (if x259000 = 1 then (if x259002 = 0 then (if x259003 = 0 then ((spec_l1In.f x259004 (-1000) 1000).bind fun t262 => (if t262 = true then (if 0 ≤ x259001 then (if x259001 < (x3.length : Int) then (spec_l13Good.l0 k x0 (x3.set (x259001 : Int).toNat true) x7 x8 (wrap64 (x9 + 1))) else (none)) else (none)) else (some false))) else (some false)) else (some false)) else ((spec_l1In.f x259000 2 4).bind fun t264 => (if t264 = true then (if x259004 = 0 then (if 0 ≤ x259002 then (if x259002 < (x3.length : Int) then (if rdOf false x3 x259002 = true then (if 0 ≤ x259003 then (if x259003 < (x3.length : Int) then (if rdOf false x3 x259003 = true then (if 0 ≤ x259001 then (if x259001 < (x3.length : Int) then (spec_l13Good.l0 k x0 (x3.set (x259001 : Int).toNat true) x7 x8 (wrap64 (x9 + 1))) else (none)) else (none)) else (some false)) else (none)) else (none)) else (some false)) else (none)) else (none)) else (some false)) else (some false))))
end
def spec_l13Good.f (k : Nat) (l0 : List (S89)) : Option (Bool) := if 40 ≤ 281474976710656 then (spec_l13Good.l0 k l0 (List.replicate 40 false) l0 (l0.length : Int) 0) else (none)
theorem spec_l13Good.mono_l : ∀ k, (∀ y0 y1 y2 y3 y4, LeO (spec_l13Good.l0 k y0 y1 y2 y3 y4) (spec_l13Good.l0 (k + 1) y0 y1 y2 y3 y4)) ∧ (∀ y0 y1 y2 y3 y4 y5 y6 y7 y8 y9 y10, LeO (spec_l13Good.j1 k y0 y1 y2 y3 y4 y5 y6 y7 y8 y9 y10) (spec_l13Good.j1 (k + 1) y0 y1 y2 y3 y4 y5 y6 y7 y8 y9 y10))
  | 0 => ⟨fun _ _ _ _ _ r h => by simp [spec_l13Good.l0] at h, fun _ _ _ _ _ _ _ _ _ _ _ r h => by simp [spec_l13Good.j1] at h⟩
  | k + 1 => by
    obtain ⟨ih0, ih1⟩ := spec_l13Good.mono_l k
    refine ⟨?_, ?_⟩
    · intro y0 y1 y2 y3 y4
      unfold spec_l13Good.l0
      repeat' first
      | (with_reducible exact ih0 _ _ _ _ _)
      | (with_reducible exact ih1 _ _ _ _ _ _ _ _ _ _ _)
      | (with_reducible exact LeO.refl _)
      | (with_reducible exact LeO.none _)
      | (with_reducible refine LeO.ite ?_ ?_)
      | (with_reducible refine LeO.bind ?_ (fun _ => ?_))
      | exact ih0 _ _ _ _ _
      | exact ih1 _ _ _ _ _ _ _ _ _ _ _
      | exact LeO.none _
      | refine LeO.ite ?_ ?_
      | refine LeO.bind ?_ (fun _ => ?_)
    · intro y0 y1 y2 y3 y4 y5 y6 y7 y8 y9 y10
      unfold spec_l13Good.j1
      repeat' first
      | (with_reducible exact ih0 _ _ _ _ _)
      | (with_reducible exact ih1 _ _ _ _ _ _ _ _ _ _ _)
      | (with_reducible exact LeO.refl _)
      | (with_reducible exact LeO.none _)
      | (with_reducible refine LeO.ite ?_ ?_)
      | (with_reducible refine LeO.bind ?_ (fun _ => ?_))
      | exact ih0 _ _ _ _ _
      | exact ih1 _ _ _ _ _ _ _ _ _ _ _
      | exact LeO.none _
      | refine LeO.ite ?_ ?_
      | refine LeO.bind ?_ (fun _ => ?_)
theorem spec_l13Good.mono : ∀ a0 k, LeO (spec_l13Good.f k a0) (spec_l13Good.f (k + 1) a0) := by
  intro a0 k
  obtain ⟨ih0, ih1⟩ := spec_l13Good.mono_l k
  unfold spec_l13Good.f
  repeat' first
      | (with_reducible exact ih0 _ _ _ _ _)
      | (with_reducible exact ih1 _ _ _ _ _ _ _ _ _ _ _)
      | (with_reducible exact LeO.refl _)
      | (with_reducible exact LeO.none _)
      | (with_reducible refine LeO.ite ?_ ?_)
      | (with_reducible refine LeO.bind ?_ (fun _ => ?_))
      | exact ih0 _ _ _ _ _
      | exact ih1 _ _ _ _ _ _ _ _ _ _ _
      | exact LeO.none _
      | refine LeO.ite ?_ ?_
      | refine LeO.bind ?_ (fun _ => ?_)
set_option maxHeartbeats 8000000 in
set_option maxRecDepth 100000 in
theorem spec_l13Good.calls (k : Nat) (A0 : Option Addr) (c0 : Nat) (l0 : List (S89)) (r : Bool) (w : World) (hr0 : Kd.C k89 w A0 l0.length l0) (hc0 : l0.length ≤ c0) (h : spec_l13Good.f k l0 = some r) :
    Calls Try.prog 63 #[.slice A0 l0.length c0] w fun e w' => e = .returned (.bool r) ∧ Below w.heap.size w w' := by
  have hu89 := Try.underlying89
  have HR0 := Aside0.mk hr0
  have HC0 := Aside0.mk hc0
  clear hr0 hc0
  have HB := Aside0.mk (Below.refl w.heap.size w)
  have H : (if 40 ≤ 281474976710656 then (spec_l13Good.l0 k l0 (List.replicate 40 false) l0 (l0.length : Int) 0) else (none)) = some r := h
  clear h
  by_cases c2 : 40 ≤ 281474976710656
  · rw [if_pos c2] at H
    have c2b0 := eq_true c2
    have c2b1 : decide (40 ≤ 281474976710656) = true := decide_eq_true c2
    clear c2
    obtain ⟨y253, hy253⟩ : ∃ y_ : List Bool, y_ = (List.replicate 40 false) := ⟨_, rfl⟩
    replace H : (spec_l13Good.l0 k l0 y253 l0 (l0.length : Int) 0) = some r := by first | (rw [hy253]; with_reducible exact H) | (have H2_ := (Option.bind_some _ _).symm.trans H; rw [hy253]; with_reducible exact H2_) | (have H2_ := (Option.bind_some _ _).symm.trans H; with_reducible exact H2_) | with_reducible exact H | (rw [hy253]; exact H) | exact H
    have Ny253 := Aside0.mk hy253
    clear hy253
    have H' := Aside0.mk H
    clear H
    go_enter Try.func63, Try.ntmps63
    go_wp2_with (first | ((with_reducible refine gate_dst (N := 6) rfl ?_); refine Kd.R_make Kd.bool _ 4 rfl (N := 6) rfl 48 _ _ rfl 40 rfl rfl Try.underlying48 (.bool false) 1 info4 rfl (by decide) (by omega) false (ok := fun _ => True) (okp := fun _ => True) rfl (fun _ hk => hk) trivial (by omega) (by omega) (Below.refl _ _) (Nat.le_refl _) ?_; intro v254 w3 ho4 hb hg_ hnew_; clear hg_ hnew_; (first | rw [← Ny253.out] at ho4 | (simp only [Int.reduceToNat] at ho4; rw [← Ny253.out] at ho4)); have n0_ := Aside0.mk (Kd.R_lower ho4 (below_size (by repeat (first | (with_reducible first | exact HB.out | apply below_alloc | apply pw_below_drewN | apply below_drew1) | exact HB.out)))); have n1_ := Aside0.mk (below_step (by repeat (first | (with_reducible first | exact HB.out | apply below_alloc | apply pw_below_drewN | apply below_drew1) | exact HB.out)) hb); clear HB; have HO255 := n0_; have HB := n1_; clear n0_ n1_; clear hb ho4))
    go_loopg [9] k (fun kq v9 w' => ∃ (x3_1 : List Bool) (x9_1 : Int), v9 = .int .i64 x9_1 ∧ Aside0 (spec_l13Good.l0 kq l0 x3_1 l0 (l0.length : Int) x9_1 = some r) ∧ Aside0 (kq ≤ k) ∧ Aside0 (Kd.R Kd.bool 4 w' w.heap.size (fun _ => True) v254 x3_1) ∧ Aside0 (Below w.heap.size w w'))
    case atStart => exact ⟨(y253), (0), (by first | rfl | (simp; done) | (simp [*]; done)), H', ⟨Nat.le_refl _⟩, ⟨by (with_reducible repeat (first | apply Kd.R_alloc | apply Kd.R_drewN | apply Kd.R_drew)); exact HO255.out⟩, ⟨by repeat (first | (with_reducible first | exact HB.out | apply below_alloc | apply pw_below_drewN | apply below_drew1) | exact HB.out)⟩⟩
    case round =>
      clear H'
      try clear c2
      try clear c2b0
      try clear c2b1
      try clear p2
      obtain ⟨x3_1, x9_1, rfl, HA, HK1, HO_3, HB⟩ := hrel
      cases gk with
      | zero => exact absurd HA.out (by simp [spec_l13Good.l0])
      | succ k1 =>
        have H := HA.out
        clear HA
        simp only [spec_l13Good.l0] at H
        by_cases c5 : x9_1 < (l0.length : Int)
        · rw [if_pos c5] at H
          have c5b0 : decide (x9_1 < (l0.length : Int)) = true := decide_eq_true c5
          clear c5
          by_cases c6 : 0 ≤ x9_1
          · rw [if_pos c6] at H
            have c6b0 : decide (0 ≤ x9_1) = true := decide_eq_true c6
            clear c6
            by_cases c7 : x9_1 < (l0.length : Int)
            · rw [if_pos c7] at H
              have c7b0 : decide (x9_1 < (l0.length : Int)) = true := decide_eq_true c7
              clear c7
              have HC8 := Aside0.mk H
              clear H
              have p257 : 0 ≤ (x9_1 : Int) := of_decide_eq_true (by first | (with_reducible assumption) | assumption)
              have q257 : x9_1 < (l0.length : Int) := of_decide_eq_true (by first | (with_reducible assumption) | assumption)
              obtain ⟨ad257, e257, hx257_0, hx257_1, hx257_2, hx257_3, hx257_4⟩ := at_T89 HR0.out x9_1 p257 q257
              cases e257
              replace hx257_0 := (HB.out.cell (World.block_lt_of_cell? w _ hx257_0)).trans hx257_0
              replace hx257_1 := (HB.out.cell (World.block_lt_of_cell? w _ hx257_1)).trans hx257_1
              replace hx257_2 := (HB.out.cell (World.block_lt_of_cell? w _ hx257_2)).trans hx257_2
              replace hx257_3 := (HB.out.cell (World.block_lt_of_cell? w _ hx257_3)).trans hx257_3
              replace hx257_4 := (HB.out.cell (World.block_lt_of_cell? w _ hx257_4)).trans hx257_4
              replace p257 := eq_true p257
              replace q257 := eq_true q257
              go_upto_region 5 with (first | ((with_reducible refine gate_dst (N := 5) rfl ?_); refine box_event ?hg (N := 5) ?hd (cs := #[.int .i64 0, .int .i64 0, .int .i64 0, .int .i64 0, .int .i64 0]) (t := 89) ?hr ?_; (case hd => rfl); (case hg => rfl); (case hr => first | (go_simp; done) | (go_simp; rfl)); intro gb258 hg w9 hbox hb; have n0_ := Aside0.mk (Kd.R_below (by (with_reducible repeat (first | apply Kd.R_alloc | apply Kd.R_drewN | apply Kd.R_drew)); exact HO_3.out) hb); have n1_ := Aside0.mk (below_step (by repeat (first | (with_reducible first | exact HB.out | apply below_alloc | apply pw_below_drewN | apply below_drew1) | exact HB.out)) hb); have n2_ := Aside0.mk (hbox); have n3_ := Aside0.mk ((by rw [hg]; exact (below_size (by repeat (first | (with_reducible first | exact HB.out | apply below_alloc | apply pw_below_drewN | apply below_drew1) | exact HB.out))) : w.heap.size ≤ gb258)); have n4_ := Aside0.mk ((by rw [hg]; exact (below_size (by repeat (first | (with_reducible first | exact HB.out | apply below_alloc | apply pw_below_drewN | apply below_drew1) | exact HB.out))) : w.heap.size ≤ gb258)); clear HO_3; clear HB; have HO_3 := n0_; have HB := n1_; have BK258 := n2_; have GW258 := n3_; have GE258 := n4_; clear n0_ n1_ n2_ n3_ n4_; clear hb hbox hg; have hcz10_0 : w9.cell? ⟨gb258, 0, none⟩ = some (.int .i64 0) := (blk_cell BK258.out 0).trans rfl; have hcz10_1 : w9.cell? ⟨gb258, 1, none⟩ = some (.int .i64 0) := (blk_cell BK258.out 1).trans rfl; have hcz10_2 : w9.cell? ⟨gb258, 2, none⟩ = some (.int .i64 0) := (blk_cell BK258.out 2).trans rfl; have hcz10_3 : w9.cell? ⟨gb258, 3, none⟩ = some (.int .i64 0) := (blk_cell BK258.out 3).trans rfl; have hcz10_4 : w9.cell? ⟨gb258, 4, none⟩ = some (.int .i64 0) := (blk_cell BK258.out 4).trans rfl; have hfz10_0 := blk_frozen BK258.out 0; have hfz10_1 := blk_frozen BK258.out 1; have hfz10_2 := blk_frozen BK258.out 2; have hfz10_3 := blk_frozen BK258.out 3; have hfz10_4 := blk_frozen BK258.out 4))
              (try simp only [Act.put, List.setIfInBounds_toArray, List.set_cons_zero, List.set_cons_succ])
              go_cut [28] (fun v28 wc => ∃ (kq : Nat) (x28_7 : Bool), v28 = .bool x28_7 ∧ Aside0 (spec_l13Good.j1 kq l0 x3_1 l0 (l0.length : Int) x9_1 x28_7 ((rd_T89 l0 x9_1).f0) ((rd_T89 l0 x9_1).f1) ((rd_T89 l0 x9_1).f2) ((rd_T89 l0 x9_1).f3) ((rd_T89 l0 x9_1).f4) = some r) ∧ Aside0 (kq ≤ k1) ∧ Aside0 (Kd.R Kd.bool 4 wc w.heap.size (fun _ => True) v254 x3_1) ∧ Aside0 (wc.heap[gb258]? = some (.cells #[.int .i64 ((rd_T89 l0 x9_1).f0), .int .i64 ((rd_T89 l0 x9_1).f1), .int .i64 ((rd_T89 l0 x9_1).f2), .int .i64 ((rd_T89 l0 x9_1).f3), .int .i64 ((rd_T89 l0 x9_1).f4)] 89 (0, 0))) ∧ Aside0 (Below w.heap.size w wc))
              case first =>
                have H := HC8.out
                clear HC8
                replace H := Option.bind_eq_some_iff.mp H
                obtain ⟨t259, A110, H⟩ := H
                replace H : (if t259 = true then ((spec_l1In.f ((rd_T89 l0 x9_1).f2) 0 39).bind fun t260 => (if t260 = true then ((spec_l1In.f ((rd_T89 l0 x9_1).f3) 0 39).bind fun t261 => (spec_l13Good.j1 k1 l0 x3_1 l0 (l0.length : Int) x9_1 (!t261) ((rd_T89 l0 x9_1).f0) ((rd_T89 l0 x9_1).f1) ((rd_T89 l0 x9_1).f2) ((rd_T89 l0 x9_1).f3) ((rd_T89 l0 x9_1).f4))) else (spec_l13Good.j1 k1 l0 x3_1 l0 (l0.length : Int) x9_1 true ((rd_T89 l0 x9_1).f0) ((rd_T89 l0 x9_1).f1) ((rd_T89 l0 x9_1).f2) ((rd_T89 l0 x9_1).f3) ((rd_T89 l0 x9_1).f4)))) else (spec_l13Good.j1 k1 l0 x3_1 l0 (l0.length : Int) x9_1 true ((rd_T89 l0 x9_1).f0) ((rd_T89 l0 x9_1).f1) ((rd_T89 l0 x9_1).f2) ((rd_T89 l0 x9_1).f3) ((rd_T89 l0 x9_1).f4))) = some r := H
                have A11 := Aside0.mk A110
                clear A110
                by_cases c12 : t259 = true
                · subst c12
                  have H1 : ((spec_l1In.f ((rd_T89 l0 x9_1).f2) 0 39).bind fun t260 => (if t260 = true then ((spec_l1In.f ((rd_T89 l0 x9_1).f3) 0 39).bind fun t261 => (spec_l13Good.j1 k1 l0 x3_1 l0 (l0.length : Int) x9_1 (!t261) ((rd_T89 l0 x9_1).f0) ((rd_T89 l0 x9_1).f1) ((rd_T89 l0 x9_1).f2) ((rd_T89 l0 x9_1).f3) ((rd_T89 l0 x9_1).f4))) else (spec_l13Good.j1 k1 l0 x3_1 l0 (l0.length : Int) x9_1 true ((rd_T89 l0 x9_1).f0) ((rd_T89 l0 x9_1).f1) ((rd_T89 l0 x9_1).f2) ((rd_T89 l0 x9_1).f3) ((rd_T89 l0 x9_1).f4)))) = some r := by rw [if_pos rfl] at H; exact H
                  clear H
                  have H := H1
                  clear H1
                  replace H := Option.bind_eq_some_iff.mp H
                  obtain ⟨t260, A130, H⟩ := H
                  replace H : (if t260 = true then ((spec_l1In.f ((rd_T89 l0 x9_1).f3) 0 39).bind fun t261 => (spec_l13Good.j1 k1 l0 x3_1 l0 (l0.length : Int) x9_1 (!t261) ((rd_T89 l0 x9_1).f0) ((rd_T89 l0 x9_1).f1) ((rd_T89 l0 x9_1).f2) ((rd_T89 l0 x9_1).f3) ((rd_T89 l0 x9_1).f4))) else (spec_l13Good.j1 k1 l0 x3_1 l0 (l0.length : Int) x9_1 true ((rd_T89 l0 x9_1).f0) ((rd_T89 l0 x9_1).f1) ((rd_T89 l0 x9_1).f2) ((rd_T89 l0 x9_1).f3) ((rd_T89 l0 x9_1).f4))) = some r := H
                  have A13 := Aside0.mk A130
                  clear A130
                  by_cases c14 : t260 = true
                  · subst c14
                    have H1 : ((spec_l1In.f ((rd_T89 l0 x9_1).f3) 0 39).bind fun t261 => (spec_l13Good.j1 k1 l0 x3_1 l0 (l0.length : Int) x9_1 (!t261) ((rd_T89 l0 x9_1).f0) ((rd_T89 l0 x9_1).f1) ((rd_T89 l0 x9_1).f2) ((rd_T89 l0 x9_1).f3) ((rd_T89 l0 x9_1).f4))) = some r := by rw [if_pos rfl] at H; exact H
                    clear H
                    have H := H1
                    clear H1
                    replace H := Option.bind_eq_some_iff.mp H
                    obtain ⟨t261, A150, H⟩ := H
                    replace H : (spec_l13Good.j1 k1 l0 x3_1 l0 (l0.length : Int) x9_1 (!t261) ((rd_T89 l0 x9_1).f0) ((rd_T89 l0 x9_1).f1) ((rd_T89 l0 x9_1).f2) ((rd_T89 l0 x9_1).f3) ((rd_T89 l0 x9_1).f4)) = some r := H
                    have A15 := Aside0.mk A150
                    clear A150
                    have H' := Aside0.mk H
                    clear H
                    have hcz16_0 : w9.cell? ⟨gb258, 0, none⟩ = some (.int .i64 0) := (blk_cell BK258.out 0).trans rfl
                    have hcz16_1 : w9.cell? ⟨gb258, 1, none⟩ = some (.int .i64 0) := (blk_cell BK258.out 1).trans rfl
                    have hcz16_2 : w9.cell? ⟨gb258, 2, none⟩ = some (.int .i64 0) := (blk_cell BK258.out 2).trans rfl
                    have hcz16_3 : w9.cell? ⟨gb258, 3, none⟩ = some (.int .i64 0) := (blk_cell BK258.out 3).trans rfl
                    have hcz16_4 : w9.cell? ⟨gb258, 4, none⟩ = some (.int .i64 0) := (blk_cell BK258.out 4).trans rfl
                    have hfz16_0 := blk_frozen BK258.out 0
                    have hfz16_1 := blk_frozen BK258.out 1
                    have hfz16_2 := blk_frozen BK258.out 2
                    have hfz16_3 := blk_frozen BK258.out 3
                    have hfz16_4 := blk_frozen BK258.out 4
                    go_wp2_with (first | ((with_reducible refine gate_callee (f := 88) rfl ?_); refine goesL_ (some 15) rfl rfl Try.func88 (by kernel_rfl) rfl #[.int .i64 ((rd_T89 l0 x9_1).f1), .int .i64 0, .int .i64 39] rfl (by (try simp only [List.map_toArray, List.map_cons, List.map_nil]); first | done | rfl | (simp only [List.length_drop, List.length_take]; rfl)) ?_; (with_reducible refine (spec_l1In.calls ((rd_T89 l0 x9_1).f1) 0 39 true _ A11.out).mono ?_); rintro e w' ⟨rfl, ⟨nd, rfl⟩⟩; refine ⟨_, rfl, ?_⟩) | (go_at_call 88; (with_reducible refine (spec_l1In.calls ((rd_T89 l0 x9_1).f2) 0 39 true _ A13.out).mono ?_); rintro e w' ⟨rfl, ⟨nd, rfl⟩⟩) | (go_at_call 88; (with_reducible refine (spec_l1In.calls ((rd_T89 l0 x9_1).f3) 0 39 t261 _ A15.out).mono ?_); rintro e w' ⟨rfl, ⟨nd, rfl⟩⟩))
                    go_meet
                    case rel => exact ⟨_, (!t261), (by first | rfl | (simp; done) | (simp [*]; done)), H', ⟨by have := HK1.out; first | omega | exact Nat.le_refl _⟩, ⟨by (with_reducible repeat (first | apply Kd.R_alloc | apply Kd.R_drewN | apply Kd.R_drew)); exact Kd.R_mono (Kd.R_far (p := ⟨gb258, 4, none⟩) (Kd.R_far (p := ⟨gb258, 3, none⟩) (Kd.R_far (p := ⟨gb258, 2, none⟩) (Kd.R_far (p := ⟨gb258, 1, none⟩) (Kd.R_far (p := ⟨gb258, 0, none⟩) (Kd.R_types HO_3.out BK258.out (by decide)) (fun _ hk => hk.2) (.int .i64 ((rd_T89 l0 x9_1).f0))) (fun _ hk => hk.2) (.int .i64 ((rd_T89 l0 x9_1).f1))) (fun _ hk => hk.2) (.int .i64 ((rd_T89 l0 x9_1).f2))) (fun _ hk => hk.2) (.int .i64 ((rd_T89 l0 x9_1).f3))) (fun _ hk => hk.2) (.int .i64 ((rd_T89 l0 x9_1).f4))) (fun _ hk => trivial)⟩, ⟨by (with_reducible repeat (first | refine blk_drewN ?_ _ | refine blk_drew ?_ | refine blk_alloc ?_ _)); refine blk_put (cs := #[.int .i64 ((rd_T89 l0 x9_1).f0), .int .i64 ((rd_T89 l0 x9_1).f1), .int .i64 ((rd_T89 l0 x9_1).f2), .int .i64 ((rd_T89 l0 x9_1).f3), .int .i64 0]) ?_ 4 _ rfl; (with_reducible repeat (first | refine blk_drewN ?_ _ | refine blk_drew ?_ | refine blk_alloc ?_ _)); refine blk_put (cs := #[.int .i64 ((rd_T89 l0 x9_1).f0), .int .i64 ((rd_T89 l0 x9_1).f1), .int .i64 ((rd_T89 l0 x9_1).f2), .int .i64 0, .int .i64 0]) ?_ 3 _ rfl; (with_reducible repeat (first | refine blk_drewN ?_ _ | refine blk_drew ?_ | refine blk_alloc ?_ _)); refine blk_put (cs := #[.int .i64 ((rd_T89 l0 x9_1).f0), .int .i64 ((rd_T89 l0 x9_1).f1), .int .i64 0, .int .i64 0, .int .i64 0]) ?_ 2 _ rfl; (with_reducible repeat (first | refine blk_drewN ?_ _ | refine blk_drew ?_ | refine blk_alloc ?_ _)); refine blk_put (cs := #[.int .i64 ((rd_T89 l0 x9_1).f0), .int .i64 0, .int .i64 0, .int .i64 0, .int .i64 0]) ?_ 1 _ rfl; (with_reducible repeat (first | refine blk_drewN ?_ _ | refine blk_drew ?_ | refine blk_alloc ?_ _)); refine blk_put (cs := #[.int .i64 0, .int .i64 0, .int .i64 0, .int .i64 0, .int .i64 0]) ?_ 0 _ rfl; (with_reducible repeat (first | refine blk_drewN ?_ _ | refine blk_drew ?_ | refine blk_alloc ?_ _)); exact BK258.out⟩, ⟨by repeat (first | (with_reducible first | exact HB.out | apply below_alloc | apply pw_below_drewN | apply below_drew1 | refine below_set ?_ GE258.out) | exact HB.out)⟩⟩
                  · replace c14 := Bool.eq_false_iff.mpr c14
                    subst c14
                    have H1 : (spec_l13Good.j1 k1 l0 x3_1 l0 (l0.length : Int) x9_1 true ((rd_T89 l0 x9_1).f0) ((rd_T89 l0 x9_1).f1) ((rd_T89 l0 x9_1).f2) ((rd_T89 l0 x9_1).f3) ((rd_T89 l0 x9_1).f4)) = some r := by rw [if_neg (show ¬ (false = true) by decide)] at H; exact H
                    clear H
                    have H := H1
                    clear H1
                    have H' := Aside0.mk H
                    clear H
                    have hcz17_0 : w9.cell? ⟨gb258, 0, none⟩ = some (.int .i64 0) := (blk_cell BK258.out 0).trans rfl
                    have hcz17_1 : w9.cell? ⟨gb258, 1, none⟩ = some (.int .i64 0) := (blk_cell BK258.out 1).trans rfl
                    have hcz17_2 : w9.cell? ⟨gb258, 2, none⟩ = some (.int .i64 0) := (blk_cell BK258.out 2).trans rfl
                    have hcz17_3 : w9.cell? ⟨gb258, 3, none⟩ = some (.int .i64 0) := (blk_cell BK258.out 3).trans rfl
                    have hcz17_4 : w9.cell? ⟨gb258, 4, none⟩ = some (.int .i64 0) := (blk_cell BK258.out 4).trans rfl
                    have hfz17_0 := blk_frozen BK258.out 0
                    have hfz17_1 := blk_frozen BK258.out 1
                    have hfz17_2 := blk_frozen BK258.out 2
                    have hfz17_3 := blk_frozen BK258.out 3
                    have hfz17_4 := blk_frozen BK258.out 4
                    go_wp2_with (first | ((with_reducible refine gate_callee (f := 88) rfl ?_); refine goesL_ (some 15) rfl rfl Try.func88 (by kernel_rfl) rfl #[.int .i64 ((rd_T89 l0 x9_1).f1), .int .i64 0, .int .i64 39] rfl (by (try simp only [List.map_toArray, List.map_cons, List.map_nil]); first | done | rfl | (simp only [List.length_drop, List.length_take]; rfl)) ?_; (with_reducible refine (spec_l1In.calls ((rd_T89 l0 x9_1).f1) 0 39 true _ A11.out).mono ?_); rintro e w' ⟨rfl, ⟨nd, rfl⟩⟩; refine ⟨_, rfl, ?_⟩) | (go_at_call 88; (with_reducible refine (spec_l1In.calls ((rd_T89 l0 x9_1).f2) 0 39 false _ A13.out).mono ?_); rintro e w' ⟨rfl, ⟨nd, rfl⟩⟩))
                    go_meet
                    case rel => exact ⟨_, (true), (by first | rfl | (simp; done) | (simp [*]; done)), H', ⟨by have := HK1.out; first | omega | exact Nat.le_refl _⟩, ⟨by (with_reducible repeat (first | apply Kd.R_alloc | apply Kd.R_drewN | apply Kd.R_drew)); exact Kd.R_mono (Kd.R_far (p := ⟨gb258, 4, none⟩) (Kd.R_far (p := ⟨gb258, 3, none⟩) (Kd.R_far (p := ⟨gb258, 2, none⟩) (Kd.R_far (p := ⟨gb258, 1, none⟩) (Kd.R_far (p := ⟨gb258, 0, none⟩) (Kd.R_types HO_3.out BK258.out (by decide)) (fun _ hk => hk.2) (.int .i64 ((rd_T89 l0 x9_1).f0))) (fun _ hk => hk.2) (.int .i64 ((rd_T89 l0 x9_1).f1))) (fun _ hk => hk.2) (.int .i64 ((rd_T89 l0 x9_1).f2))) (fun _ hk => hk.2) (.int .i64 ((rd_T89 l0 x9_1).f3))) (fun _ hk => hk.2) (.int .i64 ((rd_T89 l0 x9_1).f4))) (fun _ hk => trivial)⟩, ⟨by (with_reducible repeat (first | refine blk_drewN ?_ _ | refine blk_drew ?_ | refine blk_alloc ?_ _)); refine blk_put (cs := #[.int .i64 ((rd_T89 l0 x9_1).f0), .int .i64 ((rd_T89 l0 x9_1).f1), .int .i64 ((rd_T89 l0 x9_1).f2), .int .i64 ((rd_T89 l0 x9_1).f3), .int .i64 0]) ?_ 4 _ rfl; (with_reducible repeat (first | refine blk_drewN ?_ _ | refine blk_drew ?_ | refine blk_alloc ?_ _)); refine blk_put (cs := #[.int .i64 ((rd_T89 l0 x9_1).f0), .int .i64 ((rd_T89 l0 x9_1).f1), .int .i64 ((rd_T89 l0 x9_1).f2), .int .i64 0, .int .i64 0]) ?_ 3 _ rfl; (with_reducible repeat (first | refine blk_drewN ?_ _ | refine blk_drew ?_ | refine blk_alloc ?_ _)); refine blk_put (cs := #[.int .i64 ((rd_T89 l0 x9_1).f0), .int .i64 ((rd_T89 l0 x9_1).f1), .int .i64 0, .int .i64 0, .int .i64 0]) ?_ 2 _ rfl; (with_reducible repeat (first | refine blk_drewN ?_ _ | refine blk_drew ?_ | refine blk_alloc ?_ _)); refine blk_put (cs := #[.int .i64 ((rd_T89 l0 x9_1).f0), .int .i64 0, .int .i64 0, .int .i64 0, .int .i64 0]) ?_ 1 _ rfl; (with_reducible repeat (first | refine blk_drewN ?_ _ | refine blk_drew ?_ | refine blk_alloc ?_ _)); refine blk_put (cs := #[.int .i64 0, .int .i64 0, .int .i64 0, .int .i64 0, .int .i64 0]) ?_ 0 _ rfl; (with_reducible repeat (first | refine blk_drewN ?_ _ | refine blk_drew ?_ | refine blk_alloc ?_ _)); exact BK258.out⟩, ⟨by repeat (first | (with_reducible first | exact HB.out | apply below_alloc | apply pw_below_drewN | apply below_drew1 | refine below_set ?_ GE258.out) | exact HB.out)⟩⟩
                · replace c12 := Bool.eq_false_iff.mpr c12
                  subst c12
                  have H1 : (spec_l13Good.j1 k1 l0 x3_1 l0 (l0.length : Int) x9_1 true ((rd_T89 l0 x9_1).f0) ((rd_T89 l0 x9_1).f1) ((rd_T89 l0 x9_1).f2) ((rd_T89 l0 x9_1).f3) ((rd_T89 l0 x9_1).f4)) = some r := by rw [if_neg (show ¬ (false = true) by decide)] at H; exact H
                  clear H
                  have H := H1
                  clear H1
                  have H' := Aside0.mk H
                  clear H
                  have hcz18_0 : w9.cell? ⟨gb258, 0, none⟩ = some (.int .i64 0) := (blk_cell BK258.out 0).trans rfl
                  have hcz18_1 : w9.cell? ⟨gb258, 1, none⟩ = some (.int .i64 0) := (blk_cell BK258.out 1).trans rfl
                  have hcz18_2 : w9.cell? ⟨gb258, 2, none⟩ = some (.int .i64 0) := (blk_cell BK258.out 2).trans rfl
                  have hcz18_3 : w9.cell? ⟨gb258, 3, none⟩ = some (.int .i64 0) := (blk_cell BK258.out 3).trans rfl
                  have hcz18_4 : w9.cell? ⟨gb258, 4, none⟩ = some (.int .i64 0) := (blk_cell BK258.out 4).trans rfl
                  have hfz18_0 := blk_frozen BK258.out 0
                  have hfz18_1 := blk_frozen BK258.out 1
                  have hfz18_2 := blk_frozen BK258.out 2
                  have hfz18_3 := blk_frozen BK258.out 3
                  have hfz18_4 := blk_frozen BK258.out 4
                  go_wp2_with (first | ((with_reducible refine gate_callee (f := 88) rfl ?_); refine goesL_ (some 15) rfl rfl Try.func88 (by kernel_rfl) rfl #[.int .i64 ((rd_T89 l0 x9_1).f1), .int .i64 0, .int .i64 39] rfl (by (try simp only [List.map_toArray, List.map_cons, List.map_nil]); first | done | rfl | (simp only [List.length_drop, List.length_take]; rfl)) ?_; (with_reducible refine (spec_l1In.calls ((rd_T89 l0 x9_1).f1) 0 39 false _ A11.out).mono ?_); rintro e w' ⟨rfl, ⟨nd, rfl⟩⟩; refine ⟨_, rfl, ?_⟩))
                  go_meet
                  case rel => exact ⟨_, (true), (by first | rfl | (simp; done) | (simp [*]; done)), H', ⟨by have := HK1.out; first | omega | exact Nat.le_refl _⟩, ⟨by (with_reducible repeat (first | apply Kd.R_alloc | apply Kd.R_drewN | apply Kd.R_drew)); exact Kd.R_mono (Kd.R_far (p := ⟨gb258, 4, none⟩) (Kd.R_far (p := ⟨gb258, 3, none⟩) (Kd.R_far (p := ⟨gb258, 2, none⟩) (Kd.R_far (p := ⟨gb258, 1, none⟩) (Kd.R_far (p := ⟨gb258, 0, none⟩) (Kd.R_types HO_3.out BK258.out (by decide)) (fun _ hk => hk.2) (.int .i64 ((rd_T89 l0 x9_1).f0))) (fun _ hk => hk.2) (.int .i64 ((rd_T89 l0 x9_1).f1))) (fun _ hk => hk.2) (.int .i64 ((rd_T89 l0 x9_1).f2))) (fun _ hk => hk.2) (.int .i64 ((rd_T89 l0 x9_1).f3))) (fun _ hk => hk.2) (.int .i64 ((rd_T89 l0 x9_1).f4))) (fun _ hk => trivial)⟩, ⟨by (with_reducible repeat (first | refine blk_drewN ?_ _ | refine blk_drew ?_ | refine blk_alloc ?_ _)); refine blk_put (cs := #[.int .i64 ((rd_T89 l0 x9_1).f0), .int .i64 ((rd_T89 l0 x9_1).f1), .int .i64 ((rd_T89 l0 x9_1).f2), .int .i64 ((rd_T89 l0 x9_1).f3), .int .i64 0]) ?_ 4 _ rfl; (with_reducible repeat (first | refine blk_drewN ?_ _ | refine blk_drew ?_ | refine blk_alloc ?_ _)); refine blk_put (cs := #[.int .i64 ((rd_T89 l0 x9_1).f0), .int .i64 ((rd_T89 l0 x9_1).f1), .int .i64 ((rd_T89 l0 x9_1).f2), .int .i64 0, .int .i64 0]) ?_ 3 _ rfl; (with_reducible repeat (first | refine blk_drewN ?_ _ | refine blk_drew ?_ | refine blk_alloc ?_ _)); refine blk_put (cs := #[.int .i64 ((rd_T89 l0 x9_1).f0), .int .i64 ((rd_T89 l0 x9_1).f1), .int .i64 0, .int .i64 0, .int .i64 0]) ?_ 2 _ rfl; (with_reducible repeat (first | refine blk_drewN ?_ _ | refine blk_drew ?_ | refine blk_alloc ?_ _)); refine blk_put (cs := #[.int .i64 ((rd_T89 l0 x9_1).f0), .int .i64 0, .int .i64 0, .int .i64 0, .int .i64 0]) ?_ 1 _ rfl; (with_reducible repeat (first | refine blk_drewN ?_ _ | refine blk_drew ?_ | refine blk_alloc ?_ _)); refine blk_put (cs := #[.int .i64 0, .int .i64 0, .int .i64 0, .int .i64 0, .int .i64 0]) ?_ 0 _ rfl; (with_reducible repeat (first | refine blk_drewN ?_ _ | refine blk_drew ?_ | refine blk_alloc ?_ _)); exact BK258.out⟩, ⟨by repeat (first | (with_reducible first | exact HB.out | apply below_alloc | apply pw_below_drewN | apply below_drew1 | refine below_set ?_ GE258.out) | exact HB.out)⟩⟩
              case rest =>
                clear HC8
                try clear c1
                try clear c2
                try clear c2b0
                try clear c2b1
                try clear p2
                try clear q2
                try clear hx2
                try clear c5
                try clear c5b0
                try clear c6
                try clear c6b0
                try clear c7
                try clear c7b0
                try clear c8
                try clear c12
                try clear c14
                try clear hcz10_0
                try clear hcz10_1
                try clear hcz10_2
                try clear hcz10_3
                try clear hcz10_4
                try clear hcz16_0
                try clear hcz16_1
                try clear hcz16_2
                try clear hcz16_3
                try clear hcz16_4
                try clear hcz17_0
                try clear hcz17_1
                try clear hcz17_2
                try clear hcz17_3
                try clear hcz17_4
                try clear hcz18_0
                try clear hcz18_1
                try clear hcz18_2
                try clear hcz18_3
                try clear hcz18_4
                try clear hfz10_0
                try clear hfz10_1
                try clear hfz10_2
                try clear hfz10_3
                try clear hfz10_4
                try clear hfz16_0
                try clear hfz16_1
                try clear hfz16_2
                try clear hfz16_3
                try clear hfz16_4
                try clear hfz17_0
                try clear hfz17_1
                try clear hfz17_2
                try clear hfz17_3
                try clear hfz17_4
                try clear hfz18_0
                try clear hfz18_1
                try clear hfz18_2
                try clear hfz18_3
                try clear hfz18_4
                try clear hx257_0
                try clear hx257_1
                try clear hx257_2
                try clear hx257_3
                try clear hx257_4
                try clear p2
                try clear p257
                try clear q257
                obtain ⟨kq, x28_7, rfl, HA, HJ7, HO_3, BK258, HB⟩ := hcut
                cases kq with
                | zero => exact absurd HA.out (by simp [spec_l13Good.j1])
                | succ kj7 =>
                  have H := HA.out
                  clear HA
                  simp only [spec_l13Good.j1] at H
                  by_cases c19 : x28_7 = true
                  · subst c19
                    have H1 : (some false) = some r := by rw [if_pos rfl] at H; exact H
                    clear H
                    have H := H1
                    clear H1
                    obtain rfl := Option.some.inj H
                    go_wp2
                    go_ret
                    exact ⟨by first | rfl | (simp [errW_none, errW_some] <;> rfl) | (simp [*, errW_none, errW_some] <;> rfl), by repeat (first | (with_reducible first | exact HB.out | apply below_alloc | apply pw_below_drewN | apply below_drew1 | refine below_set ?_ GE258.out) | exact HB.out)⟩
                  · replace c19 := Bool.eq_false_iff.mpr c19
                    subst c19
                    have H1 : (if ((rd_T89 l0 x9_1).f0) = 1 then (if ((rd_T89 l0 x9_1).f2) = 0 then (if ((rd_T89 l0 x9_1).f3) = 0 then ((spec_l1In.f ((rd_T89 l0 x9_1).f4) (-1000) 1000).bind fun t262 => (if t262 = true then (if 0 ≤ ((rd_T89 l0 x9_1).f1) then (if ((rd_T89 l0 x9_1).f1) < (x3_1.length : Int) then (spec_l13Good.l0 kj7 l0 (x3_1.set (((rd_T89 l0 x9_1).f1) : Int).toNat true) l0 (l0.length : Int) (wrap64 (x9_1 + 1))) else (none)) else (none)) else (some false))) else (some false)) else (some false)) else ((spec_l1In.f ((rd_T89 l0 x9_1).f0) 2 4).bind fun t264 => (if t264 = true then (if ((rd_T89 l0 x9_1).f4) = 0 then (if 0 ≤ ((rd_T89 l0 x9_1).f2) then (if ((rd_T89 l0 x9_1).f2) < (x3_1.length : Int) then (if rdOf false x3_1 ((rd_T89 l0 x9_1).f2) = true then (if 0 ≤ ((rd_T89 l0 x9_1).f3) then (if ((rd_T89 l0 x9_1).f3) < (x3_1.length : Int) then (if rdOf false x3_1 ((rd_T89 l0 x9_1).f3) = true then (if 0 ≤ ((rd_T89 l0 x9_1).f1) then (if ((rd_T89 l0 x9_1).f1) < (x3_1.length : Int) then (spec_l13Good.l0 kj7 l0 (x3_1.set (((rd_T89 l0 x9_1).f1) : Int).toNat true) l0 (l0.length : Int) (wrap64 (x9_1 + 1))) else (none)) else (none)) else (some false)) else (none)) else (none)) else (some false)) else (none)) else (none)) else (some false)) else (some false)))) = some r := by rw [if_neg (show ¬ (false = true) by decide)] at H; exact H
                    clear H
                    have H := H1
                    clear H1
                    by_cases c20 : ((rd_T89 l0 x9_1).f0) = 1
                    · rw [if_pos c20] at H
                      have c20b0 : (((rd_T89 l0 x9_1).f0) == 1) = true := beq_iff_eq.mpr c20
                      have c20b1 : (((rd_T89 l0 x9_1).f0) != 1) = false := bne_eq_false_iff_eq.mpr c20
                      clear c20
                      by_cases c21 : ((rd_T89 l0 x9_1).f2) = 0
                      · rw [if_pos c21] at H
                        have c21b0 : (((rd_T89 l0 x9_1).f2) == 0) = true := beq_iff_eq.mpr c21
                        have c21b1 : (((rd_T89 l0 x9_1).f2) != 0) = false := bne_eq_false_iff_eq.mpr c21
                        clear c21
                        by_cases c22 : ((rd_T89 l0 x9_1).f3) = 0
                        · rw [if_pos c22] at H
                          have c22b0 : (((rd_T89 l0 x9_1).f3) == 0) = true := beq_iff_eq.mpr c22
                          have c22b1 : (((rd_T89 l0 x9_1).f3) != 0) = false := bne_eq_false_iff_eq.mpr c22
                          clear c22
                          replace H := Option.bind_eq_some_iff.mp H
                          obtain ⟨t262, A230, H⟩ := H
                          replace H : (if t262 = true then (if 0 ≤ ((rd_T89 l0 x9_1).f1) then (if ((rd_T89 l0 x9_1).f1) < (x3_1.length : Int) then (spec_l13Good.l0 kj7 l0 (x3_1.set (((rd_T89 l0 x9_1).f1) : Int).toNat true) l0 (l0.length : Int) (wrap64 (x9_1 + 1))) else (none)) else (none)) else (some false)) = some r := H
                          have A23 := Aside0.mk A230
                          clear A230
                          by_cases c24 : t262 = true
                          · subst c24
                            have H1 : (if 0 ≤ ((rd_T89 l0 x9_1).f1) then (if ((rd_T89 l0 x9_1).f1) < (x3_1.length : Int) then (spec_l13Good.l0 kj7 l0 (x3_1.set (((rd_T89 l0 x9_1).f1) : Int).toNat true) l0 (l0.length : Int) (wrap64 (x9_1 + 1))) else (none)) else (none)) = some r := by rw [if_pos rfl] at H; exact H
                            clear H
                            have H := H1
                            clear H1
                            by_cases c25 : 0 ≤ ((rd_T89 l0 x9_1).f1)
                            · rw [if_pos c25] at H
                              have c25b0 : decide (0 ≤ ((rd_T89 l0 x9_1).f1)) = true := decide_eq_true c25
                              clear c25
                              by_cases c26 : ((rd_T89 l0 x9_1).f1) < (x3_1.length : Int)
                              · rw [if_pos c26] at H
                                have c26b0 : decide (((rd_T89 l0 x9_1).f1) < (x3_1.length : Int)) = true := decide_eq_true c26
                                clear c26
                                obtain ⟨y263, hy263⟩ : ∃ y_ : List Bool, y_ = (x3_1.set (((rd_T89 l0 x9_1).f1) : Int).toNat true) := ⟨_, rfl⟩
                                replace H : (spec_l13Good.l0 kj7 l0 y263 l0 (l0.length : Int) (wrap64 (x9_1 + 1))) = some r := by first | (rw [hy263]; with_reducible exact H) | (have H2_ := (Option.bind_some _ _).symm.trans H; rw [hy263]; with_reducible exact H2_) | (have H2_ := (Option.bind_some _ _).symm.trans H; with_reducible exact H2_) | with_reducible exact H | (rw [hy263]; exact H) | exact H
                                have Ny263 := Aside0.mk hy263
                                clear hy263
                                have H' := Aside0.mk H
                                clear H
                                have hcz28_0 : wc.cell? ⟨gb258, 0, none⟩ = some (.int .i64 ((rd_T89 l0 x9_1).f0)) := (blk_cell BK258.out 0).trans rfl
                                have hcz28_1 : wc.cell? ⟨gb258, 1, none⟩ = some (.int .i64 ((rd_T89 l0 x9_1).f1)) := (blk_cell BK258.out 1).trans rfl
                                have hcz28_2 : wc.cell? ⟨gb258, 2, none⟩ = some (.int .i64 ((rd_T89 l0 x9_1).f2)) := (blk_cell BK258.out 2).trans rfl
                                have hcz28_3 : wc.cell? ⟨gb258, 3, none⟩ = some (.int .i64 ((rd_T89 l0 x9_1).f3)) := (blk_cell BK258.out 3).trans rfl
                                have hcz28_4 : wc.cell? ⟨gb258, 4, none⟩ = some (.int .i64 ((rd_T89 l0 x9_1).f4)) := (blk_cell BK258.out 4).trans rfl
                                have hfz28_0 := blk_frozen BK258.out 0
                                have hfz28_1 := blk_frozen BK258.out 1
                                have hfz28_2 := blk_frozen BK258.out 2
                                have hfz28_3 := blk_frozen BK258.out 3
                                have hfz28_4 := blk_frozen BK258.out 4
                                go_wp2_with (first | (go_at_call 88; (with_reducible refine (spec_l1In.calls ((rd_T89 l0 x9_1).f4) (-1000) 1000 true _ A23.out).mono ?_); rintro e w' ⟨rfl, ⟨nd, rfl⟩⟩; (try (rw [drewN_self wc]; generalize hq_ : World.drewN wc _ = wc; have n0_ : Aside0 (Kd.R Kd.bool 4 wc w.heap.size (fun _ => True) v254 x3_1) := ⟨by rw [← hq_]; exact (by (with_reducible repeat (first | apply Kd.R_alloc | apply Kd.R_drewN | apply Kd.R_drew)); exact HO_3.out)⟩; have n1_ : Aside0 (wc.heap[gb258]? = some (.cells #[.int .i64 ((rd_T89 l0 x9_1).f0), .int .i64 ((rd_T89 l0 x9_1).f1), .int .i64 ((rd_T89 l0 x9_1).f2), .int .i64 ((rd_T89 l0 x9_1).f3), .int .i64 ((rd_T89 l0 x9_1).f4)] 89 (0, 0))) := ⟨by rw [← hq_]; exact (by (with_reducible repeat (first | refine blk_drewN ?_ _ | refine blk_drew ?_ | refine blk_alloc ?_ _)); exact BK258.out)⟩; have n2_ : Aside0 (Below w.heap.size w wc) := ⟨by rw [← hq_]; exact (by repeat (first | (with_reducible first | exact HB.out | apply below_alloc | apply pw_below_drewN | apply below_drew1 | refine below_set ?_ GE258.out) | exact HB.out))⟩; clear HO_3 BK258 HB hq_; have HO_3 := n0_; have BK258 := n1_; have HB := n2_; clear n0_ n1_ n2_; have hcz28_0 : wc.cell? ⟨gb258, 0, none⟩ = some (.int .i64 ((rd_T89 l0 x9_1).f0)) := (blk_cell BK258.out 0).trans rfl; have hcz28_1 : wc.cell? ⟨gb258, 1, none⟩ = some (.int .i64 ((rd_T89 l0 x9_1).f1)) := (blk_cell BK258.out 1).trans rfl; have hcz28_2 : wc.cell? ⟨gb258, 2, none⟩ = some (.int .i64 ((rd_T89 l0 x9_1).f2)) := (blk_cell BK258.out 2).trans rfl; have hcz28_3 : wc.cell? ⟨gb258, 3, none⟩ = some (.int .i64 ((rd_T89 l0 x9_1).f3)) := (blk_cell BK258.out 3).trans rfl; have hcz28_4 : wc.cell? ⟨gb258, 4, none⟩ = some (.int .i64 ((rd_T89 l0 x9_1).f4)) := (blk_cell BK258.out 4).trans rfl; have hfz28_0 := blk_frozen BK258.out 0; have hfz28_1 := blk_frozen BK258.out 1; have hfz28_2 := blk_frozen BK258.out 2; have hfz28_3 := blk_frozen BK258.out 3; have hfz28_4 := blk_frozen BK258.out 4)); have p27 : 0 ≤ (((rd_T89 l0 x9_1).f1) : Int) := of_decide_eq_true (by first | (with_reducible assumption) | assumption); have q27 : (((rd_T89 l0 x9_1).f1) : Int) < ((x3_1.length : Int) : Int) := of_decide_eq_true (by first | (with_reducible assumption) | assumption); obtain ⟨go27, co27, eo27, gb27, gl27, cl27, HG27⟩ := Kd.R_form HO_3.out (by omega); (first | cases eo27 | (injection eo27 with ea_ en_ ec_; (first | subst ea_ | (injection ea_ with ea_; subst ea_)); subst ec_; clear en_)); have GB27 := Aside0.mk gb27; have GG27 := Aside0.mk HG27; clear gb27 gl27 HG27; obtain ⟨hx27_0, hf27_0⟩ := Kd.R_celln false HO_3.out (((rd_T89 l0 x9_1).f1) : Int) p27 q27; replace p27 := eq_true p27; replace q27 := eq_true q27; obtain ⟨hy29_, hz29_⟩ := Kd.R_celln false HO_3.out (((rd_T89 l0 x9_1).f1) : Int) (of_decide_eq_true (by first | (with_reducible assumption) | assumption)) (of_decide_eq_true (by first | (with_reducible assumption) | assumption)); have HP29 := Kd.R_putg HO_3.out (((rd_T89 l0 x9_1).f1) : Int) true) | ((with_reducible refine gate_store (t := 4) (p := 74) rfl ?_); refine store_event (t := 4) (p := 74) (v := ?vo_w30) (w1 := (wc.setCell ⟨go27, (((rd_T89 l0 x9_1).f1) : Int).toNat, none⟩ (.bool true))) ?hg ?ho ?hn ?hr ?_; (case ho => rfl); (case hg => rfl); (case hn => rfl); (case hr => first | (go_simp; done) | (go_simp; rfl)); intro w30 hw; have hg : wc.grownBy w30 (some go27) := (by rw [hw]; exact HP29.2); have hp_ : Kd.R Kd.bool 4 w30 w.heap.size (fun _ => True) (.slice (some ⟨go27, 0, none⟩) x3_1.length co27) y263 := (by rw [hw, Ny263.out]; exact HP29.1); clear HP29; have n0_ := Aside0.mk (hp_); have n1_ := Aside0.mk (blk_grown (g := gb258) (o := .cells #[.int .i64 ((rd_T89 l0 x9_1).f0), .int .i64 ((rd_T89 l0 x9_1).f1), .int .i64 ((rd_T89 l0 x9_1).f2), .int .i64 ((rd_T89 l0 x9_1).f3), .int .i64 ((rd_T89 l0 x9_1).f4)] 89 (0, 0)) (by (with_reducible repeat (first | refine blk_drewN ?_ _ | refine blk_drew ?_ | refine blk_alloc ?_ _)); exact BK258.out) hg (Kd.R_ne HO_3.out BK258.out (by decide))); have n2_ := Aside0.mk ((by rw [hw]; exact below_set (HB.out) GB27.out : Below w.heap.size w w30)); clear HO_3; clear BK258; clear HB; have HO_3 := n0_; have BK258 := n1_; have HB := n2_; clear n0_ n1_ n2_; clear hg hw hp_))
                                go_roundg kj7
                                case measure => have := HK1.out; have := HJ7.out; omega
                                case rel => exact ⟨(y263), (wrap64 (x9_1 + 1)), (by first | rfl | (simp; done) | (simp [*]; done)), H', ⟨by have := HK1.out; have := HJ7.out; omega⟩, ⟨by (with_reducible repeat (first | apply Kd.R_alloc | apply Kd.R_drewN | apply Kd.R_drew)); exact HO_3.out⟩, ⟨by repeat (first | (with_reducible first | exact HB.out | apply below_alloc | apply pw_below_drewN | apply below_drew1 | refine below_set ?_ GE258.out) | exact HB.out)⟩⟩
                              · rw [if_neg c26] at H
                                exact absurd H (by simp)
                            · rw [if_neg c25] at H
                              exact absurd H (by simp)
                          · replace c24 := Bool.eq_false_iff.mpr c24
                            subst c24
                            have H1 : (some false) = some r := by rw [if_neg (show ¬ (false = true) by decide)] at H; exact H
                            clear H
                            have H := H1
                            clear H1
                            obtain rfl := Option.some.inj H
                            have hcz31_0 : wc.cell? ⟨gb258, 0, none⟩ = some (.int .i64 ((rd_T89 l0 x9_1).f0)) := (blk_cell BK258.out 0).trans rfl
                            have hcz31_1 : wc.cell? ⟨gb258, 1, none⟩ = some (.int .i64 ((rd_T89 l0 x9_1).f1)) := (blk_cell BK258.out 1).trans rfl
                            have hcz31_2 : wc.cell? ⟨gb258, 2, none⟩ = some (.int .i64 ((rd_T89 l0 x9_1).f2)) := (blk_cell BK258.out 2).trans rfl
                            have hcz31_3 : wc.cell? ⟨gb258, 3, none⟩ = some (.int .i64 ((rd_T89 l0 x9_1).f3)) := (blk_cell BK258.out 3).trans rfl
                            have hcz31_4 : wc.cell? ⟨gb258, 4, none⟩ = some (.int .i64 ((rd_T89 l0 x9_1).f4)) := (blk_cell BK258.out 4).trans rfl
                            have hfz31_0 := blk_frozen BK258.out 0
                            have hfz31_1 := blk_frozen BK258.out 1
                            have hfz31_2 := blk_frozen BK258.out 2
                            have hfz31_3 := blk_frozen BK258.out 3
                            have hfz31_4 := blk_frozen BK258.out 4
                            go_wp2_with (first | (go_at_call 88; (with_reducible refine (spec_l1In.calls ((rd_T89 l0 x9_1).f4) (-1000) 1000 false _ A23.out).mono ?_); rintro e w' ⟨rfl, ⟨nd, rfl⟩⟩))
                            go_ret
                            exact ⟨by first | rfl | (simp [errW_none, errW_some] <;> rfl) | (simp [*, errW_none, errW_some] <;> rfl), by repeat (first | (with_reducible first | exact HB.out | apply below_alloc | apply pw_below_drewN | apply below_drew1 | refine below_set ?_ GE258.out) | exact HB.out)⟩
                        · rw [if_neg c22] at H
                          have c22b0 : (((rd_T89 l0 x9_1).f3) == 0) = false := beq_eq_false_iff_ne.mpr c22
                          have c22b1 : (((rd_T89 l0 x9_1).f3) != 0) = true := bne_iff_ne.mpr c22
                          obtain rfl := Option.some.inj H
                          have hcz32_0 : wc.cell? ⟨gb258, 0, none⟩ = some (.int .i64 ((rd_T89 l0 x9_1).f0)) := (blk_cell BK258.out 0).trans rfl
                          have hcz32_1 : wc.cell? ⟨gb258, 1, none⟩ = some (.int .i64 ((rd_T89 l0 x9_1).f1)) := (blk_cell BK258.out 1).trans rfl
                          have hcz32_2 : wc.cell? ⟨gb258, 2, none⟩ = some (.int .i64 ((rd_T89 l0 x9_1).f2)) := (blk_cell BK258.out 2).trans rfl
                          have hcz32_3 : wc.cell? ⟨gb258, 3, none⟩ = some (.int .i64 ((rd_T89 l0 x9_1).f3)) := (blk_cell BK258.out 3).trans rfl
                          have hcz32_4 : wc.cell? ⟨gb258, 4, none⟩ = some (.int .i64 ((rd_T89 l0 x9_1).f4)) := (blk_cell BK258.out 4).trans rfl
                          have hfz32_0 := blk_frozen BK258.out 0
                          have hfz32_1 := blk_frozen BK258.out 1
                          have hfz32_2 := blk_frozen BK258.out 2
                          have hfz32_3 := blk_frozen BK258.out 3
                          have hfz32_4 := blk_frozen BK258.out 4
                          go_wp2
                          go_ret
                          exact ⟨by first | rfl | (simp [errW_none, errW_some] <;> rfl) | (simp [*, errW_none, errW_some] <;> rfl), by repeat (first | (with_reducible first | exact HB.out | apply below_alloc | apply pw_below_drewN | apply below_drew1 | refine below_set ?_ GE258.out) | exact HB.out)⟩
                      · rw [if_neg c21] at H
                        have c21b0 : (((rd_T89 l0 x9_1).f2) == 0) = false := beq_eq_false_iff_ne.mpr c21
                        have c21b1 : (((rd_T89 l0 x9_1).f2) != 0) = true := bne_iff_ne.mpr c21
                        obtain rfl := Option.some.inj H
                        have hcz33_0 : wc.cell? ⟨gb258, 0, none⟩ = some (.int .i64 ((rd_T89 l0 x9_1).f0)) := (blk_cell BK258.out 0).trans rfl
                        have hcz33_1 : wc.cell? ⟨gb258, 1, none⟩ = some (.int .i64 ((rd_T89 l0 x9_1).f1)) := (blk_cell BK258.out 1).trans rfl
                        have hcz33_2 : wc.cell? ⟨gb258, 2, none⟩ = some (.int .i64 ((rd_T89 l0 x9_1).f2)) := (blk_cell BK258.out 2).trans rfl
                        have hcz33_3 : wc.cell? ⟨gb258, 3, none⟩ = some (.int .i64 ((rd_T89 l0 x9_1).f3)) := (blk_cell BK258.out 3).trans rfl
                        have hcz33_4 : wc.cell? ⟨gb258, 4, none⟩ = some (.int .i64 ((rd_T89 l0 x9_1).f4)) := (blk_cell BK258.out 4).trans rfl
                        have hfz33_0 := blk_frozen BK258.out 0
                        have hfz33_1 := blk_frozen BK258.out 1
                        have hfz33_2 := blk_frozen BK258.out 2
                        have hfz33_3 := blk_frozen BK258.out 3
                        have hfz33_4 := blk_frozen BK258.out 4
                        go_wp2
                        go_ret
                        exact ⟨by first | rfl | (simp [errW_none, errW_some] <;> rfl) | (simp [*, errW_none, errW_some] <;> rfl), by repeat (first | (with_reducible first | exact HB.out | apply below_alloc | apply pw_below_drewN | apply below_drew1 | refine below_set ?_ GE258.out) | exact HB.out)⟩
                    · rw [if_neg c20] at H
                      have c20b0 : (((rd_T89 l0 x9_1).f0) == 1) = false := beq_eq_false_iff_ne.mpr c20
                      have c20b1 : (((rd_T89 l0 x9_1).f0) != 1) = true := bne_iff_ne.mpr c20
                      replace H := Option.bind_eq_some_iff.mp H
                      obtain ⟨t264, A340, H⟩ := H
                      replace H : (if t264 = true then (if ((rd_T89 l0 x9_1).f4) = 0 then (if 0 ≤ ((rd_T89 l0 x9_1).f2) then (if ((rd_T89 l0 x9_1).f2) < (x3_1.length : Int) then (if rdOf false x3_1 ((rd_T89 l0 x9_1).f2) = true then (if 0 ≤ ((rd_T89 l0 x9_1).f3) then (if ((rd_T89 l0 x9_1).f3) < (x3_1.length : Int) then (if rdOf false x3_1 ((rd_T89 l0 x9_1).f3) = true then (if 0 ≤ ((rd_T89 l0 x9_1).f1) then (if ((rd_T89 l0 x9_1).f1) < (x3_1.length : Int) then (spec_l13Good.l0 kj7 l0 (x3_1.set (((rd_T89 l0 x9_1).f1) : Int).toNat true) l0 (l0.length : Int) (wrap64 (x9_1 + 1))) else (none)) else (none)) else (some false)) else (none)) else (none)) else (some false)) else (none)) else (none)) else (some false)) else (some false)) = some r := H
                      have A34 := Aside0.mk A340
                      clear A340
                      by_cases c35 : t264 = true
                      · subst c35
                        have H1 : (if ((rd_T89 l0 x9_1).f4) = 0 then (if 0 ≤ ((rd_T89 l0 x9_1).f2) then (if ((rd_T89 l0 x9_1).f2) < (x3_1.length : Int) then (if rdOf false x3_1 ((rd_T89 l0 x9_1).f2) = true then (if 0 ≤ ((rd_T89 l0 x9_1).f3) then (if ((rd_T89 l0 x9_1).f3) < (x3_1.length : Int) then (if rdOf false x3_1 ((rd_T89 l0 x9_1).f3) = true then (if 0 ≤ ((rd_T89 l0 x9_1).f1) then (if ((rd_T89 l0 x9_1).f1) < (x3_1.length : Int) then (spec_l13Good.l0 kj7 l0 (x3_1.set (((rd_T89 l0 x9_1).f1) : Int).toNat true) l0 (l0.length : Int) (wrap64 (x9_1 + 1))) else (none)) else (none)) else (some false)) else (none)) else (none)) else (some false)) else (none)) else (none)) else (some false)) = some r := by rw [if_pos rfl] at H; exact H
                        clear H
                        have H := H1
                        clear H1
                        by_cases c36 : ((rd_T89 l0 x9_1).f4) = 0
                        · rw [if_pos c36] at H
                          have c36b0 : (((rd_T89 l0 x9_1).f4) == 0) = true := beq_iff_eq.mpr c36
                          have c36b1 : (((rd_T89 l0 x9_1).f4) != 0) = false := bne_eq_false_iff_eq.mpr c36
                          clear c36
                          by_cases c37 : 0 ≤ ((rd_T89 l0 x9_1).f2)
                          · rw [if_pos c37] at H
                            have c37b0 : decide (0 ≤ ((rd_T89 l0 x9_1).f2)) = true := decide_eq_true c37
                            clear c37
                            by_cases c38 : ((rd_T89 l0 x9_1).f2) < (x3_1.length : Int)
                            · rw [if_pos c38] at H
                              have c38b0 : decide (((rd_T89 l0 x9_1).f2) < (x3_1.length : Int)) = true := decide_eq_true c38
                              clear c38
                              obtain ⟨bq39, hbq39⟩ : ∃ b_ : Bool, b_ = (rdOf false x3_1 ((rd_T89 l0 x9_1).f2)) := ⟨_, rfl⟩
                              replace H : (if bq39 = true then (if 0 ≤ ((rd_T89 l0 x9_1).f3) then (if ((rd_T89 l0 x9_1).f3) < (x3_1.length : Int) then (if rdOf false x3_1 ((rd_T89 l0 x9_1).f3) = true then (if 0 ≤ ((rd_T89 l0 x9_1).f1) then (if ((rd_T89 l0 x9_1).f1) < (x3_1.length : Int) then (spec_l13Good.l0 kj7 l0 (x3_1.set (((rd_T89 l0 x9_1).f1) : Int).toNat true) l0 (l0.length : Int) (wrap64 (x9_1 + 1))) else (none)) else (none)) else (some false)) else (none)) else (none)) else (some false)) = some r := by rw [← hbq39] at H; exact H
                              have Nbq39 := Aside0.mk hbq39
                              clear hbq39
                              by_cases c40 : bq39 = true
                              · subst c40
                                have H1 : (if 0 ≤ ((rd_T89 l0 x9_1).f3) then (if ((rd_T89 l0 x9_1).f3) < (x3_1.length : Int) then (if rdOf false x3_1 ((rd_T89 l0 x9_1).f3) = true then (if 0 ≤ ((rd_T89 l0 x9_1).f1) then (if ((rd_T89 l0 x9_1).f1) < (x3_1.length : Int) then (spec_l13Good.l0 kj7 l0 (x3_1.set (((rd_T89 l0 x9_1).f1) : Int).toNat true) l0 (l0.length : Int) (wrap64 (x9_1 + 1))) else (none)) else (none)) else (some false)) else (none)) else (none)) = some r := by rw [if_pos rfl] at H; exact H
                                clear H
                                have H := H1
                                clear H1
                                by_cases c41 : 0 ≤ ((rd_T89 l0 x9_1).f3)
                                · rw [if_pos c41] at H
                                  have c41b0 : decide (0 ≤ ((rd_T89 l0 x9_1).f3)) = true := decide_eq_true c41
                                  clear c41
                                  by_cases c42 : ((rd_T89 l0 x9_1).f3) < (x3_1.length : Int)
                                  · rw [if_pos c42] at H
                                    have c42b0 : decide (((rd_T89 l0 x9_1).f3) < (x3_1.length : Int)) = true := decide_eq_true c42
                                    clear c42
                                    obtain ⟨bq43, hbq43⟩ : ∃ b_ : Bool, b_ = (rdOf false x3_1 ((rd_T89 l0 x9_1).f3)) := ⟨_, rfl⟩
                                    replace H : (if bq43 = true then (if 0 ≤ ((rd_T89 l0 x9_1).f1) then (if ((rd_T89 l0 x9_1).f1) < (x3_1.length : Int) then (spec_l13Good.l0 kj7 l0 (x3_1.set (((rd_T89 l0 x9_1).f1) : Int).toNat true) l0 (l0.length : Int) (wrap64 (x9_1 + 1))) else (none)) else (none)) else (some false)) = some r := by rw [← hbq43] at H; exact H
                                    have Nbq43 := Aside0.mk hbq43
                                    clear hbq43
                                    by_cases c44 : bq43 = true
                                    · subst c44
                                      have H1 : (if 0 ≤ ((rd_T89 l0 x9_1).f1) then (if ((rd_T89 l0 x9_1).f1) < (x3_1.length : Int) then (spec_l13Good.l0 kj7 l0 (x3_1.set (((rd_T89 l0 x9_1).f1) : Int).toNat true) l0 (l0.length : Int) (wrap64 (x9_1 + 1))) else (none)) else (none)) = some r := by rw [if_pos rfl] at H; exact H
                                      clear H
                                      have H := H1
                                      clear H1
                                      by_cases c45 : 0 ≤ ((rd_T89 l0 x9_1).f1)
                                      · rw [if_pos c45] at H
                                        have c45b0 : decide (0 ≤ ((rd_T89 l0 x9_1).f1)) = true := decide_eq_true c45
                                        clear c45
                                        by_cases c46 : ((rd_T89 l0 x9_1).f1) < (x3_1.length : Int)
                                        · rw [if_pos c46] at H
                                          have c46b0 : decide (((rd_T89 l0 x9_1).f1) < (x3_1.length : Int)) = true := decide_eq_true c46
                                          clear c46
                                          obtain ⟨y267, hy267⟩ : ∃ y_ : List Bool, y_ = (x3_1.set (((rd_T89 l0 x9_1).f1) : Int).toNat true) := ⟨_, rfl⟩
                                          replace H : (spec_l13Good.l0 kj7 l0 y267 l0 (l0.length : Int) (wrap64 (x9_1 + 1))) = some r := by first | (rw [hy267]; with_reducible exact H) | (have H2_ := (Option.bind_some _ _).symm.trans H; rw [hy267]; with_reducible exact H2_) | (have H2_ := (Option.bind_some _ _).symm.trans H; with_reducible exact H2_) | with_reducible exact H | (rw [hy267]; exact H) | exact H
                                          have Ny267 := Aside0.mk hy267
                                          clear hy267
                                          have H' := Aside0.mk H
                                          clear H
                                          have hcz48_0 : wc.cell? ⟨gb258, 0, none⟩ = some (.int .i64 ((rd_T89 l0 x9_1).f0)) := (blk_cell BK258.out 0).trans rfl
                                          have hcz48_1 : wc.cell? ⟨gb258, 1, none⟩ = some (.int .i64 ((rd_T89 l0 x9_1).f1)) := (blk_cell BK258.out 1).trans rfl
                                          have hcz48_2 : wc.cell? ⟨gb258, 2, none⟩ = some (.int .i64 ((rd_T89 l0 x9_1).f2)) := (blk_cell BK258.out 2).trans rfl
                                          have hcz48_3 : wc.cell? ⟨gb258, 3, none⟩ = some (.int .i64 ((rd_T89 l0 x9_1).f3)) := (blk_cell BK258.out 3).trans rfl
                                          have hcz48_4 : wc.cell? ⟨gb258, 4, none⟩ = some (.int .i64 ((rd_T89 l0 x9_1).f4)) := (blk_cell BK258.out 4).trans rfl
                                          have hfz48_0 := blk_frozen BK258.out 0
                                          have hfz48_1 := blk_frozen BK258.out 1
                                          have hfz48_2 := blk_frozen BK258.out 2
                                          have hfz48_3 := blk_frozen BK258.out 3
                                          have hfz48_4 := blk_frozen BK258.out 4
                                          go_wp2_with (first | ((with_reducible refine gate_callee (f := 88) rfl ?_); refine goesL_ (some 48) rfl rfl Try.func88 (by kernel_rfl) rfl #[.int .i64 ((rd_T89 l0 x9_1).f0), .int .i64 2, .int .i64 4] rfl (by (try simp only [List.map_toArray, List.map_cons, List.map_nil]); first | done | rfl | (simp only [List.length_drop, List.length_take]; rfl)) ?_; (with_reducible refine (spec_l1In.calls ((rd_T89 l0 x9_1).f0) 2 4 true _ A34.out).mono ?_); rintro e w' ⟨rfl, ⟨nd, rfl⟩⟩; refine ⟨_, rfl, ?_⟩; (try (rw [drewN_self wc]; generalize hq_ : World.drewN wc _ = wc; have n0_ : Aside0 (Kd.R Kd.bool 4 wc w.heap.size (fun _ => True) v254 x3_1) := ⟨by rw [← hq_]; exact (by (with_reducible repeat (first | apply Kd.R_alloc | apply Kd.R_drewN | apply Kd.R_drew)); exact HO_3.out)⟩; have n1_ : Aside0 (wc.heap[gb258]? = some (.cells #[.int .i64 ((rd_T89 l0 x9_1).f0), .int .i64 ((rd_T89 l0 x9_1).f1), .int .i64 ((rd_T89 l0 x9_1).f2), .int .i64 ((rd_T89 l0 x9_1).f3), .int .i64 ((rd_T89 l0 x9_1).f4)] 89 (0, 0))) := ⟨by rw [← hq_]; exact (by (with_reducible repeat (first | refine blk_drewN ?_ _ | refine blk_drew ?_ | refine blk_alloc ?_ _)); exact BK258.out)⟩; have n2_ : Aside0 (Below w.heap.size w wc) := ⟨by rw [← hq_]; exact (by repeat (first | (with_reducible first | exact HB.out | apply below_alloc | apply pw_below_drewN | apply below_drew1 | refine below_set ?_ GE258.out) | exact HB.out))⟩; clear HO_3 BK258 HB hq_; have HO_3 := n0_; have BK258 := n1_; have HB := n2_; clear n0_ n1_ n2_; have hcz48_0 : wc.cell? ⟨gb258, 0, none⟩ = some (.int .i64 ((rd_T89 l0 x9_1).f0)) := (blk_cell BK258.out 0).trans rfl; have hcz48_1 : wc.cell? ⟨gb258, 1, none⟩ = some (.int .i64 ((rd_T89 l0 x9_1).f1)) := (blk_cell BK258.out 1).trans rfl; have hcz48_2 : wc.cell? ⟨gb258, 2, none⟩ = some (.int .i64 ((rd_T89 l0 x9_1).f2)) := (blk_cell BK258.out 2).trans rfl; have hcz48_3 : wc.cell? ⟨gb258, 3, none⟩ = some (.int .i64 ((rd_T89 l0 x9_1).f3)) := (blk_cell BK258.out 3).trans rfl; have hcz48_4 : wc.cell? ⟨gb258, 4, none⟩ = some (.int .i64 ((rd_T89 l0 x9_1).f4)) := (blk_cell BK258.out 4).trans rfl; have hfz48_0 := blk_frozen BK258.out 0; have hfz48_1 := blk_frozen BK258.out 1; have hfz48_2 := blk_frozen BK258.out 2; have hfz48_3 := blk_frozen BK258.out 3; have hfz48_4 := blk_frozen BK258.out 4)); obtain ⟨Ao49, co49, eo49⟩ := Kd.R_slice HO_3.out; subst eo49; have p265 : 0 ≤ (((rd_T89 l0 x9_1).f2) : Int) := of_decide_eq_true (by first | (with_reducible assumption) | assumption); have q265 : ((rd_T89 l0 x9_1).f2) < (x3_1.length : Int) := of_decide_eq_true (by first | (with_reducible assumption) | assumption); obtain ⟨ad265, e265, hx265_0⟩ := Kd.at_bool (Kd.R_reads' HO_3.out).2.2 ((rd_T89 l0 x9_1).f2) p265 q265; (try rw [← Nbq39.out] at hx265_0); (try rw [← Nbq43.out] at hx265_0); cases e265; replace p265 := eq_true p265; replace q265 := eq_true q265; have p266 : 0 ≤ (((rd_T89 l0 x9_1).f3) : Int) := of_decide_eq_true (by first | (with_reducible assumption) | assumption); have q266 : ((rd_T89 l0 x9_1).f3) < (x3_1.length : Int) := of_decide_eq_true (by first | (with_reducible assumption) | assumption); obtain ⟨ad266, e266, hx266_0⟩ := Kd.at_bool (Kd.R_reads' HO_3.out).2.2 ((rd_T89 l0 x9_1).f3) p266 q266; (try rw [← Nbq39.out] at hx266_0); (try rw [← Nbq43.out] at hx266_0); obtain rfl : ad265 = ad266 := (by injection e266); replace p266 := eq_true p266; replace q266 := eq_true q266; have p47 : 0 ≤ (((rd_T89 l0 x9_1).f1) : Int) := of_decide_eq_true (by first | (with_reducible assumption) | assumption); have q47 : (((rd_T89 l0 x9_1).f1) : Int) < ((x3_1.length : Int) : Int) := of_decide_eq_true (by first | (with_reducible assumption) | assumption); obtain ⟨go47, co47, eo47, gb47, gl47, cl47, HG47⟩ := Kd.R_form HO_3.out (by omega); (first | cases eo47 | (injection eo47 with ea_ en_ ec_; (first | subst ea_ | (injection ea_ with ea_; subst ea_)); subst ec_; clear en_)); have GB47 := Aside0.mk gb47; have GG47 := Aside0.mk HG47; clear gb47 gl47 HG47; (first | simp only [add_plain] at hx265_0 | skip); (first | simp only [add_plain] at hx266_0 | skip); obtain ⟨hx47_0, hf47_0⟩ := Kd.R_celln false HO_3.out (((rd_T89 l0 x9_1).f1) : Int) p47 q47; replace p47 := eq_true p47; replace q47 := eq_true q47; obtain ⟨hy50_, hz50_⟩ := Kd.R_celln false HO_3.out (((rd_T89 l0 x9_1).f1) : Int) (of_decide_eq_true (by first | (with_reducible assumption) | assumption)) (of_decide_eq_true (by first | (with_reducible assumption) | assumption)); have HP50 := Kd.R_putg HO_3.out (((rd_T89 l0 x9_1).f1) : Int) true) | ((with_reducible refine gate_store (t := 4) (p := 74) rfl ?_); refine store_event (t := 4) (p := 74) (v := ?vo_w51) (w1 := (wc.setCell ⟨go47, (((rd_T89 l0 x9_1).f1) : Int).toNat, none⟩ (.bool true))) ?hg ?ho ?hn ?hr ?_; (case ho => rfl); (case hg => rfl); (case hn => rfl); (case hr => first | (go_simp; done) | (go_simp; rfl)); intro w51 hw; have hg : wc.grownBy w51 (some go47) := (by rw [hw]; exact HP50.2); have hp_ : Kd.R Kd.bool 4 w51 w.heap.size (fun _ => True) (.slice (some ⟨go47, 0, none⟩) x3_1.length co49) y267 := (by rw [hw, Ny267.out]; exact HP50.1); clear HP50; have n0_ := Aside0.mk (hp_); have n1_ := Aside0.mk (blk_grown (g := gb258) (o := .cells #[.int .i64 ((rd_T89 l0 x9_1).f0), .int .i64 ((rd_T89 l0 x9_1).f1), .int .i64 ((rd_T89 l0 x9_1).f2), .int .i64 ((rd_T89 l0 x9_1).f3), .int .i64 ((rd_T89 l0 x9_1).f4)] 89 (0, 0)) (by (with_reducible repeat (first | refine blk_drewN ?_ _ | refine blk_drew ?_ | refine blk_alloc ?_ _)); exact BK258.out) hg (Kd.R_ne HO_3.out BK258.out (by decide))); have n2_ := Aside0.mk ((by rw [hw]; exact below_set (HB.out) GB47.out : Below w.heap.size w w51)); clear HO_3; clear BK258; clear HB; have HO_3 := n0_; have BK258 := n1_; have HB := n2_; clear n0_ n1_ n2_; clear hg hw hp_))
                                          go_roundg kj7
                                          case measure => have := HK1.out; have := HJ7.out; omega
                                          case rel => exact ⟨(y267), (wrap64 (x9_1 + 1)), (by first | rfl | (simp; done) | (simp [*]; done)), H', ⟨by have := HK1.out; have := HJ7.out; omega⟩, ⟨by (with_reducible repeat (first | apply Kd.R_alloc | apply Kd.R_drewN | apply Kd.R_drew)); exact HO_3.out⟩, ⟨by repeat (first | (with_reducible first | exact HB.out | apply below_alloc | apply pw_below_drewN | apply below_drew1 | refine below_set ?_ GE258.out) | exact HB.out)⟩⟩
                                        · rw [if_neg c46] at H
                                          exact absurd H (by simp)
                                      · rw [if_neg c45] at H
                                        exact absurd H (by simp)
                                    · replace c44 := Bool.eq_false_iff.mpr c44
                                      subst c44
                                      have H1 : (some false) = some r := by rw [if_neg (show ¬ (false = true) by decide)] at H; exact H
                                      clear H
                                      have H := H1
                                      clear H1
                                      obtain rfl := Option.some.inj H
                                      have hcz52_0 : wc.cell? ⟨gb258, 0, none⟩ = some (.int .i64 ((rd_T89 l0 x9_1).f0)) := (blk_cell BK258.out 0).trans rfl
                                      have hcz52_1 : wc.cell? ⟨gb258, 1, none⟩ = some (.int .i64 ((rd_T89 l0 x9_1).f1)) := (blk_cell BK258.out 1).trans rfl
                                      have hcz52_2 : wc.cell? ⟨gb258, 2, none⟩ = some (.int .i64 ((rd_T89 l0 x9_1).f2)) := (blk_cell BK258.out 2).trans rfl
                                      have hcz52_3 : wc.cell? ⟨gb258, 3, none⟩ = some (.int .i64 ((rd_T89 l0 x9_1).f3)) := (blk_cell BK258.out 3).trans rfl
                                      have hcz52_4 : wc.cell? ⟨gb258, 4, none⟩ = some (.int .i64 ((rd_T89 l0 x9_1).f4)) := (blk_cell BK258.out 4).trans rfl
                                      have hfz52_0 := blk_frozen BK258.out 0
                                      have hfz52_1 := blk_frozen BK258.out 1
                                      have hfz52_2 := blk_frozen BK258.out 2
                                      have hfz52_3 := blk_frozen BK258.out 3
                                      have hfz52_4 := blk_frozen BK258.out 4
                                      go_wp2_with (first | ((with_reducible refine gate_callee (f := 88) rfl ?_); refine goesL_ (some 48) rfl rfl Try.func88 (by kernel_rfl) rfl #[.int .i64 ((rd_T89 l0 x9_1).f0), .int .i64 2, .int .i64 4] rfl (by (try simp only [List.map_toArray, List.map_cons, List.map_nil]); first | done | rfl | (simp only [List.length_drop, List.length_take]; rfl)) ?_; (with_reducible refine (spec_l1In.calls ((rd_T89 l0 x9_1).f0) 2 4 true _ A34.out).mono ?_); rintro e w' ⟨rfl, ⟨nd, rfl⟩⟩; refine ⟨_, rfl, ?_⟩; obtain ⟨Ao53, co53, eo53⟩ := Kd.R_slice HO_3.out; subst eo53; have p265 : 0 ≤ (((rd_T89 l0 x9_1).f2) : Int) := of_decide_eq_true (by first | (with_reducible assumption) | assumption); have q265 : ((rd_T89 l0 x9_1).f2) < (x3_1.length : Int) := of_decide_eq_true (by first | (with_reducible assumption) | assumption); obtain ⟨ad265, e265, hx265_0⟩ := Kd.at_bool (Kd.R_reads' HO_3.out).2.2 ((rd_T89 l0 x9_1).f2) p265 q265; (try rw [← Nbq39.out] at hx265_0); (try rw [← Nbq43.out] at hx265_0); cases e265; replace p265 := eq_true p265; replace q265 := eq_true q265; have p266 : 0 ≤ (((rd_T89 l0 x9_1).f3) : Int) := of_decide_eq_true (by first | (with_reducible assumption) | assumption); have q266 : ((rd_T89 l0 x9_1).f3) < (x3_1.length : Int) := of_decide_eq_true (by first | (with_reducible assumption) | assumption); obtain ⟨ad266, e266, hx266_0⟩ := Kd.at_bool (Kd.R_reads' HO_3.out).2.2 ((rd_T89 l0 x9_1).f3) p266 q266; (try rw [← Nbq39.out] at hx266_0); (try rw [← Nbq43.out] at hx266_0); obtain rfl : ad265 = ad266 := (by injection e266); replace p266 := eq_true p266; replace q266 := eq_true q266))
                                      go_ret
                                      exact ⟨by first | rfl | (simp [errW_none, errW_some] <;> rfl) | (simp [*, errW_none, errW_some] <;> rfl), by repeat (first | (with_reducible first | exact HB.out | apply below_alloc | apply pw_below_drewN | apply below_drew1 | refine below_set ?_ GE258.out) | exact HB.out)⟩
                                  · rw [if_neg c42] at H
                                    exact absurd H (by simp)
                                · rw [if_neg c41] at H
                                  exact absurd H (by simp)
                              · replace c40 := Bool.eq_false_iff.mpr c40
                                subst c40
                                have H1 : (some false) = some r := by rw [if_neg (show ¬ (false = true) by decide)] at H; exact H
                                clear H
                                have H := H1
                                clear H1
                                obtain rfl := Option.some.inj H
                                have hcz54_0 : wc.cell? ⟨gb258, 0, none⟩ = some (.int .i64 ((rd_T89 l0 x9_1).f0)) := (blk_cell BK258.out 0).trans rfl
                                have hcz54_1 : wc.cell? ⟨gb258, 1, none⟩ = some (.int .i64 ((rd_T89 l0 x9_1).f1)) := (blk_cell BK258.out 1).trans rfl
                                have hcz54_2 : wc.cell? ⟨gb258, 2, none⟩ = some (.int .i64 ((rd_T89 l0 x9_1).f2)) := (blk_cell BK258.out 2).trans rfl
                                have hcz54_3 : wc.cell? ⟨gb258, 3, none⟩ = some (.int .i64 ((rd_T89 l0 x9_1).f3)) := (blk_cell BK258.out 3).trans rfl
                                have hcz54_4 : wc.cell? ⟨gb258, 4, none⟩ = some (.int .i64 ((rd_T89 l0 x9_1).f4)) := (blk_cell BK258.out 4).trans rfl
                                have hfz54_0 := blk_frozen BK258.out 0
                                have hfz54_1 := blk_frozen BK258.out 1
                                have hfz54_2 := blk_frozen BK258.out 2
                                have hfz54_3 := blk_frozen BK258.out 3
                                have hfz54_4 := blk_frozen BK258.out 4
                                go_wp2_with (first | ((with_reducible refine gate_callee (f := 88) rfl ?_); refine goesL_ (some 48) rfl rfl Try.func88 (by kernel_rfl) rfl #[.int .i64 ((rd_T89 l0 x9_1).f0), .int .i64 2, .int .i64 4] rfl (by (try simp only [List.map_toArray, List.map_cons, List.map_nil]); first | done | rfl | (simp only [List.length_drop, List.length_take]; rfl)) ?_; (with_reducible refine (spec_l1In.calls ((rd_T89 l0 x9_1).f0) 2 4 true _ A34.out).mono ?_); rintro e w' ⟨rfl, ⟨nd, rfl⟩⟩; refine ⟨_, rfl, ?_⟩; obtain ⟨Ao55, co55, eo55⟩ := Kd.R_slice HO_3.out; subst eo55; have p265 : 0 ≤ (((rd_T89 l0 x9_1).f2) : Int) := of_decide_eq_true (by first | (with_reducible assumption) | assumption); have q265 : ((rd_T89 l0 x9_1).f2) < (x3_1.length : Int) := of_decide_eq_true (by first | (with_reducible assumption) | assumption); obtain ⟨ad265, e265, hx265_0⟩ := Kd.at_bool (Kd.R_reads' HO_3.out).2.2 ((rd_T89 l0 x9_1).f2) p265 q265; (try rw [← Nbq39.out] at hx265_0); cases e265; replace p265 := eq_true p265; replace q265 := eq_true q265))
                                go_ret
                                exact ⟨by first | rfl | (simp [errW_none, errW_some] <;> rfl) | (simp [*, errW_none, errW_some] <;> rfl), by repeat (first | (with_reducible first | exact HB.out | apply below_alloc | apply pw_below_drewN | apply below_drew1 | refine below_set ?_ GE258.out) | exact HB.out)⟩
                            · rw [if_neg c38] at H
                              exact absurd H (by simp)
                          · rw [if_neg c37] at H
                            exact absurd H (by simp)
                        · rw [if_neg c36] at H
                          have c36b0 : (((rd_T89 l0 x9_1).f4) == 0) = false := beq_eq_false_iff_ne.mpr c36
                          have c36b1 : (((rd_T89 l0 x9_1).f4) != 0) = true := bne_iff_ne.mpr c36
                          obtain rfl := Option.some.inj H
                          have hcz56_0 : wc.cell? ⟨gb258, 0, none⟩ = some (.int .i64 ((rd_T89 l0 x9_1).f0)) := (blk_cell BK258.out 0).trans rfl
                          have hcz56_1 : wc.cell? ⟨gb258, 1, none⟩ = some (.int .i64 ((rd_T89 l0 x9_1).f1)) := (blk_cell BK258.out 1).trans rfl
                          have hcz56_2 : wc.cell? ⟨gb258, 2, none⟩ = some (.int .i64 ((rd_T89 l0 x9_1).f2)) := (blk_cell BK258.out 2).trans rfl
                          have hcz56_3 : wc.cell? ⟨gb258, 3, none⟩ = some (.int .i64 ((rd_T89 l0 x9_1).f3)) := (blk_cell BK258.out 3).trans rfl
                          have hcz56_4 : wc.cell? ⟨gb258, 4, none⟩ = some (.int .i64 ((rd_T89 l0 x9_1).f4)) := (blk_cell BK258.out 4).trans rfl
                          have hfz56_0 := blk_frozen BK258.out 0
                          have hfz56_1 := blk_frozen BK258.out 1
                          have hfz56_2 := blk_frozen BK258.out 2
                          have hfz56_3 := blk_frozen BK258.out 3
                          have hfz56_4 := blk_frozen BK258.out 4
                          go_wp2_with (first | ((with_reducible refine gate_callee (f := 88) rfl ?_); refine goesL_ (some 48) rfl rfl Try.func88 (by kernel_rfl) rfl #[.int .i64 ((rd_T89 l0 x9_1).f0), .int .i64 2, .int .i64 4] rfl (by (try simp only [List.map_toArray, List.map_cons, List.map_nil]); first | done | rfl | (simp only [List.length_drop, List.length_take]; rfl)) ?_; (with_reducible refine (spec_l1In.calls ((rd_T89 l0 x9_1).f0) 2 4 true _ A34.out).mono ?_); rintro e w' ⟨rfl, ⟨nd, rfl⟩⟩; refine ⟨_, rfl, ?_⟩))
                          go_ret
                          exact ⟨by first | rfl | (simp [errW_none, errW_some] <;> rfl) | (simp [*, errW_none, errW_some] <;> rfl), by repeat (first | (with_reducible first | exact HB.out | apply below_alloc | apply pw_below_drewN | apply below_drew1 | refine below_set ?_ GE258.out) | exact HB.out)⟩
                      · replace c35 := Bool.eq_false_iff.mpr c35
                        subst c35
                        have H1 : (some false) = some r := by rw [if_neg (show ¬ (false = true) by decide)] at H; exact H
                        clear H
                        have H := H1
                        clear H1
                        obtain rfl := Option.some.inj H
                        have hcz57_0 : wc.cell? ⟨gb258, 0, none⟩ = some (.int .i64 ((rd_T89 l0 x9_1).f0)) := (blk_cell BK258.out 0).trans rfl
                        have hcz57_1 : wc.cell? ⟨gb258, 1, none⟩ = some (.int .i64 ((rd_T89 l0 x9_1).f1)) := (blk_cell BK258.out 1).trans rfl
                        have hcz57_2 : wc.cell? ⟨gb258, 2, none⟩ = some (.int .i64 ((rd_T89 l0 x9_1).f2)) := (blk_cell BK258.out 2).trans rfl
                        have hcz57_3 : wc.cell? ⟨gb258, 3, none⟩ = some (.int .i64 ((rd_T89 l0 x9_1).f3)) := (blk_cell BK258.out 3).trans rfl
                        have hcz57_4 : wc.cell? ⟨gb258, 4, none⟩ = some (.int .i64 ((rd_T89 l0 x9_1).f4)) := (blk_cell BK258.out 4).trans rfl
                        have hfz57_0 := blk_frozen BK258.out 0
                        have hfz57_1 := blk_frozen BK258.out 1
                        have hfz57_2 := blk_frozen BK258.out 2
                        have hfz57_3 := blk_frozen BK258.out 3
                        have hfz57_4 := blk_frozen BK258.out 4
                        go_wp2_with (first | ((with_reducible refine gate_callee (f := 88) rfl ?_); refine goesL_ (some 48) rfl rfl Try.func88 (by kernel_rfl) rfl #[.int .i64 ((rd_T89 l0 x9_1).f0), .int .i64 2, .int .i64 4] rfl (by (try simp only [List.map_toArray, List.map_cons, List.map_nil]); first | done | rfl | (simp only [List.length_drop, List.length_take]; rfl)) ?_; (with_reducible refine (spec_l1In.calls ((rd_T89 l0 x9_1).f0) 2 4 false _ A34.out).mono ?_); rintro e w' ⟨rfl, ⟨nd, rfl⟩⟩; refine ⟨_, rfl, ?_⟩))
                        go_ret
                        exact ⟨by first | rfl | (simp [errW_none, errW_some] <;> rfl) | (simp [*, errW_none, errW_some] <;> rfl), by repeat (first | (with_reducible first | exact HB.out | apply below_alloc | apply pw_below_drewN | apply below_drew1 | refine below_set ?_ GE258.out) | exact HB.out)⟩
            · rw [if_neg c7] at H
              exact absurd H (by simp)
          · rw [if_neg c6] at H
            exact absurd H (by simp)
        · rw [if_neg c5] at H
          have c5b0 : decide (x9_1 < (l0.length : Int)) = false := decide_eq_false c5
          clear c5
          replace H := Option.bind_eq_some_iff.mp H
          obtain ⟨t256, A580, H⟩ := H
          replace H : (some t256) = some r := H
          have A58 := Aside0.mk A580
          clear A580
          obtain rfl := Option.some.inj H
          go_wp2_with (first | ((with_reducible refine gate_callee (f := 88) rfl ?_); refine goesL_ (some 78) rfl rfl Try.func88 (by kernel_rfl) rfl #[.int .i64 (l0.length : Int), .int .i64 1, .int .i64 60] rfl (by (try simp only [List.map_toArray, List.map_cons, List.map_nil]); first | done | rfl | (simp only [List.length_drop, List.length_take]; rfl)) ?_; (with_reducible refine (spec_l1In.calls (l0.length : Int) 1 60 t256 _ A58.out).mono ?_); rintro e w' ⟨rfl, ⟨nd, rfl⟩⟩; refine ⟨_, rfl, ?_⟩))
          go_ret
          exact ⟨by first | rfl | (simp [errW_none, errW_some] <;> rfl) | (simp [*, errW_none, errW_some] <;> rfl), by repeat (first | (with_reducible first | exact HB.out | apply below_alloc | apply pw_below_drewN | apply below_drew1) | exact HB.out)⟩
  · rw [if_neg c2] at H
    exact absurd H (by simp)

end Go.Proofs.Ytclkajdafinccaa.P
