import Derived.Test.YtkfpbblaomgihaaMFnExactClashesOf1
import Derived.Test.YtkfpbblaomgihaaMFnExactClashesOf2
import Derived.Test.YtkfpbblaomgihaaMFnExactClashesOf3
set_option linter.unusedVariables false
set_option linter.unusedSimpArgs false
namespace Go.Proofs.Ytkfpbblaomgihaa.P
open Go.RowKit Go.Proofs.YtkfpbblaomgihaaW.PrintWords Go.Proofs.YtkfpbblaomgihaaW.PrintLast Go.Proofs.YtkfpbblaomgihaaW.PrintMore
attribute [local go_sem] max2_int min2_int max_two min_two max_three min_three max_four min_four
mutual
def spec_l12Out.l0 : Nat → List (List Int) → List Int → List Int → Int → Int → Option (List Int)
  | 0, _, _, _, _, _ => none
  | k + 1, x1, x7, x17, x18, x19 => if x19 < x18 then (if 0 ≤ x19 then (if x19 < (x17.length : Int) then (if 0 ≤ (rd x17 x19) then (if (rd x17 x19) < (x1.length : Int) then (spec_l12Out.l1 k x1 x7 x17 x18 x19 (rd_L1 x1 (rd x17 x19)) ((rd_L1 x1 (rd x17 x19)).length : Int) 0) else (none)) else (none)) else (none)) else (none)) else (some x7)
def spec_l12Out.l1 : Nat → List (List Int) → List Int → List Int → Int → Int → List Int → Int → Int → Option (List Int)
  | 0, _, _, _, _, _, _, _, _ => none
  | k + 1, x1, x7, x17, x18, x19, x26, x27, x28 => if x28 < x27 then (if 0 ≤ x28 then (if x28 < (x26.length : Int) then ((spec_l1Put.f k x7 (rd x26 x28)).bind fun t333 => (spec_l12Out.l1 k x1 t333 x17 x18 x19 x26 x27 (wrap64 (x28 + 1)))) else (none)) else (none)) else (spec_l12Out.l0 k x1 x7 x17 x18 (wrap64 (x19 + 1)))
end
def spec_l12Out.f (k : Nat) (l0_0 : List (List Int)) (l0_1 : List (S56)) (l1 : List (List Int)) (a2 : Int) : Option (List Int) := if 0 ≤ a2 then (if a2 < (l0_0.length : Int) then (spec_l12Out.l0 k l1 ([] : List Int) (rd_L1 l0_0 a2) ((rd_L1 l0_0 a2).length : Int) 0) else (none)) else (none)
theorem spec_l12Out.mono_l : ∀ k, (∀ y0 y1 y2 y3 y4, LeO (spec_l12Out.l0 k y0 y1 y2 y3 y4) (spec_l12Out.l0 (k + 1) y0 y1 y2 y3 y4)) ∧ (∀ y0 y1 y2 y3 y4 y5 y6 y7, LeO (spec_l12Out.l1 k y0 y1 y2 y3 y4 y5 y6 y7) (spec_l12Out.l1 (k + 1) y0 y1 y2 y3 y4 y5 y6 y7))
  | 0 => ⟨fun _ _ _ _ _ r h => by simp [spec_l12Out.l0] at h, fun _ _ _ _ _ _ _ _ r h => by simp [spec_l12Out.l1] at h⟩
  | k + 1 => by
    obtain ⟨ih0, ih1⟩ := spec_l12Out.mono_l k
    refine ⟨?_, ?_⟩
    · intro y0 y1 y2 y3 y4
      unfold spec_l12Out.l0
      repeat' first
      | (with_reducible exact ih0 _ _ _ _ _)
      | (with_reducible exact ih1 _ _ _ _ _ _ _ _)
      | (with_reducible exact spec_l1Put.mono _ _ _)
      | (with_reducible exact LeO.refl _)
      | (with_reducible exact LeO.none _)
      | (with_reducible refine LeO.ite ?_ ?_)
      | (with_reducible refine LeO.bind ?_ (fun _ => ?_))
      | exact ih0 _ _ _ _ _
      | exact ih1 _ _ _ _ _ _ _ _
      | exact spec_l1Put.mono _ _ _
      | exact LeO.none _
      | refine LeO.ite ?_ ?_
      | refine LeO.bind ?_ (fun _ => ?_)
    · intro y0 y1 y2 y3 y4 y5 y6 y7
      unfold spec_l12Out.l1
      repeat' first
      | (with_reducible exact ih0 _ _ _ _ _)
      | (with_reducible exact ih1 _ _ _ _ _ _ _ _)
      | (with_reducible exact spec_l1Put.mono _ _ _)
      | (with_reducible exact LeO.refl _)
      | (with_reducible exact LeO.none _)
      | (with_reducible refine LeO.ite ?_ ?_)
      | (with_reducible refine LeO.bind ?_ (fun _ => ?_))
      | exact ih0 _ _ _ _ _
      | exact ih1 _ _ _ _ _ _ _ _
      | exact spec_l1Put.mono _ _ _
      | exact LeO.none _
      | refine LeO.ite ?_ ?_
      | refine LeO.bind ?_ (fun _ => ?_)
theorem spec_l12Out.mono : ∀ a0 a1 a2 a3 k, LeO (spec_l12Out.f k a0 a1 a2 a3) (spec_l12Out.f (k + 1) a0 a1 a2 a3) := by
  intro a0 a1 a2 a3 k
  obtain ⟨ih0, ih1⟩ := spec_l12Out.mono_l k
  unfold spec_l12Out.f
  repeat' first
      | (with_reducible exact ih0 _ _ _ _ _)
      | (with_reducible exact ih1 _ _ _ _ _ _ _ _)
      | (with_reducible exact spec_l1Put.mono _ _ _)
      | (with_reducible exact LeO.refl _)
      | (with_reducible exact LeO.none _)
      | (with_reducible refine LeO.ite ?_ ?_)
      | (with_reducible refine LeO.bind ?_ (fun _ => ?_))
      | exact ih0 _ _ _ _ _
      | exact ih1 _ _ _ _ _ _ _ _
      | exact spec_l1Put.mono _ _ _
      | exact LeO.none _
      | refine LeO.ite ?_ ?_
      | refine LeO.bind ?_ (fun _ => ?_)
set_option maxHeartbeats 8000000 in
set_option maxRecDepth 100000 in
theorem spec_l12Out.calls (k : Nat) (A0_0 : Option Addr) (c0_0 : Nat) (l0_0 : List (List Int)) (A0_1 : Option Addr) (c0_1 : Nat) (l0_1 : List (S56)) (A1 : Option Addr) (c1 : Nat) (l1 : List (List Int)) (a2 : Int) (r : List Int) (w : World) (hr0_0 : Kd.C (Kd.slice 3 (Kd.int .i64)) w A0_0 l0_0.length l0_0) (hc0_0 : l0_0.length ≤ c0_0) (hr0_1 : Kd.C k56 w A0_1 l0_1.length l0_1) (hc0_1 : l0_1.length ≤ c0_1) (hr1 : Kd.C (Kd.slice 3 (Kd.int .i64)) w A1 l1.length l1) (hc1 : l1.length ≤ c1) (h : spec_l12Out.f k l0_0 l0_1 l1 a2 = some r) :
    Calls Try.prog 75 #[.agg #[.slice A0_0 l0_0.length c0_0, .slice A0_1 l0_1.length c0_1], .slice A1 l1.length c1, .int .i64 a2] w fun e w' => ∃ v0_ : Value, e = .returned (v0_) ∧ Kd.R (Kd.int .i64) 3 w' w.heap.size (fun _ => True) v0_ r ∧ Below w.heap.size w w' := by
  have hu33 := Try.underlying33
  have HR0_0 := Aside0.mk hr0_0
  have HC0_0 := Aside0.mk hc0_0
  clear hr0_0 hc0_0
  have HR0_1 := Aside0.mk hr0_1
  have HC0_1 := Aside0.mk hc0_1
  clear hr0_1 hc0_1
  have HR1 := Aside0.mk hr1
  have HC1 := Aside0.mk hc1
  clear hr1 hc1
  have HB := Aside0.mk (Below.refl w.heap.size w)
  have H : (if 0 ≤ a2 then (if a2 < (l0_0.length : Int) then (spec_l12Out.l0 k l1 ([] : List Int) (rd_L1 l0_0 a2) ((rd_L1 l0_0 a2).length : Int) 0) else (none)) else (none)) = some r := h
  clear h
  by_cases c4 : 0 ≤ a2
  · rw [if_pos c4] at H
    have c4b0 : decide (0 ≤ a2) = true := decide_eq_true c4
    clear c4
    by_cases c5 : a2 < (l0_0.length : Int)
    · rw [if_pos c5] at H
      have c5b0 : decide (a2 < (l0_0.length : Int)) = true := decide_eq_true c5
      clear c5
      have H' := Aside0.mk H
      clear H
      go_enter Try.func75, Try.ntmps75
      go_wp2_with (first | ((with_reducible refine gate_dst (N := 3) rfl ?_); refine box_event ?hg (N := 3) ?hd (cs := #[.slice A0_0 l0_0.length c0_0, .slice A0_1 l0_1.length c0_1]) (t := 33) ?hr ?_; (case hd => rfl); (case hg => rfl); (case hr => first | (go_simp; done) | (go_simp; rfl)); intro gb328 hg w6 hbox hb; have n0_ := Aside0.mk (below_step (by repeat (first | (with_reducible first | exact HB.out | apply below_alloc | apply pw_below_drewN | apply below_drew1) | exact HB.out)) hb); have n1_ := Aside0.mk (hbox); have n2_ := Aside0.mk ((by rw [hg]; exact (below_size (by repeat (first | (with_reducible first | exact HB.out | apply below_alloc | apply pw_below_drewN | apply below_drew1) | exact HB.out))) : w.heap.size ≤ gb328)); have n3_ := Aside0.mk ((by rw [hg]; exact (below_size (by repeat (first | (with_reducible first | exact HB.out | apply below_alloc | apply pw_below_drewN | apply below_drew1) | exact HB.out))) : w.heap.size ≤ gb328)); clear HB; have HB := n0_; have BK328 := n1_; have GW328 := n2_; have GE328 := n3_; clear n0_ n1_ n2_ n3_; clear hb hbox hg; have hcz7_0 : w6.cell? ⟨gb328, 0, none⟩ = some (.slice A0_0 l0_0.length c0_0) := (blk_cell BK328.out 0).trans rfl; have hcz7_1 : w6.cell? ⟨gb328, 1, none⟩ = some (.slice A0_1 l0_1.length c0_1) := (blk_cell BK328.out 1).trans rfl; have hfz7_0 := blk_frozen BK328.out 0; have hfz7_1 := blk_frozen BK328.out 1; have p329 : 0 ≤ (a2 : Int) := of_decide_eq_true (by first | (with_reducible assumption) | assumption); have q329 : a2 < (l0_0.length : Int) := of_decide_eq_true (by first | (with_reducible assumption) | assumption); obtain ⟨ad329, A329_0, c329_0, e329, hx329_0, hl329_0, hi329_0⟩ := at_L1 HR0_0.out a2 p329 q329; cases e329; replace hx329_0 := (HB.out.cell (World.block_lt_of_cell? w _ hx329_0)).trans hx329_0; have HR329_0 := Aside0.mk hi329_0; have HC329_0 := Aside0.mk hl329_0; clear hi329_0 hl329_0; replace p329 := eq_true p329; replace q329 := eq_true q329))
      go_loopg [7, 19] k (fun kq v7 v19 w' => ∃ (x7_1 : List Int) (x19_1 : Int), v19 = .int .i64 x19_1 ∧ Aside0 (spec_l12Out.l0 kq l1 x7_1 (rd_L1 l0_0 a2) ((rd_L1 l0_0 a2).length : Int) x19_1 = some r) ∧ Aside0 (kq ≤ k) ∧ Aside0 (Kd.R (Kd.int .i64) 3 w' w.heap.size (fun _ => True) v7 x7_1) ∧ Aside0 (w'.heap[gb328]? = some (.cells #[(.slice (some ad329) l0_0.length c0_0), (.slice A0_1 l0_1.length c0_1)] 33 (0, 0))) ∧ Aside0 (Below w.heap.size w w'))
      case atStart => exact ⟨(([] : List Int)), (0), (by first | rfl | (simp; done) | (simp [*]; done)), H', ⟨Nat.le_refl _⟩, ⟨by first | exact Kd.R_nil _ _ _ _ _ | exact Kd.N_nil _ _ _ _ _ | exact Kd.V_nil _ _ _ _ _ | exact Kd.Q_nil _ _ _ _ _ | exact Kd.S_nil _ _ _ _ _⟩, ⟨by (with_reducible repeat (first | refine blk_drewN ?_ _ | refine blk_drew ?_ | refine blk_alloc ?_ _)); exact BK328.out⟩, ⟨by repeat (first | (with_reducible first | exact HB.out | apply below_alloc | apply pw_below_drewN | apply below_drew1 | refine below_set ?_ GE328.out) | exact HB.out)⟩⟩
      case round =>
        clear H'
        try clear c1
        try clear p2
        try clear c3
        try clear p3
        try clear q3
        try clear hx3
        try clear c4
        try clear c4b0
        try clear c5
        try clear c5b0
        try clear c7
        try clear hcz7_0
        try clear hcz7_1
        try clear hfz7_0
        try clear hfz7_1
        try clear hx329_0
        try clear p329
        try clear q329
        obtain ⟨x7_1, x19_1, rfl, HA, HK1, HO_7, BK328, HB⟩ := hrel
        cases gk with
        | zero => exact absurd HA.out (by simp [spec_l12Out.l0])
        | succ k1 =>
          have H := HA.out
          clear HA
          simp only [spec_l12Out.l0] at H
          by_cases c8 : x19_1 < ((rd_L1 l0_0 a2).length : Int)
          · rw [if_pos c8] at H
            have c8b0 : decide (x19_1 < ((rd_L1 l0_0 a2).length : Int)) = true := decide_eq_true c8
            clear c8
            by_cases c9 : 0 ≤ x19_1
            · rw [if_pos c9] at H
              have c9b0 : decide (0 ≤ x19_1) = true := decide_eq_true c9
              clear c9
              by_cases c10 : x19_1 < ((rd_L1 l0_0 a2).length : Int)
              · rw [if_pos c10] at H
                have c10b0 : decide (x19_1 < ((rd_L1 l0_0 a2).length : Int)) = true := decide_eq_true c10
                clear c10
                by_cases c11 : 0 ≤ (rd (rd_L1 l0_0 a2) x19_1)
                · rw [if_pos c11] at H
                  have c11b0 : decide (0 ≤ (rd (rd_L1 l0_0 a2) x19_1)) = true := decide_eq_true c11
                  clear c11
                  by_cases c12 : (rd (rd_L1 l0_0 a2) x19_1) < (l1.length : Int)
                  · rw [if_pos c12] at H
                    have c12b0 : decide ((rd (rd_L1 l0_0 a2) x19_1) < (l1.length : Int)) = true := decide_eq_true c12
                    clear c12
                    have H' := Aside0.mk H
                    clear H
                    have p330 : 0 ≤ (x19_1 : Int) := of_decide_eq_true (by first | (with_reducible assumption) | assumption)
                    have q330 : x19_1 < ((rd_L1 l0_0 a2).length : Int) := of_decide_eq_true (by first | (with_reducible assumption) | assumption)
                    obtain ⟨ad330, e330, hx330_0⟩ := Kd.at_int HR329_0.out x19_1 p330 q330
                    cases e330
                    replace hx330_0 := (HB.out.cell (World.block_lt_of_cell? w _ hx330_0)).trans hx330_0
                    replace p330 := eq_true p330
                    replace q330 := eq_true q330
                    have p331 : 0 ≤ ((rd (rd_L1 l0_0 a2) x19_1) : Int) := of_decide_eq_true (by first | (with_reducible assumption) | assumption)
                    have q331 : (rd (rd_L1 l0_0 a2) x19_1) < (l1.length : Int) := of_decide_eq_true (by first | (with_reducible assumption) | assumption)
                    obtain ⟨ad331, A331_0, c331_0, e331, hx331_0, hl331_0, hi331_0⟩ := at_L1 HR1.out (rd (rd_L1 l0_0 a2) x19_1) p331 q331
                    cases e331
                    replace hx331_0 := (HB.out.cell (World.block_lt_of_cell? w _ hx331_0)).trans hx331_0
                    have HR331_0 := Aside0.mk hi331_0
                    have HC331_0 := Aside0.mk hl331_0
                    clear hi331_0 hl331_0
                    replace p331 := eq_true p331
                    replace q331 := eq_true q331
                    go_wp2
                    go_loopg [7, 28] k1 (fun kq v7 v28 w' => ∃ (x7_2 : List Int) (x28_2 : Int), v28 = .int .i64 x28_2 ∧ Aside0 (spec_l12Out.l1 kq l1 x7_2 (rd_L1 l0_0 a2) ((rd_L1 l0_0 a2).length : Int) x19_1 (rd_L1 l1 (rd (rd_L1 l0_0 a2) x19_1)) ((rd_L1 l1 (rd (rd_L1 l0_0 a2) x19_1)).length : Int) x28_2 = some r) ∧ Aside0 (kq ≤ k1) ∧ Aside0 (Kd.R (Kd.int .i64) 3 w' w.heap.size (fun _ => True) v7 x7_2) ∧ Aside0 (w'.heap[gb328]? = some (.cells #[(.slice (some ad329) l0_0.length c0_0), (.slice A0_1 l0_1.length c0_1)] 33 (0, 0))) ∧ Aside0 (Below w.heap.size w w'))
                    case atStart => exact ⟨(x7_1), (0), (by first | rfl | (simp; done) | (simp [*]; done)), H', ⟨Nat.le_refl _⟩, ⟨by (with_reducible repeat (first | apply Kd.R_alloc | apply Kd.R_drewN | apply Kd.R_drew)); exact HO_7.out⟩, ⟨by (with_reducible repeat (first | refine blk_drewN ?_ _ | refine blk_drew ?_ | refine blk_alloc ?_ _)); exact BK328.out⟩, ⟨by repeat (first | (with_reducible first | exact HB.out | apply below_alloc | apply pw_below_drewN | apply below_drew1 | refine below_set ?_ GE328.out) | exact HB.out)⟩⟩
                    case round =>
                      clear H'
                      try clear c1
                      try clear p2
                      try clear c3
                      try clear p3
                      try clear q3
                      try clear hx3
                      try clear c4
                      try clear c4b0
                      try clear c5
                      try clear c5b0
                      try clear c7
                      try clear c8
                      try clear c8b0
                      try clear c9
                      try clear c9b0
                      try clear c10
                      try clear c10b0
                      try clear c11
                      try clear c11b0
                      try clear c12
                      try clear c12b0
                      try clear hcz7_0
                      try clear hcz7_1
                      try clear hfz7_0
                      try clear hfz7_1
                      try clear hx329_0
                      try clear hx330_0
                      try clear hx331_0
                      try clear p2
                      try clear p3
                      try clear p329
                      try clear p330
                      try clear p331
                      try clear q3
                      try clear q329
                      try clear q330
                      try clear q331
                      obtain ⟨x7_2, x28_2, rfl, HA, HK2, HO_7, BK328, HB⟩ := hrel
                      cases gk with
                      | zero => exact absurd HA.out (by simp [spec_l12Out.l1])
                      | succ k2 =>
                        have H := HA.out
                        clear HA
                        simp only [spec_l12Out.l1] at H
                        by_cases c13 : x28_2 < ((rd_L1 l1 (rd (rd_L1 l0_0 a2) x19_1)).length : Int)
                        · rw [if_pos c13] at H
                          have c13b0 : decide (x28_2 < ((rd_L1 l1 (rd (rd_L1 l0_0 a2) x19_1)).length : Int)) = true := decide_eq_true c13
                          clear c13
                          by_cases c14 : 0 ≤ x28_2
                          · rw [if_pos c14] at H
                            have c14b0 : decide (0 ≤ x28_2) = true := decide_eq_true c14
                            clear c14
                            by_cases c15 : x28_2 < ((rd_L1 l1 (rd (rd_L1 l0_0 a2) x19_1)).length : Int)
                            · rw [if_pos c15] at H
                              have c15b0 : decide (x28_2 < ((rd_L1 l1 (rd (rd_L1 l0_0 a2) x19_1)).length : Int)) = true := decide_eq_true c15
                              clear c15
                              replace H := Option.bind_eq_some_iff.mp H
                              obtain ⟨t333, A160, H⟩ := H
                              replace H : (spec_l12Out.l1 k2 l1 t333 (rd_L1 l0_0 a2) ((rd_L1 l0_0 a2).length : Int) x19_1 (rd_L1 l1 (rd (rd_L1 l0_0 a2) x19_1)) ((rd_L1 l1 (rd (rd_L1 l0_0 a2) x19_1)).length : Int) (wrap64 (x28_2 + 1))) = some r := H
                              have A16 := Aside0.mk A160
                              clear A160
                              have H' := Aside0.mk H
                              clear H
                              have p332 : 0 ≤ (x28_2 : Int) := of_decide_eq_true (by first | (with_reducible assumption) | assumption)
                              have q332 : x28_2 < ((rd_L1 l1 (rd (rd_L1 l0_0 a2) x19_1)).length : Int) := of_decide_eq_true (by first | (with_reducible assumption) | assumption)
                              obtain ⟨ad332, e332, hx332_0⟩ := Kd.at_int HR331_0.out x28_2 p332 q332
                              cases e332
                              replace hx332_0 := (HB.out.cell (World.block_lt_of_cell? w _ hx332_0)).trans hx332_0
                              replace p332 := eq_true p332
                              replace q332 := eq_true q332
                              obtain ⟨Ao17, co17, eo17⟩ := Kd.R_slice HO_7.out
                              subst eo17
                              go_wp2_with (first | ((with_reducible refine gate_callee (f := 78) rfl ?_); refine goesL_ (some 34) rfl rfl Try.func78 (by kernel_rfl) rfl #[.slice Ao17 x7_2.length co17, .int .i64 (rd (rd_L1 l1 (rd (rd_L1 l0_0 a2) x19_1)) x28_2)] rfl (by (try simp only [List.map_toArray, List.map_cons, List.map_nil]); first | done | rfl | (simp only [List.length_drop, List.length_take]; rfl)) ?_; (with_reducible refine (spec_l1Put.calls k2 (fun k_ => some k_ = (.slice Ao17 x7_2.length co17 : Value).ownBlock) (.slice Ao17 x7_2.length co17) x7_2 (rd (rd_L1 l1 (rd (rd_L1 l0_0 a2) x19_1)) x28_2) t333 w _ ?side1 ?side2 A16.out).mono ?_); (case side1 => repeat (first | (with_reducible first | exact HB.out | apply below_alloc | apply pw_below_drewN | apply below_drew1 | refine below_set ?_ GE328.out) | exact HB.out)); (case side2 => exact Kd.R_tight rfl HO_7.out); rintro e w18 ⟨v334, rfl, ho0, hb, hkp⟩; refine ⟨_, rfl, ?_⟩; have n0_ := Aside0.mk (blk_kept (by (with_reducible repeat (first | refine blk_drewN ?_ _ | refine blk_drew ?_ | refine blk_alloc ?_ _)); exact BK328.out) hkp (fun hs_ => (fun e_ => (Kd.R_ne HO_7.out BK328.out (by decide)) e_) hs_)); have n1_ := Aside0.mk (Kd.R_mono (ok' := fun k_ => True) ho0 (fun k_ hk_ => trivial)); have n2_ := Aside0.mk (hb); clear BK328; clear HB; clear HO_7; have BK328 := n0_; have HO335 := n1_; have HB := n2_; clear n0_ n1_ n2_; (try clear hb); (try clear hkp); (try clear ho0)))
                              go_roundg k2
                              case measure => have := HK1.out; have := HK2.out; omega
                              case rel => exact ⟨(t333), (wrap64 (x28_2 + 1)), (by first | rfl | (simp; done) | (simp [*]; done)), H', ⟨by have := HK1.out; have := HK2.out; omega⟩, ⟨by (with_reducible repeat (first | apply Kd.R_alloc | apply Kd.R_drewN | apply Kd.R_drew)); exact HO335.out⟩, ⟨by (with_reducible repeat (first | refine blk_drewN ?_ _ | refine blk_drew ?_ | refine blk_alloc ?_ _)); exact BK328.out⟩, ⟨by repeat (first | (with_reducible first | exact HB.out | apply below_alloc | apply pw_below_drewN | apply below_drew1 | refine below_set ?_ GE328.out) | exact HB.out)⟩⟩
                            · rw [if_neg c15] at H
                              exact absurd H (by simp)
                          · rw [if_neg c14] at H
                            exact absurd H (by simp)
                        · rw [if_neg c13] at H
                          have c13b0 : decide (x28_2 < ((rd_L1 l1 (rd (rd_L1 l0_0 a2) x19_1)).length : Int)) = false := decide_eq_false c13
                          clear c13
                          have H' := Aside0.mk H
                          clear H
                          go_wp2
                          go_roundg k2
                          case measure => have := HK1.out; have := HK2.out; omega
                          case rel => exact ⟨(x7_2), (wrap64 (x19_1 + 1)), (by first | rfl | (simp; done) | (simp [*]; done)), H', ⟨by have := HK1.out; have := HK2.out; omega⟩, ⟨by (with_reducible repeat (first | apply Kd.R_alloc | apply Kd.R_drewN | apply Kd.R_drew)); exact HO_7.out⟩, ⟨by (with_reducible repeat (first | refine blk_drewN ?_ _ | refine blk_drew ?_ | refine blk_alloc ?_ _)); exact BK328.out⟩, ⟨by repeat (first | (with_reducible first | exact HB.out | apply below_alloc | apply pw_below_drewN | apply below_drew1 | refine below_set ?_ GE328.out) | exact HB.out)⟩⟩
                  · rw [if_neg c12] at H
                    exact absurd H (by simp)
                · rw [if_neg c11] at H
                  exact absurd H (by simp)
              · rw [if_neg c10] at H
                exact absurd H (by simp)
            · rw [if_neg c9] at H
              exact absurd H (by simp)
          · rw [if_neg c8] at H
            have c8b0 : decide (x19_1 < ((rd_L1 l0_0 a2).length : Int)) = false := decide_eq_false c8
            clear c8
            obtain rfl := Option.some.inj H
            go_wp2
            go_ret
            exact ⟨_, by first | rfl | (simp [errW_none, errW_some] <;> rfl) | (simp [*, errW_none, errW_some] <;> rfl), by (with_reducible repeat (first | apply Kd.R_alloc | apply Kd.R_drewN | apply Kd.R_drew)); exact HO_7.out, by repeat (first | (with_reducible first | exact HB.out | apply below_alloc | apply pw_below_drewN | apply below_drew1 | refine below_set ?_ GE328.out) | exact HB.out)⟩
    · rw [if_neg c5] at H
      exact absurd H (by simp)
  · rw [if_neg c4] at H
    exact absurd H (by simp)
end Go.Proofs.Ytkfpbblaomgihaa.P

namespace Go.Proofs.Ytkfpbblaomgihaa.P
open Go.RowKit Go.Proofs.YtkfpbblaomgihaaW.PrintWords Go.Proofs.YtkfpbblaomgihaaW.PrintLast Go.Proofs.YtkfpbblaomgihaaW.PrintMore
attribute [local go_sem] max2_int min2_int max_two min_two max_three min_three max_four min_four
def spec_l12In.l0 : Nat → Int → List Int → List Int → Int → Int → List (List Int) → List (S56) → Option (List Int)
  | 0, _, _, _, _, _, _, _ => none
  | k + 1, x2, x7, x21, x22, x23, x337000, x337001 => if x23 < x22 then (if 0 ≤ x23 then (if x23 < (x21.length : Int) then (if 0 ≤ x2 then (if x2 < (x337001.length : Int) then ((spec_l1Has.f k ((rd_T56 x337001 x2).f1) (rd x21 x23)).bind fun t349 => (if t349 = true then (spec_l12In.l0 k x2 x7 x21 x22 (wrap64 (x23 + 1)) x337000 x337001) else ((spec_l1Put.f k x7 (rd x21 x23)).bind fun t350 => (spec_l12In.l0 k x2 t350 x21 x22 (wrap64 (x23 + 1)) x337000 x337001)))) else (none)) else (none)) else (none)) else (none)) else (some x7)
def spec_l12In.f (k : Nat) (l0_0 : List (List Int)) (l0_1 : List (S56)) (l1 : List (List Int)) (a2 : Int) : Option (List Int) := (some (([] : List Int) : List Int)).bind fun y337 => (if 0 ≤ a2 then (if a2 < (l0_1.length : Int) then (if y337.length + ((rd_T56 l0_1 a2).f0).length < 17592186044416 then ((spec_l12Out.f k l0_0 l0_1 l1 a2).bind fun t344 => (spec_l12In.l0 k a2 (y337 ++ ((rd_T56 l0_1 a2).f0)) t344 (t344.length : Int) 0 l0_0 l0_1)) else (none)) else (none)) else (none))
theorem spec_l12In.mono_l : ∀ k, (∀ y0 y1 y2 y3 y4 y5 y6, LeO (spec_l12In.l0 k y0 y1 y2 y3 y4 y5 y6) (spec_l12In.l0 (k + 1) y0 y1 y2 y3 y4 y5 y6))
  | 0 => fun _ _ _ _ _ _ _ r h => by simp [spec_l12In.l0] at h
  | k + 1 => by
    have ih0 := spec_l12In.mono_l k
    · intro y0 y1 y2 y3 y4 y5 y6
      unfold spec_l12In.l0
      repeat' first
      | (with_reducible exact ih0 _ _ _ _ _ _ _)
      | (with_reducible exact spec_l12Out.mono _ _ _ _ _)
      | (with_reducible exact spec_l1Has.mono _ _ _)
      | (with_reducible exact spec_l1Put.mono _ _ _)
      | (with_reducible exact LeO.refl _)
      | (with_reducible exact LeO.none _)
      | (with_reducible refine LeO.ite ?_ ?_)
      | (with_reducible refine LeO.bind ?_ (fun _ => ?_))
      | exact ih0 _ _ _ _ _ _ _
      | exact spec_l12Out.mono _ _ _ _ _
      | exact spec_l1Has.mono _ _ _
      | exact spec_l1Put.mono _ _ _
      | exact LeO.none _
      | refine LeO.ite ?_ ?_
      | refine LeO.bind ?_ (fun _ => ?_)
theorem spec_l12In.mono : ∀ a0 a1 a2 a3 k, LeO (spec_l12In.f k a0 a1 a2 a3) (spec_l12In.f (k + 1) a0 a1 a2 a3) := by
  intro a0 a1 a2 a3 k
  have ih0 := spec_l12In.mono_l k
  unfold spec_l12In.f
  repeat' first
      | (with_reducible exact ih0 _ _ _ _ _ _ _)
      | (with_reducible exact spec_l12Out.mono _ _ _ _ _)
      | (with_reducible exact spec_l1Has.mono _ _ _)
      | (with_reducible exact spec_l1Put.mono _ _ _)
      | (with_reducible exact LeO.refl _)
      | (with_reducible exact LeO.none _)
      | (with_reducible refine LeO.ite ?_ ?_)
      | (with_reducible refine LeO.bind ?_ (fun _ => ?_))
      | exact ih0 _ _ _ _ _ _ _
      | exact spec_l12Out.mono _ _ _ _ _
      | exact spec_l1Has.mono _ _ _
      | exact spec_l1Put.mono _ _ _
      | exact LeO.none _
      | refine LeO.ite ?_ ?_
      | refine LeO.bind ?_ (fun _ => ?_)
set_option maxHeartbeats 8000000 in
set_option maxRecDepth 100000 in
theorem spec_l12In.calls (k : Nat) (A0_0 : Option Addr) (c0_0 : Nat) (l0_0 : List (List Int)) (A0_1 : Option Addr) (c0_1 : Nat) (l0_1 : List (S56)) (A1 : Option Addr) (c1 : Nat) (l1 : List (List Int)) (a2 : Int) (r : List Int) (w : World) (hr0_0 : Kd.C (Kd.slice 3 (Kd.int .i64)) w A0_0 l0_0.length l0_0) (hc0_0 : l0_0.length ≤ c0_0) (hr0_1 : Kd.C k56 w A0_1 l0_1.length l0_1) (hc0_1 : l0_1.length ≤ c0_1) (hr1 : Kd.C (Kd.slice 3 (Kd.int .i64)) w A1 l1.length l1) (hc1 : l1.length ≤ c1) (h : spec_l12In.f k l0_0 l0_1 l1 a2 = some r) :
    Calls Try.prog 61 #[.agg #[.slice A0_0 l0_0.length c0_0, .slice A0_1 l0_1.length c0_1], .slice A1 l1.length c1, .int .i64 a2] w fun e w' => ∃ v0_ : Value, e = .returned (v0_) ∧ Kd.R (Kd.int .i64) 3 w' w.heap.size (fun _ => True) v0_ r ∧ Below w.heap.size w w' := by
  have hu33 := Try.underlying33
  have HR0_0 := Aside0.mk hr0_0
  have HC0_0 := Aside0.mk hc0_0
  clear hr0_0 hc0_0
  have HR0_1 := Aside0.mk hr0_1
  have HC0_1 := Aside0.mk hc0_1
  clear hr0_1 hc0_1
  have HR1 := Aside0.mk hr1
  have HC1 := Aside0.mk hc1
  clear hr1 hc1
  have HB := Aside0.mk (Below.refl w.heap.size w)
  have H : ((some (([] : List Int) : List Int)).bind fun y337 => (if 0 ≤ a2 then (if a2 < (l0_1.length : Int) then (if y337.length + ((rd_T56 l0_1 a2).f0).length < 17592186044416 then ((spec_l12Out.f k l0_0 l0_1 l1 a2).bind fun t344 => (spec_l12In.l0 k a2 (y337 ++ ((rd_T56 l0_1 a2).f0)) t344 (t344.length : Int) 0 l0_0 l0_1)) else (none)) else (none)) else (none))) = some r := h
  clear h
  obtain ⟨y337, hy337⟩ : ∃ y_ : List Int, y_ = (([] : List Int)) := ⟨_, rfl⟩
  replace H : (if 0 ≤ a2 then (if a2 < (l0_1.length : Int) then (if y337.length + ((rd_T56 l0_1 a2).f0).length < 17592186044416 then ((spec_l12Out.f k l0_0 l0_1 l1 a2).bind fun t344 => (spec_l12In.l0 k a2 (y337 ++ ((rd_T56 l0_1 a2).f0)) t344 (t344.length : Int) 0 l0_0 l0_1)) else (none)) else (none)) else (none)) = some r := by first | (rw [hy337]; with_reducible exact H) | (have H2_ := (Option.bind_some _ _).symm.trans H; rw [hy337]; with_reducible exact H2_) | (have H2_ := (Option.bind_some _ _).symm.trans H; with_reducible exact H2_) | with_reducible exact H | (rw [hy337]; exact H) | exact H
  have Ny337 := Aside0.mk hy337
  clear hy337
  by_cases c4 : 0 ≤ a2
  · rw [if_pos c4] at H
    have c4b0 : decide (0 ≤ a2) = true := decide_eq_true c4
    clear c4
    by_cases c5 : a2 < (l0_1.length : Int)
    · rw [if_pos c5] at H
      have c5b0 : decide (a2 < (l0_1.length : Int)) = true := decide_eq_true c5
      clear c5
      by_cases c6 : y337.length + ((rd_T56 l0_1 a2).f0).length < 17592186044416
      · rw [if_pos c6] at H
        have LMc6 := Aside0.mk c6
        clear c6
        obtain ⟨y341, hy341⟩ : ∃ y_ : List Int, y_ = (y337 ++ ((rd_T56 l0_1 a2).f0)) := ⟨_, rfl⟩
        replace H : ((spec_l12Out.f k l0_0 l0_1 l1 a2).bind fun t344 => (spec_l12In.l0 k a2 y341 t344 (t344.length : Int) 0 l0_0 l0_1)) = some r := by first | (rw [hy341]; with_reducible exact H) | (have H2_ := (Option.bind_some _ _).symm.trans H; rw [hy341]; with_reducible exact H2_) | (have H2_ := (Option.bind_some _ _).symm.trans H; with_reducible exact H2_) | with_reducible exact H | (rw [hy341]; exact H) | exact H
        have Ny341 := Aside0.mk hy341
        clear hy341
        replace H := Option.bind_eq_some_iff.mp H
        obtain ⟨t344, A70, H⟩ := H
        replace H : (spec_l12In.l0 k a2 y341 t344 (t344.length : Int) 0 l0_0 l0_1) = some r := H
        have A7 := Aside0.mk A70
        clear A70
        have H' := Aside0.mk H
        clear H
        go_enter Try.func61, Try.ntmps61
        go_wp2_with (first | ((with_reducible refine gate_dst (N := 3) rfl ?_); refine box_event ?hg (N := 3) ?hd (cs := #[.slice A0_0 l0_0.length c0_0, .slice A0_1 l0_1.length c0_1]) (t := 33) ?hr ?_; (case hd => rfl); (case hg => rfl); (case hr => first | (go_simp; done) | (go_simp; rfl)); intro gb336 hg w8 hbox hb; have n0_ := Aside0.mk (below_step (by repeat (first | (with_reducible first | exact HB.out | apply below_alloc | apply pw_below_drewN | apply below_drew1) | exact HB.out)) hb); have n1_ := Aside0.mk (hbox); have n2_ := Aside0.mk ((by rw [hg]; exact (below_size (by repeat (first | (with_reducible first | exact HB.out | apply below_alloc | apply pw_below_drewN | apply below_drew1) | exact HB.out))) : w.heap.size ≤ gb336)); have n3_ := Aside0.mk ((by rw [hg]; exact (below_size (by repeat (first | (with_reducible first | exact HB.out | apply below_alloc | apply pw_below_drewN | apply below_drew1) | exact HB.out))) : w.heap.size ≤ gb336)); clear HB; have HB := n0_; have BK336 := n1_; have GW336 := n2_; have GE336 := n3_; clear n0_ n1_ n2_ n3_; clear hb hbox hg) | ((with_reducible refine gate_dst (N := 10) rfl ?_); refine Kd.R_lit (Kd.int .i64) _ 3 ?hg (N := 10) ?hd (xs := ([] : List Int)) (inner := []) (ok := fun _ => True) (okp := fun _ => True) ?hr ?hp (fun _ hk => hk) trivial (Below.refl _ _) (Nat.le_refl _) (by simp) ?_; (case hd => rfl); (case hg => rfl); (case hr => first | (go_simp; done) | (go_simp; rfl)); (case hp => exact (Reps.none _ _)); intro v338 w9 ho10 hb hg_ hnew_; clear hg_ hnew_; (first | rw [← Ny337.out] at ho10 | (simp only [Int.reduceToNat] at ho10; rw [← Ny337.out] at ho10)); have n0_ := Aside0.mk (Kd.R_lower ho10 (below_size (by repeat (first | (with_reducible first | exact HB.out | apply below_alloc | apply pw_below_drewN | apply below_drew1 | refine below_set ?_ GE336.out) | exact HB.out)))); have n1_ := Aside0.mk (blk_below (g := gb336) (o := .cells #[.slice A0_0 l0_0.length c0_0, .slice A0_1 l0_1.length c0_1] 33 (0, 0)) (by (with_reducible repeat (first | refine blk_drewN ?_ _ | refine blk_drew ?_ | refine blk_alloc ?_ _)); exact BK336.out) hb); have n2_ := Aside0.mk (below_step (by repeat (first | (with_reducible first | exact HB.out | apply below_alloc | apply pw_below_drewN | apply below_drew1 | refine below_set ?_ GE336.out) | exact HB.out)) hb); clear BK336; clear HB; have HO339 := n0_; have BK336 := n1_; have HB := n2_; clear n0_ n1_ n2_; clear hb ho10; have hcz11_0 : w9.cell? ⟨gb336, 0, none⟩ = some (.slice A0_0 l0_0.length c0_0) := (blk_cell BK336.out 0).trans rfl; have hcz11_1 : w9.cell? ⟨gb336, 1, none⟩ = some (.slice A0_1 l0_1.length c0_1) := (blk_cell BK336.out 1).trans rfl; have hfz11_0 := blk_frozen BK336.out 0; have hfz11_1 := blk_frozen BK336.out 1; have p340 : 0 ≤ (a2 : Int) := of_decide_eq_true (by first | (with_reducible assumption) | assumption); have q340 : a2 < (l0_1.length : Int) := of_decide_eq_true (by first | (with_reducible assumption) | assumption); obtain ⟨ad340, A340_0, c340_0, A340_1, c340_1, e340, hx340_0, hx340_1, hl340_0, hi340_0, hl340_1, hi340_1⟩ := at_T56 HR0_1.out a2 p340 q340; cases e340; replace hx340_0 := (HB.out.cell (World.block_lt_of_cell? w _ hx340_0)).trans hx340_0; replace hx340_1 := (HB.out.cell (World.block_lt_of_cell? w _ hx340_1)).trans hx340_1; have HR340_0 := Aside0.mk hi340_0; have HC340_0 := Aside0.mk hl340_0; clear hi340_0 hl340_0; have HR340_1 := Aside0.mk hi340_1; have HC340_1 := Aside0.mk hl340_1; clear hi340_1 hl340_1; replace p340 := eq_true p340; replace q340 := eq_true q340) | ((with_reducible refine gate_builtin (b := .append) (xs := #[.tmp 10, .tmp 16]) rfl ?_); at_builtin; refine Kd.R_append_rows (Kd.int .i64) (w0 := w) w.heap.size rfl (.tmp 10) (.tmp 16) 37 3 (.int .i64 0) 8 rfl Try.underlying37 info3 rfl (by decide) (by omega) v338 y337 ((rd_T56 l0_1 a2).f0) _ _ _ (fun _ => True) (fun _ => False) rfl rfl ?aO ?aR (fun _ _ h => h) (fun _ h => h.elim) ?aF ?aB ?aS ?aL ?_; (case aR => repeat (first | exact (Kd.C_below HR340_0.out HB.out) | (with_reducible refine Kd.C_alloc ?_ _) | (with_reducible refine Kd.C_drewN ?_ _) | (with_reducible refine Kd.C_drew ?_))); (case aB => exact (by repeat (first | (with_reducible first | exact HB.out | apply below_alloc | apply pw_below_drewN | apply below_drew1 | refine below_set ?_ GE336.out) | exact HB.out))); (case aF => exact (fun _ _ => trivial)); (case aO => exact (by (with_reducible repeat (first | apply Kd.R_alloc | apply Kd.R_drewN | apply Kd.R_drew)); exact HO339.out)); (case aS => exact (below_size (by repeat (first | (with_reducible first | exact HB.out | apply below_alloc | apply pw_below_drewN | apply below_drew1 | refine below_set ?_ GE336.out) | exact HB.out)))); (case aL => have := LMc6.out; omega); intro v342 w12 ho hb hg hat; rw [← Ny341.out] at ho; have n0_ := Aside0.mk (blk_grown (g := gb336) (o := .cells #[.slice A0_0 l0_0.length c0_0, .slice (some ad340) l0_1.length c0_1] 33 (0, 0)) (by (with_reducible repeat (first | refine blk_drewN ?_ _ | refine blk_drew ?_ | refine blk_alloc ?_ _)); exact BK336.out) hg (Kd.R_ne HO339.out BK336.out (by decide))); have n1_ := Aside0.mk (hb); have n2_ := Aside0.mk (ho); clear BK336; clear HB; clear HO339; have BK336 := n0_; have HB := n1_; have HO343 := n2_; clear n0_ n1_ n2_; clear ho hb hg hat; have hcz13_0 : w12.cell? ⟨gb336, 0, none⟩ = some (.slice A0_0 l0_0.length c0_0) := (blk_cell BK336.out 0).trans rfl; have hcz13_1 : w12.cell? ⟨gb336, 1, none⟩ = some (.slice (some ad340) l0_1.length c0_1) := (blk_cell BK336.out 1).trans rfl; have hfz13_0 := blk_frozen BK336.out 0; have hfz13_1 := blk_frozen BK336.out 1) | ((with_reducible refine gate_callee (f := 75) rfl ?_); refine goesL_ (some 21) rfl rfl Try.func75 (by kernel_rfl) rfl #[.agg #[.slice A0_0 l0_0.length c0_0, .slice (some ad340) l0_1.length c0_1], .slice A1 l1.length c1, .int .i64 a2] rfl (by (try simp only [List.map_toArray, List.map_cons, List.map_nil]); first | done | rfl | (simp only [List.length_drop, List.length_take]; rfl)) ?_; (with_reducible refine (spec_l12Out.calls k _ _ l0_0 _ _ l0_1 _ _ l1 a2 t344 _ ?side1 ?side2 ?side3 ?side4 ?side5 ?side6 A7.out).mono ?_); (case side1 => repeat (first | exact (Kd.C_below HR0_0.out HB.out) | (with_reducible refine Kd.C_alloc ?_ _) | (with_reducible refine Kd.C_drewN ?_ _) | (with_reducible refine Kd.C_drew ?_))); (case side2 => exact HC0_0.out); (case side3 => repeat (first | exact (Kd.C_below HR0_1.out HB.out) | (with_reducible refine Kd.C_alloc ?_ _) | (with_reducible refine Kd.C_drewN ?_ _) | (with_reducible refine Kd.C_drew ?_))); (case side4 => exact HC0_1.out); (case side5 => repeat (first | exact (Kd.C_below HR1.out HB.out) | (with_reducible refine Kd.C_alloc ?_ _) | (with_reducible refine Kd.C_drewN ?_ _) | (with_reducible refine Kd.C_drew ?_))); (case side6 => exact HC1.out); rintro e w14 ⟨v345, rfl, ho0, hb⟩; refine ⟨_, rfl, ?_⟩; have n0_ := Aside0.mk (Kd.R_elder' (by (with_reducible repeat (first | apply Kd.R_alloc | apply Kd.R_drewN | apply Kd.R_drew)); exact HO343.out) (Kd.R_base ho0) hb); have n1_ := Aside0.mk (Kd.R_lower (Kd.R_new' ho0 (Kd.R_lt (by (with_reducible repeat (first | apply Kd.R_alloc | apply Kd.R_drewN | apply Kd.R_drew)); exact HO343.out))) (below_size (by repeat (first | (with_reducible first | exact HB.out | apply below_alloc | apply pw_below_drewN | apply below_drew1 | refine below_set ?_ GE336.out) | exact HB.out)))); have n2_ := Aside0.mk (blk_below (g := gb336) (o := .cells #[.slice A0_0 l0_0.length c0_0, .slice (some ad340) l0_1.length c0_1] 33 (0, 0)) (by (with_reducible repeat (first | refine blk_drewN ?_ _ | refine blk_drew ?_ | refine blk_alloc ?_ _)); exact BK336.out) hb); have n3_ := Aside0.mk (below_step (by repeat (first | (with_reducible first | exact HB.out | apply below_alloc | apply pw_below_drewN | apply below_drew1 | refine below_set ?_ GE336.out) | exact HB.out)) hb); clear HO343; clear BK336; clear HB; have HO343 := n0_; have HO346 := n1_; have BK336 := n2_; have HB := n3_; clear n0_ n1_ n2_ n3_; (try clear hb); (try clear hb2); (try clear hk); (try clear hi); (try clear ho0); obtain ⟨Ao15, co15, eo15⟩ := Kd.R_slice HO346.out; subst eo15))
        go_loopg [7, 23] k (fun kq v7 v23 w' => ∃ (x7_1 : List Int) (x23_1 : Int), v23 = .int .i64 x23_1 ∧ Aside0 (spec_l12In.l0 kq a2 x7_1 t344 (t344.length : Int) x23_1 l0_0 l0_1 = some r) ∧ Aside0 (kq ≤ k) ∧ Aside0 (Kd.R (Kd.int .i64) 3 w' w.heap.size (fun k_ => some k_ ≠ ((.slice Ao15 t344.length co15) : Value).ownBlock) v7 x7_1) ∧ Aside0 (Kd.R (Kd.int .i64) 3 w' w.heap.size (fun k_ => some k_ ≠ (v7 : Value).ownBlock) (.slice Ao15 t344.length co15) t344) ∧ Aside0 (w'.heap[gb336]? = some (.cells #[(.slice A0_0 l0_0.length c0_0), (.slice (some ad340) l0_1.length c0_1)] 33 (0, 0))) ∧ Aside0 (Below w.heap.size w w'))
        case atStart => exact ⟨(y341), (0), (by first | rfl | (simp; done) | (simp [*]; done)), H', ⟨Nat.le_refl _⟩, ⟨by (with_reducible repeat (first | apply Kd.R_alloc | apply Kd.R_drewN | apply Kd.R_drew)); exact Kd.R_mono HO343.out (fun _ hk => hk.2)⟩, ⟨by (with_reducible repeat (first | apply Kd.R_alloc | apply Kd.R_drewN | apply Kd.R_drew)); exact Kd.R_mono HO346.out (fun _ hk => hk.2)⟩, ⟨by (with_reducible repeat (first | refine blk_drewN ?_ _ | refine blk_drew ?_ | refine blk_alloc ?_ _)); exact BK336.out⟩, ⟨by repeat (first | (with_reducible first | exact HB.out | apply below_alloc | apply pw_below_drewN | apply below_drew1 | refine below_set ?_ GE336.out) | exact HB.out)⟩⟩
        case round =>
          clear H'
          try clear c1
          try clear p2
          try clear c3
          try clear p3
          try clear q3
          try clear hx3
          try clear c4
          try clear c4b0
          try clear c5
          try clear c5b0
          try clear c6
          try clear c7
          try clear hcz11_0
          try clear hcz11_1
          try clear hcz13_0
          try clear hcz13_1
          try clear hfz11_0
          try clear hfz11_1
          try clear hfz13_0
          try clear hfz13_1
          try clear hx340_0
          try clear hx340_1
          try clear p340
          try clear q340
          obtain ⟨x7_1, x23_1, rfl, HA, HK1, HO_7, HO_21, BK336, HB⟩ := hrel
          cases gk with
          | zero => exact absurd HA.out (by simp [spec_l12In.l0])
          | succ k1 =>
            have H := HA.out
            clear HA
            simp only [spec_l12In.l0] at H
            by_cases c16 : x23_1 < (t344.length : Int)
            · rw [if_pos c16] at H
              have c16b0 : decide (x23_1 < (t344.length : Int)) = true := decide_eq_true c16
              clear c16
              by_cases c17 : 0 ≤ x23_1
              · rw [if_pos c17] at H
                have c17b0 : decide (0 ≤ x23_1) = true := decide_eq_true c17
                clear c17
                by_cases c18 : x23_1 < (t344.length : Int)
                · rw [if_pos c18] at H
                  have c18b0 : decide (x23_1 < (t344.length : Int)) = true := decide_eq_true c18
                  clear c18
                  by_cases c19 : 0 ≤ a2
                  · rw [if_pos c19] at H
                    have c19b0 : decide (0 ≤ a2) = true := decide_eq_true c19
                    clear c19
                    by_cases c20 : a2 < (l0_1.length : Int)
                    · rw [if_pos c20] at H
                      have c20b0 : decide (a2 < (l0_1.length : Int)) = true := decide_eq_true c20
                      clear c20
                      replace H := Option.bind_eq_some_iff.mp H
                      obtain ⟨t349, A210, H⟩ := H
                      replace H : (if t349 = true then (spec_l12In.l0 k1 a2 x7_1 t344 (t344.length : Int) (wrap64 (x23_1 + 1)) l0_0 l0_1) else ((spec_l1Put.f k1 x7_1 (rd t344 x23_1)).bind fun t350 => (spec_l12In.l0 k1 a2 t350 t344 (t344.length : Int) (wrap64 (x23_1 + 1)) l0_0 l0_1))) = some r := H
                      have A21 := Aside0.mk A210
                      clear A210
                      by_cases c22 : t349 = true
                      · subst c22
                        have H1 : (spec_l12In.l0 k1 a2 x7_1 t344 (t344.length : Int) (wrap64 (x23_1 + 1)) l0_0 l0_1) = some r := by rw [if_pos rfl] at H; exact H
                        clear H
                        have H := H1
                        clear H1
                        have H' := Aside0.mk H
                        clear H
                        have p347 : 0 ≤ (x23_1 : Int) := of_decide_eq_true (by first | (with_reducible assumption) | assumption)
                        have q347 : x23_1 < (t344.length : Int) := of_decide_eq_true (by first | (with_reducible assumption) | assumption)
                        obtain ⟨ad347, e347, hx347_0⟩ := Kd.at_int (Kd.R_reads' HO_21.out).2.2 x23_1 p347 q347
                        cases e347
                        replace p347 := eq_true p347
                        replace q347 := eq_true q347
                        have hcz23_0 : wr.cell? ⟨gb336, 0, none⟩ = some (.slice A0_0 l0_0.length c0_0) := (blk_cell BK336.out 0).trans rfl
                        have hcz23_1 : wr.cell? ⟨gb336, 1, none⟩ = some (.slice (some ad340) l0_1.length c0_1) := (blk_cell BK336.out 1).trans rfl
                        have hfz23_0 := blk_frozen BK336.out 0
                        have hfz23_1 := blk_frozen BK336.out 1
                        have p348 : 0 ≤ (a2 : Int) := of_decide_eq_true (by first | (with_reducible assumption) | assumption)
                        have q348 : a2 < (l0_1.length : Int) := of_decide_eq_true (by first | (with_reducible assumption) | assumption)
                        obtain ⟨ad348, A348_0, c348_0, A348_1, c348_1, e348, hx348_0, hx348_1, hl348_0, hi348_0, hl348_1, hi348_1⟩ := at_T56 HR0_1.out a2 p348 q348
                        obtain rfl : ad340 = ad348 := (by injection e348)
                        replace hx348_0 := (HB.out.cell (World.block_lt_of_cell? w _ hx348_0)).trans hx348_0
                        replace hx348_1 := (HB.out.cell (World.block_lt_of_cell? w _ hx348_1)).trans hx348_1
                        have HR348_0 := Aside0.mk hi348_0
                        have HC348_0 := Aside0.mk hl348_0
                        clear hi348_0 hl348_0
                        have HR348_1 := Aside0.mk hi348_1
                        have HC348_1 := Aside0.mk hl348_1
                        clear hi348_1 hl348_1
                        replace p348 := eq_true p348
                        replace q348 := eq_true q348
                        go_wp2_with (first | ((with_reducible refine gate_callee (f := 56) rfl ?_); refine goesL_ (some 34) rfl rfl Try.func56 (by kernel_rfl) rfl #[.slice A348_1 ((rd_T56 l0_1 a2).f1).length c348_1, .int .i64 (rd t344 x23_1)] rfl (by (try simp only [List.map_toArray, List.map_cons, List.map_nil]); first | done | rfl | (simp only [List.length_drop, List.length_take]; rfl)) ?_; (with_reducible refine (spec_l1Has.calls k1 _ _ ((rd_T56 l0_1 a2).f1) (rd t344 x23_1) true _ ?side1 ?side2 A21.out).mono ?_); (case side1 => repeat (first | exact (Kd.C_below HR348_1.out HB.out) | (with_reducible refine Kd.C_alloc ?_ _) | (with_reducible refine Kd.C_drewN ?_ _) | (with_reducible refine Kd.C_drew ?_))); (case side2 => exact HC348_1.out); rintro e w' ⟨rfl, ⟨nd, rfl⟩⟩; refine ⟨_, rfl, ?_⟩))
                        go_roundg k1
                        case measure => have := HK1.out; omega
                        case rel => exact ⟨(x7_1), (wrap64 (x23_1 + 1)), (by first | rfl | (simp; done) | (simp [*]; done)), H', ⟨by have := HK1.out; omega⟩, ⟨by (with_reducible repeat (first | apply Kd.R_alloc | apply Kd.R_drewN | apply Kd.R_drew)); exact HO_7.out⟩, ⟨by (with_reducible repeat (first | apply Kd.R_alloc | apply Kd.R_drewN | apply Kd.R_drew)); exact HO_21.out⟩, ⟨by (with_reducible repeat (first | refine blk_drewN ?_ _ | refine blk_drew ?_ | refine blk_alloc ?_ _)); exact BK336.out⟩, ⟨by repeat (first | (with_reducible first | exact HB.out | apply below_alloc | apply pw_below_drewN | apply below_drew1 | refine below_set ?_ GE336.out) | exact HB.out)⟩⟩
                      · replace c22 := Bool.eq_false_iff.mpr c22
                        subst c22
                        have H1 : ((spec_l1Put.f k1 x7_1 (rd t344 x23_1)).bind fun t350 => (spec_l12In.l0 k1 a2 t350 t344 (t344.length : Int) (wrap64 (x23_1 + 1)) l0_0 l0_1)) = some r := by rw [if_neg (show ¬ (false = true) by decide)] at H; exact H
                        clear H
                        have H := H1
                        clear H1
                        replace H := Option.bind_eq_some_iff.mp H
                        obtain ⟨t350, A240, H⟩ := H
                        replace H : (spec_l12In.l0 k1 a2 t350 t344 (t344.length : Int) (wrap64 (x23_1 + 1)) l0_0 l0_1) = some r := H
                        have A24 := Aside0.mk A240
                        clear A240
                        have H' := Aside0.mk H
                        clear H
                        have p347 : 0 ≤ (x23_1 : Int) := of_decide_eq_true (by first | (with_reducible assumption) | assumption)
                        have q347 : x23_1 < (t344.length : Int) := of_decide_eq_true (by first | (with_reducible assumption) | assumption)
                        obtain ⟨ad347, e347, hx347_0⟩ := Kd.at_int (Kd.R_reads' HO_21.out).2.2 x23_1 p347 q347
                        cases e347
                        replace p347 := eq_true p347
                        replace q347 := eq_true q347
                        have hcz25_0 : wr.cell? ⟨gb336, 0, none⟩ = some (.slice A0_0 l0_0.length c0_0) := (blk_cell BK336.out 0).trans rfl
                        have hcz25_1 : wr.cell? ⟨gb336, 1, none⟩ = some (.slice (some ad340) l0_1.length c0_1) := (blk_cell BK336.out 1).trans rfl
                        have hfz25_0 := blk_frozen BK336.out 0
                        have hfz25_1 := blk_frozen BK336.out 1
                        have p348 : 0 ≤ (a2 : Int) := of_decide_eq_true (by first | (with_reducible assumption) | assumption)
                        have q348 : a2 < (l0_1.length : Int) := of_decide_eq_true (by first | (with_reducible assumption) | assumption)
                        obtain ⟨ad348, A348_0, c348_0, A348_1, c348_1, e348, hx348_0, hx348_1, hl348_0, hi348_0, hl348_1, hi348_1⟩ := at_T56 HR0_1.out a2 p348 q348
                        obtain rfl : ad340 = ad348 := (by injection e348)
                        replace hx348_0 := (HB.out.cell (World.block_lt_of_cell? w _ hx348_0)).trans hx348_0
                        replace hx348_1 := (HB.out.cell (World.block_lt_of_cell? w _ hx348_1)).trans hx348_1
                        have HR348_0 := Aside0.mk hi348_0
                        have HC348_0 := Aside0.mk hl348_0
                        clear hi348_0 hl348_0
                        have HR348_1 := Aside0.mk hi348_1
                        have HC348_1 := Aside0.mk hl348_1
                        clear hi348_1 hl348_1
                        replace p348 := eq_true p348
                        replace q348 := eq_true q348
                        go_wp2_with (first | ((with_reducible refine gate_callee (f := 56) rfl ?_); refine goesL_ (some 34) rfl rfl Try.func56 (by kernel_rfl) rfl #[.slice A348_1 ((rd_T56 l0_1 a2).f1).length c348_1, .int .i64 (rd t344 x23_1)] rfl (by (try simp only [List.map_toArray, List.map_cons, List.map_nil]); first | done | rfl | (simp only [List.length_drop, List.length_take]; rfl)) ?_; (with_reducible refine (spec_l1Has.calls k1 _ _ ((rd_T56 l0_1 a2).f1) (rd t344 x23_1) false _ ?side1 ?side2 A21.out).mono ?_); (case side1 => repeat (first | exact (Kd.C_below HR348_1.out HB.out) | (with_reducible refine Kd.C_alloc ?_ _) | (with_reducible refine Kd.C_drewN ?_ _) | (with_reducible refine Kd.C_drew ?_))); (case side2 => exact HC348_1.out); rintro e w' ⟨rfl, ⟨nd, rfl⟩⟩; refine ⟨_, rfl, ?_⟩; obtain ⟨Ao26, co26, eo26⟩ := Kd.R_slice HO_7.out; subst eo26) | ((with_reducible refine gate_callee (f := 78) rfl ?_); refine goesL_ (some 38) rfl rfl Try.func78 (by kernel_rfl) rfl #[.slice Ao26 x7_1.length co26, .int .i64 (rd t344 x23_1)] rfl (by (try simp only [List.map_toArray, List.map_cons, List.map_nil]); first | done | rfl | (simp only [List.length_drop, List.length_take]; rfl)) ?_; (with_reducible refine (spec_l1Put.calls k1 (fun k_ => some k_ = (.slice Ao26 x7_1.length co26 : Value).ownBlock) (.slice Ao26 x7_1.length co26) x7_1 (rd t344 x23_1) t350 w _ ?side1 ?side2 A24.out).mono ?_); (case side1 => repeat (first | (with_reducible first | exact HB.out | apply below_alloc | apply pw_below_drewN | apply below_drew1 | refine below_set ?_ GE336.out) | exact HB.out)); (case side2 => exact Kd.R_tight rfl HO_7.out); rintro e w27 ⟨v351, rfl, ho0, hb, hkp⟩; refine ⟨_, rfl, ?_⟩; have n0_ := Aside0.mk (Kd.R_mono (ok' := fun k_ => some k_ ≠ (v351 : Value).ownBlock) (Kd.R_keptB (HO_21.out) hkp (fun k_ hk_ hs_ => (hk_) hs_)) (fun k_ hk_ => fun e_ => Or.elim (ho0.1 k_ e_.symm) (fun hs_ => hk_.2.1 hs_) (fun hn_ => Nat.not_le.2 hk_.2.2 hn_))); have n1_ := Aside0.mk (blk_kept (by (with_reducible repeat (first | refine blk_drewN ?_ _ | refine blk_drew ?_ | refine blk_alloc ?_ _)); exact BK336.out) hkp (fun hs_ => (fun e_ => (Kd.R_ne HO_7.out BK336.out (by decide)) e_) hs_)); have n2_ := Aside0.mk (Kd.R_mono (ok' := fun k_ => some k_ ≠ (.slice (some ad347) t344.length co15 : Value).ownBlock) ho0 (fun k_ hk_ => Or.elim hk_ (fun hs_ => fun e_ => (((HO_21.out).1 k_ e_.symm)) hs_) (fun hn_ => (Kd.fresh' (Kd.R_lt (by (with_reducible repeat (first | apply Kd.R_alloc | apply Kd.R_drewN | apply Kd.R_drew)); exact HO_21.out)) k_ hn_)))); have n3_ := Aside0.mk (hb); clear HO_21; clear BK336; clear HB; clear HO_7; have HO_21 := n0_; have BK336 := n1_; have HO352 := n2_; have HB := n3_; clear n0_ n1_ n2_ n3_; (try clear hb); (try clear hkp); (try clear ho0)))
                        go_roundg k1
                        case measure => have := HK1.out; omega
                        case rel => exact ⟨(t350), (wrap64 (x23_1 + 1)), (by first | rfl | (simp; done) | (simp [*]; done)), H', ⟨by have := HK1.out; omega⟩, ⟨by (with_reducible repeat (first | apply Kd.R_alloc | apply Kd.R_drewN | apply Kd.R_drew)); exact HO352.out⟩, ⟨by (with_reducible repeat (first | apply Kd.R_alloc | apply Kd.R_drewN | apply Kd.R_drew)); exact HO_21.out⟩, ⟨by (with_reducible repeat (first | refine blk_drewN ?_ _ | refine blk_drew ?_ | refine blk_alloc ?_ _)); exact BK336.out⟩, ⟨by repeat (first | (with_reducible first | exact HB.out | apply below_alloc | apply pw_below_drewN | apply below_drew1 | refine below_set ?_ GE336.out) | exact HB.out)⟩⟩
                    · rw [if_neg c20] at H
                      exact absurd H (by simp)
                  · rw [if_neg c19] at H
                    exact absurd H (by simp)
                · rw [if_neg c18] at H
                  exact absurd H (by simp)
              · rw [if_neg c17] at H
                exact absurd H (by simp)
            · rw [if_neg c16] at H
              have c16b0 : decide (x23_1 < (t344.length : Int)) = false := decide_eq_false c16
              clear c16
              obtain rfl := Option.some.inj H
              go_wp2
              go_ret
              exact ⟨_, by first | rfl | (simp [errW_none, errW_some] <;> rfl) | (simp [*, errW_none, errW_some] <;> rfl), by (with_reducible repeat (first | apply Kd.R_alloc | apply Kd.R_drewN | apply Kd.R_drew)); exact Kd.R_mono HO_7.out (fun _ hk => trivial), by repeat (first | (with_reducible first | exact HB.out | apply below_alloc | apply pw_below_drewN | apply below_drew1 | refine below_set ?_ GE336.out) | exact HB.out)⟩
      · rw [if_neg c6] at H
        exact absurd H (by simp)
    · rw [if_neg c5] at H
      exact absurd H (by simp)
  · rw [if_neg c4] at H
    exact absurd H (by simp)
end Go.Proofs.Ytkfpbblaomgihaa.P

namespace Go.Proofs.Ytkfpbblaomgihaa.P
open Go.RowKit Go.Proofs.YtkfpbblaomgihaaW.PrintWords Go.Proofs.YtkfpbblaomgihaaW.PrintLast Go.Proofs.YtkfpbblaomgihaaW.PrintMore
attribute [local go_sem] max2_int min2_int max_two min_two max_three min_three max_four min_four
def spec_l12Same.l0 : Nat → List Int → List Int → Int → Int → Option (Bool)
  | 0, _, _, _, _ => none
  | k + 1, x0, x1, x12, x13 => if x13 < x12 then (if 0 ≤ x13 then (if x13 < (x0.length : Int) then (if x13 < (x1.length : Int) then (if (rd x0 x13) = (rd x1 x13) then (spec_l12Same.l0 k x0 x1 x12 (wrap64 (x13 + 1))) else (some false)) else (none)) else (none)) else (none)) else (some true)
def spec_l12Same.f (k : Nat) (l0 : List Int) (l1 : List Int) : Option (Bool) := if (l0.length : Int) = (l1.length : Int) then (spec_l12Same.l0 k l0 l1 (l0.length : Int) 0) else (some false)
theorem spec_l12Same.mono_l : ∀ k, (∀ y0 y1 y2 y3, LeO (spec_l12Same.l0 k y0 y1 y2 y3) (spec_l12Same.l0 (k + 1) y0 y1 y2 y3))
  | 0 => fun _ _ _ _ r h => by simp [spec_l12Same.l0] at h
  | k + 1 => by
    have ih0 := spec_l12Same.mono_l k
    · intro y0 y1 y2 y3
      unfold spec_l12Same.l0
      repeat' first
      | (with_reducible exact ih0 _ _ _ _)
      | (with_reducible exact LeO.refl _)
      | (with_reducible exact LeO.none _)
      | (with_reducible refine LeO.ite ?_ ?_)
      | (with_reducible refine LeO.bind ?_ (fun _ => ?_))
      | exact ih0 _ _ _ _
      | exact LeO.none _
      | refine LeO.ite ?_ ?_
      | refine LeO.bind ?_ (fun _ => ?_)
theorem spec_l12Same.mono : ∀ a0 a1 k, LeO (spec_l12Same.f k a0 a1) (spec_l12Same.f (k + 1) a0 a1) := by
  intro a0 a1 k
  have ih0 := spec_l12Same.mono_l k
  unfold spec_l12Same.f
  repeat' first
      | (with_reducible exact ih0 _ _ _ _)
      | (with_reducible exact LeO.refl _)
      | (with_reducible exact LeO.none _)
      | (with_reducible refine LeO.ite ?_ ?_)
      | (with_reducible refine LeO.bind ?_ (fun _ => ?_))
      | exact ih0 _ _ _ _
      | exact LeO.none _
      | refine LeO.ite ?_ ?_
      | refine LeO.bind ?_ (fun _ => ?_)
set_option maxHeartbeats 8000000 in
set_option maxRecDepth 100000 in
theorem spec_l12Same.calls (k : Nat) (A0 : Option Addr) (c0 : Nat) (l0 : List Int) (A1 : Option Addr) (c1 : Nat) (l1 : List Int) (r : Bool) (w : World) (hr0 : Kd.C (Kd.int .i64) w A0 l0.length l0) (hc0 : l0.length ≤ c0) (hr1 : Kd.C (Kd.int .i64) w A1 l1.length l1) (hc1 : l1.length ≤ c1) (h : spec_l12Same.f k l0 l1 = some r) :
    Calls Try.prog 60 #[.slice A0 l0.length c0, .slice A1 l1.length c1] w fun e w' => e = .returned (.bool r) ∧ Drawn0 w w' := by
  have HR0 := Aside0.mk hr0
  have HC0 := Aside0.mk hc0
  clear hr0 hc0
  have HR1 := Aside0.mk hr1
  have HC1 := Aside0.mk hc1
  clear hr1 hc1
  have H : (if (l0.length : Int) = (l1.length : Int) then (spec_l12Same.l0 k l0 l1 (l0.length : Int) 0) else (some false)) = some r := h
  clear h
  by_cases c3 : (l0.length : Int) = (l1.length : Int)
  · rw [if_pos c3] at H
    have c3b0 : ((l0.length : Int) == (l1.length : Int)) = true := beq_iff_eq.mpr c3
    have c3b1 : ((l0.length : Int) != (l1.length : Int)) = false := bne_eq_false_iff_eq.mpr c3
    have c3b2 : (l0.length == l1.length) = true := by first | simpa using c3 | (simp at c3 ⊢; omega)
    clear c3
    have H' := Aside0.mk H
    clear H
    go_enter Try.func60, Try.ntmps60
    go_wp2
    repeat (go_quiet (fail); try go_wp2)
    go_loopg [13] k (fun kq v13 w' => ∃ (x13_1 : Int), v13 = .int .i64 x13_1 ∧ Aside0 (spec_l12Same.l0 kq l0 l1 (l0.length : Int) x13_1 = some r) ∧ Aside0 (kq ≤ k) ∧ Drawn0 w w')
    case atStart => exact ⟨(0), (by first | rfl | (simp; done) | (simp [*]; done)), H', ⟨Nat.le_refl _⟩, by repeat (first | exact Drawn0.refl _ | apply Drawn0.step)⟩
    case round =>
      clear H'
      try clear c1
      try clear p2
      try clear c3
      try clear c3b0
      try clear c3b1
      try clear c3b2
      obtain ⟨x13_1, rfl, HA, HK1, ⟨m1, rfl⟩⟩ := hrel
      cases gk with
      | zero => exact absurd HA.out (by simp [spec_l12Same.l0])
      | succ k1 =>
        have H := HA.out
        clear HA
        simp only [spec_l12Same.l0] at H
        by_cases c4 : x13_1 < (l0.length : Int)
        · rw [if_pos c4] at H
          have c4b0 : decide (x13_1 < (l0.length : Int)) = true := decide_eq_true c4
          clear c4
          by_cases c5 : 0 ≤ x13_1
          · rw [if_pos c5] at H
            have c5b0 : decide (0 ≤ x13_1) = true := decide_eq_true c5
            clear c5
            by_cases c6 : x13_1 < (l0.length : Int)
            · rw [if_pos c6] at H
              have c6b0 : decide (x13_1 < (l0.length : Int)) = true := decide_eq_true c6
              clear c6
              by_cases c7 : x13_1 < (l1.length : Int)
              · rw [if_pos c7] at H
                have c7b0 : decide (x13_1 < (l1.length : Int)) = true := decide_eq_true c7
                clear c7
                by_cases c8 : (rd l0 x13_1) = (rd l1 x13_1)
                · rw [if_pos c8] at H
                  have c8b0 : ((rd l0 x13_1) == (rd l1 x13_1)) = true := beq_iff_eq.mpr c8
                  have c8b1 : ((rd l0 x13_1) != (rd l1 x13_1)) = false := bne_eq_false_iff_eq.mpr c8
                  clear c8
                  have H' := Aside0.mk H
                  clear H
                  have p290 : 0 ≤ (x13_1 : Int) := of_decide_eq_true (by first | (with_reducible assumption) | assumption)
                  have q290 : x13_1 < (l0.length : Int) := of_decide_eq_true (by first | (with_reducible assumption) | assumption)
                  obtain ⟨ad290, e290, hx290_0⟩ := Kd.at_int HR0.out x13_1 p290 q290
                  cases e290
                  replace p290 := eq_true p290
                  replace q290 := eq_true q290
                  have p291 : 0 ≤ (x13_1 : Int) := of_decide_eq_true (by first | (with_reducible assumption) | assumption)
                  have q291 : x13_1 < (l1.length : Int) := of_decide_eq_true (by first | (with_reducible assumption) | assumption)
                  obtain ⟨ad291, e291, hx291_0⟩ := Kd.at_int HR1.out x13_1 p291 q291
                  cases e291
                  replace p291 := eq_true p291
                  replace q291 := eq_true q291
                  go_wp2
                  repeat (go_quiet (fail); try go_wp2)
                  go_roundg k1
                  case measure => have := HK1.out; omega
                  case rel => exact ⟨(wrap64 (x13_1 + 1)), (by first | rfl | (simp; done) | (simp [*]; done)), H', ⟨by have := HK1.out; omega⟩, by repeat (first | exact Drawn0.refl _ | apply Drawn0.step)⟩
                · rw [if_neg c8] at H
                  have c8b0 : ((rd l0 x13_1) == (rd l1 x13_1)) = false := beq_eq_false_iff_ne.mpr c8
                  have c8b1 : ((rd l0 x13_1) != (rd l1 x13_1)) = true := bne_iff_ne.mpr c8
                  obtain rfl := Option.some.inj H
                  have p290 : 0 ≤ (x13_1 : Int) := of_decide_eq_true (by first | (with_reducible assumption) | assumption)
                  have q290 : x13_1 < (l0.length : Int) := of_decide_eq_true (by first | (with_reducible assumption) | assumption)
                  obtain ⟨ad290, e290, hx290_0⟩ := Kd.at_int HR0.out x13_1 p290 q290
                  cases e290
                  replace p290 := eq_true p290
                  replace q290 := eq_true q290
                  have p291 : 0 ≤ (x13_1 : Int) := of_decide_eq_true (by first | (with_reducible assumption) | assumption)
                  have q291 : x13_1 < (l1.length : Int) := of_decide_eq_true (by first | (with_reducible assumption) | assumption)
                  obtain ⟨ad291, e291, hx291_0⟩ := Kd.at_int HR1.out x13_1 p291 q291
                  cases e291
                  replace p291 := eq_true p291
                  replace q291 := eq_true q291
                  go_wp2
                  repeat (go_quiet (fail); try go_wp2)
                  go_ret
                  exact ⟨by first | rfl | (simp; done) | (simp [*]; done), by repeat (first | exact Drawn0.refl _ | apply Drawn0.step)⟩
              · rw [if_neg c7] at H
                exact absurd H (by simp)
            · rw [if_neg c6] at H
              exact absurd H (by simp)
          · rw [if_neg c5] at H
            exact absurd H (by simp)
        · rw [if_neg c4] at H
          have c4b0 : decide (x13_1 < (l0.length : Int)) = false := decide_eq_false c4
          clear c4
          obtain rfl := Option.some.inj H
          go_wp2
          repeat (go_quiet (fail); try go_wp2)
          go_ret
          exact ⟨by first | rfl | (simp; done) | (simp [*]; done), by repeat (first | exact Drawn0.refl _ | apply Drawn0.step)⟩
  · rw [if_neg c3] at H
    have c3b0 : ((l0.length : Int) == (l1.length : Int)) = false := beq_eq_false_iff_ne.mpr c3
    have c3b1 : ((l0.length : Int) != (l1.length : Int)) = true := bne_iff_ne.mpr c3
    have c3b2 : (l0.length == l1.length) = false := by first | simpa using c3 | (simp at c3 ⊢; omega)
    obtain rfl := Option.some.inj H
    go_enter Try.func60, Try.ntmps60
    go_wp2
    repeat (go_quiet (fail); try go_wp2)
    go_ret
    exact ⟨by first | rfl | (simp; done) | (simp [*]; done), by repeat (first | exact Drawn0.refl _ | apply Drawn0.step)⟩
end Go.Proofs.Ytkfpbblaomgihaa.P

namespace Go.Proofs.Ytkfpbblaomgihaa.P
open Go.RowKit Go.Proofs.YtkfpbblaomgihaaW.PrintWords Go.Proofs.YtkfpbblaomgihaaW.PrintLast Go.Proofs.YtkfpbblaomgihaaW.PrintMore
attribute [local go_sem] max2_int min2_int max_two min_two max_three min_three max_four min_four
theorem bcells_one (bs : List Bool) : ∀ q ∈ (H.bcells bs).toList, q.oneCell' = true := by
  intro q hq
  unfold H.bcells at hq
  rw [List.toList_toArray] at hq
  obtain ⟨b, _, rfl⟩ := List.mem_map.1 hq
  rfl
def thrS (bs : List Bool) (s : List Int) : List Bool := s.foldl (fun a k => a.set k.toNat false) bs
def thrU (bs : List Bool) (u : List Int) : List Bool := u.foldl (fun a k => a.set k.toNat true) bs
theorem thrS_len (s : List Int) : ∀ bs : List Bool, (thrS bs s).length = bs.length := by
  induction s with
  | nil => intro bs; rfl
  | cons x s ih => intro bs; exact (ih _).trans (by simp)
theorem thrU_len (s : List Int) : ∀ bs : List Bool, (thrU bs s).length = bs.length := by
  induction s with
  | nil => intro bs; rfl
  | cons x s ih => intro bs; exact (ih _).trans (by simp)
set_option maxHeartbeats 8000000 in
theorem impl_through.calls (p : Addr) (A0 : Option Addr) (c0 : Nat) (u : List Int) (A1 : Option Addr) (c1 : Nat) (s : List Int) (bs : List Bool) (w : World) (hp0 : w.cell? p = some (.slice A0 u.length c0)) (hp1 : w.cell? ⟨p.block, p.off + 1, none⟩ = some (.slice A1 s.length c1))
    (hr0 : Kd.C (Kd.int .i64) w A0 u.length u) (hr1 : Kd.C (Kd.int .i64) w A1 s.length s) (hu : ∀ x ∈ u, 0 ≤ x ∧ x ≤ 7) (hs : ∀ x ∈ s, 0 ≤ x ∧ x ≤ 7) (hb : bs.length = 8) :
    Calls Try.prog 62 #[.pointer (some p), .agg (H.bcells bs)] w fun e w' => e = .returned (.agg (H.bcells (thrU (thrS bs s) u))) ∧ Below w.heap.size w w' := by
  have hn0 := hr0.2.1
  have hn1 := hr1.2.1
  have HP0 := Aside0.mk hp0
  have HP1 := Aside0.mk hp1
  have HR0 := Aside0.mk hr0
  have HR1 := Aside0.mk hr1
  have HU := Aside0.mk hu
  have HS := Aside0.mk hs
  have HL := Aside0.mk hb
  clear hp0 hp1 hr0 hr1 hu hs hb
  obtain ⟨rr, hrr⟩ : ∃ rr, thrU (thrS bs s) u = rr := ⟨_, rfl⟩
  have HG := Aside0.mk hrr
  rw [hrr]
  clear hrr
  go_enter Try.func62, Try.ntmps62
  go_wp2_with (first | ((with_reducible refine gate_dst (N := 3) rfl ?_); refine box_event ?hg (N := 3) ?hd (cs := H.bcells bs) (t := 78) ?hr ?_; (case hd => rfl); (case hg => rfl); (case hr => first | (go_simp; done) | (go_simp; rfl)); intro ga hga w1 hba hb1; have HGA := Aside0.mk (show w.heap.size ≤ ga by rw [hga]; exact Nat.le_refl _); have HBA := Aside0.mk hba; have HB1 := Aside0.mk hb1; clear hga hba hb1) | ((with_reducible refine gate_dst (N := 4) rfl ?_); refine box_event ?hg (N := 4) ?hd (cs := H.bcells (List.replicate 8 false)) (t := 78) ?hr ?_; (case hd => rfl); (case hg => rfl); (case hr => first | (go_simp; done) | (go_simp; rfl)); intro gc hgc w2 hbc hb2; have HGC := Aside0.mk (show w.heap.size ≤ gc by rw [hgc]; exact HB1.out.size); have HBC := Aside0.mk hbc; have HBA2 := Aside0.mk (blk_below HBA.out hb2); have HNE := Aside0.mk (show gc ≠ ga by rw [hgc]; exact fun e => by have := blk_lt HBA.out; omega); have HB2 := Aside0.mk (HB1.out.trans (hb2.mono HB1.out.size)); have hx1 := (HB2.out.cell (World.block_lt_of_cell? w _ HP1.out)).trans HP1.out;  clear hgc hbc hb2))
  go_loopw [14] (fun v14 wr => ∃ (i : Nat) (acc : List Bool), v14 = .int .i64 i ∧ i ≤ s.length ∧ Aside0 (acc.length = 8) ∧ Aside0 (thrS acc (s.drop i) = thrS bs s) ∧ Aside0 (wr.heap[ga]? = some (.cells (H.bcells acc) 78 (0, 0))) ∧ Aside0 (wr.heap[gc]? = some (.cells (H.bcells (List.replicate 8 false)) 78 (0, 0))) ∧ Aside0 (Below w.heap.size w wr)) (fun v14 _ => s.length - (intOf v14).toNat)
  case atStart => exact ⟨0, bs, rfl, Nat.zero_le _, HL, ⟨rfl⟩, HBA2, HBC, HB2⟩
  case round =>
    clear HBA2 HBC HB2 HB1 HBA hx1
    obtain ⟨i, acc, rfl, hi, HLA, HE, HBA, HBC, HB⟩ := hrel
    by_cases hlt : i < s.length
    · obtain ⟨ad, e, h0⟩ := Kd.at_int HR1.out (i : Int) (by omega) (by omega)
      cases e
      rw [Int.toNat_natCast] at h0
      replace h0 := (HB.out.cell (World.block_lt_of_cell? w _ h0)).trans h0
      have hx : rd s (i : Int) = s[i] := by
        show s.getD i _ = _
        rw [List.getD_eq_getElem?_getD, List.getElem?_eq_getElem hlt]
        rfl
      have hE := HE.out
      rw [List.drop_eq_getElem_cons hlt] at hE
      obtain ⟨hx0, hx1⟩ := HS.out s[i] (List.getElem_mem hlt)
      rw [hx] at h0
      generalize s[i] = x at h0 hE hx0 hx1
      have HE' := Aside0.mk (show thrS (acc.set x.toNat false) (s.drop (i + 1)) = thrS bs s from hE)
      have hx2 : x < 8 := by omega
      have HX := Aside0.mk (show x.toNat < 8 by omega)
      clear hE HE hx
      go_wp2_with ((with_reducible refine gate_store (t := 4) (p := 19) rfl ?_); refine H.store_blk (cs' := H.bcells (acc.set x.toNat false)) (u := .bool false) (seg := [.bool false]) rfl rfl rfl rfl HBA.out rfl rfl (by kernel_rfl) (by simp [Value.oneCell']) (by rw [H.bcells_size, HLA.out]; have := HX.out; simp; omega) (H.bcells_put _ _ _ (by rw [HLA.out]; exact HX.out)) ?_; intro w8 hba8 hg8 hz8; have HBA8 := Aside0.mk hba8; have HBC8 := Aside0.mk (H.blk_other HBC.out hg8 HNE.out); have HB8 := Aside0.mk (H.below_own HB.out hg8 HB.out.size HGA.out); clear hba8 hg8 hz8)
      go_roundw
      case rel => exact ⟨i + 1, _, by go_num, by omega, ⟨by rw [List.length_set]; exact HLA.out⟩, HE', HBA8, HBC8, HB8⟩
      case measure => simp [intOf]; omega
    · have hE : acc = thrS bs s := by rw [← HE.out, List.drop_of_length_le (by omega)]; rfl
      subst hE
      have hx0 := (HB.out.cell (World.block_lt_of_cell? w _ HP0.out)).trans HP0.out
      go_wp2
      clear HE
      go_loopw [26] (fun v26 wr => ∃ (i : Nat) (acc : List Bool), v26 = .int .i64 i ∧ i ≤ u.length ∧ Aside0 (acc.length = 8) ∧ Aside0 (thrU acc (u.drop i) = rr) ∧ Aside0 (wr.heap[ga]? = some (.cells (H.bcells acc) 78 (0, 0))) ∧ Aside0 (wr.heap[gc]? = some (.cells (H.bcells (List.replicate 8 false)) 78 (0, 0))) ∧ Aside0 (Below w.heap.size w wr)) (fun v26 _ => u.length - (intOf v26).toNat)
      case atStart => exact ⟨0, _, rfl, Nat.zero_le _, HLA, HG, HBA, HBC, HB⟩
      case round =>
        clear HBA HBC HB hx0 HLA
        obtain ⟨i, acc, rfl, hi, HLA, HE, HBA, HBC, HB⟩ := hrel
        by_cases hlt : i < u.length
        · obtain ⟨ad, e, h0⟩ := Kd.at_int HR0.out (i : Int) (by omega) (by omega)
          cases e
          rw [Int.toNat_natCast] at h0
          replace h0 := (HB.out.cell (World.block_lt_of_cell? w _ h0)).trans h0
          have hx : rd u (i : Int) = u[i] := by
            show u.getD i _ = _
            rw [List.getD_eq_getElem?_getD, List.getElem?_eq_getElem hlt]
            rfl
          have hE := HE.out
          rw [List.drop_eq_getElem_cons hlt] at hE
          obtain ⟨hx0, hx1⟩ := HU.out u[i] (List.getElem_mem hlt)
          rw [hx] at h0
          generalize u[i] = x at h0 hE hx0 hx1
          have HE' := Aside0.mk (show thrU (acc.set x.toNat true) (u.drop (i + 1)) = rr from hE)
          have hx2 : x < 8 := by omega
          have HX := Aside0.mk (show x.toNat < 8 by omega)
          clear hE HE hx
          go_wp2_with ((with_reducible refine gate_store (t := 4) (p := 31) rfl ?_); refine H.store_blk (cs' := H.bcells (acc.set x.toNat true)) (u := .bool true) (seg := [.bool true]) rfl rfl rfl rfl HBA.out rfl rfl (by kernel_rfl) (by simp [Value.oneCell']) (by rw [H.bcells_size, HLA.out]; have := HX.out; simp; omega) (H.bcells_put _ _ _ (by rw [HLA.out]; exact HX.out)) ?_; intro w8 hba8 hg8 hz8; have HBA8 := Aside0.mk hba8; have HBC8 := Aside0.mk (H.blk_other HBC.out hg8 HNE.out); have HB8 := Aside0.mk (H.below_own HB.out hg8 HB.out.size HGA.out); clear hba8 hg8 hz8)
          go_roundw
          case rel => exact ⟨i + 1, _, by go_num, by omega, ⟨by rw [List.length_set]; exact HLA.out⟩, HE', HBA8, HBC8, HB8⟩
          case measure => simp [intOf]; omega
        · have hE : acc = rr := by rw [← HE.out, List.drop_of_length_le (by omega)]; rfl
          subst hE
          go_wp2_with (first | ((with_reducible refine gate_dst (N := 33) rfl ?_); refine wpList_load_row rfl 78 (.tmp 3) rfl ga rfl 78 (H.bcells acc) (0, 0) _ HBA.out Try.underlying78 rfl (by rw [H.bcells_size, HLA.out]; kernel_rfl) ?_) | ((with_reducible refine gate_store (t := 78) (p := 4) rfl ?_); refine H.store_blk (cs' := H.bcells acc) (u := .agg (H.bcells acc)) (seg := (H.bcells acc).toList) rfl rfl rfl rfl HBC.out rfl rfl (by rw [Array.length_toList, H.bcells_size, HLA.out]; kernel_rfl) (bcells_one acc) (by rw [Array.length_toList, H.bcells_size, H.bcells_size, HLA.out, List.length_replicate]; decide) (by rw [List.take_zero, List.nil_append, Array.length_toList, H.bcells_size, HLA.out, List.drop_of_length_le (by rw [Array.length_toList, H.bcells_size, List.length_replicate]; decide), List.append_nil]) ?_; intro w9 hbc9 hg9 hz9; have HBC9 := Aside0.mk hbc9; have HB9 := Aside0.mk (H.below_own HB.out hg9 HB.out.size HGC.out); clear hbc9 hg9 hz9))
          (try simp only [Exit.inBlock, Exit.then])
          refine bodyPost_ret (results_cell_row rfl _ _ gc _ (H.bcells acc) (0, 0) _ rfl HBC9.out Try.underlying78 rfl (by rw [H.bcells_size, HLA.out]; kernel_rfl)) rfl ?_
          exact ⟨rfl, HB9.out⟩
end Go.Proofs.Ytkfpbblaomgihaa.P

namespace Go.Proofs.Ytkfpbblaomgihaa.P
open Go.RowKit Go.Proofs.YtkfpbblaomgihaaW.PrintWords Go.Proofs.YtkfpbblaomgihaaW.PrintLast Go.Proofs.YtkfpbblaomgihaaW.PrintMore
attribute [local go_sem] max2_int min2_int max_two min_two max_three min_three max_four min_four
theorem flat_get {n j : Nat} (hj : j < n) : ∀ (M : List (List Bool)) (k : Nat), (∀ r ∈ M, r.length = n) → k < M.length → M.flatten[k * n + j]? = (M.getD k [])[j]?
  | [], k, _, hk => by simp at hk
  | r :: M, 0, h, _ => by
    have hr := h r (by simp)
    rw [List.flatten_cons, Nat.zero_mul, Nat.zero_add, List.getElem?_append_left (by omega)]
    rfl
  | r :: M, k + 1, h, hk => by
    have hr := h r (by simp)
    have e : (k + 1) * n + j = n + (k * n + j) := by rw [Nat.succ_mul]; omega
    rw [List.flatten_cons, e, List.getElem?_append_right (by omega), hr, Nat.add_sub_cancel_left, flat_get hj M k (fun x hx => h x (by simp [hx])) (by simpa using hk)]
    rfl
theorem mrange {W : World} {g n : Nat} {M : List (List Bool)} {T : TypeId} (h : W.heap[g]? = some (.cells (H.bcells M.flatten) T (0, 0))) (hM : ∀ r ∈ M, r.length = n) (k : Nat) (hk : k < M.length) : W.rangeAt g (k * n) ((M.getD k []).map Value.bool) := by
  intro j v hv
  have hl : (M.getD k []).length = n := by
    rw [List.getD_eq_getElem?_getD, List.getElem?_eq_getElem hk]
    exact hM _ (List.getElem_mem hk)
  have hj : j < n := by
    have := (List.getElem?_eq_some_iff.1 hv).1
    rw [List.length_map] at this
    omega
  rw [blk_cell h (k * n + j)]
  unfold H.bcells
  rw [List.getElem?_toArray, List.getElem?_map, flat_get hj M k hM hk, ← List.getElem?_map]
  exact hv
theorem run_idx8 (w : World) (bs : List Bool) (hb : bs.length = 8) (j : Nat) (hj : j < 8) : (Instr.index 78 (.agg (bs.map Value.bool).toArray) (.int .i64 (j : Int))).run Try.prog w = .ok (.bool (bs.getD j false)) w := by
  have h0 : (0 : Int) ≤ (j : Int) := by omega
  have h1 : (j : Int) < ((8 : Nat) : Int) := by omega
  have h2 : (bs.map Value.bool)[j]? = some (.bool (bs.getD j false)) := by rw [List.getElem?_map, H.getD_some false (by omega)]; rfl
  have hi : (Try.prog.info? 4).map (·.size) = some 1 := by kernel_rfl
  obtain ⟨i, hq, hs⟩ := Option.map_eq_some_iff.1 hi
  simp [Instr.index, run_underlying Try.underlying78, run_underlying Try.underlying4, asIntOf, h0, h1, part, isAgg, sizeOf, typeInfo, hq, hs, Sem.run_bind, go_sem]
  obtain ⟨v, hv⟩ : ∃ v, bs[j]? = some v := ⟨_, List.getElem?_eq_getElem (by omega)⟩
  rw [if_pos hj, hv]
  rfl
def orB (a b : List Bool) : List Bool := List.zipWith (fun x y => x || y) a b
theorem orB_len (a b : List Bool) (h : a.length = b.length) : (orB a b).length = a.length := by unfold orB; rw [List.length_zipWith]; omega
theorem orB_step {a b c : List Bool} {n j : Nat} (ha : a.length = n) (hb : b.length = n) (hj : j < n) (hc : c = (orB a b).take j ++ a.drop j) : c.set j (c.getD j false || b.getD j false) = (orB a b).take (j + 1) ++ a.drop (j + 1) := by
  have hl : ((orB a b).take j).length = j := by rw [List.length_take, orB_len a b (by omega)]; omega
  have h1 : c.getD j false = a[j] := by
    rw [hc, List.getD_eq_getElem?_getD, List.getElem?_append_right (by omega), hl, Nat.sub_self, List.drop_eq_getElem_cons (by omega)]
    rfl
  have h2 : b.getD j false = b[j] := by
    rw [List.getD_eq_getElem?_getD, List.getElem?_eq_getElem (by omega)]
    rfl
  rw [h1, h2, hc, List.set_append_right _ _ (by omega), hl, Nat.sub_self, List.drop_eq_getElem_cons (by omega : j < a.length), List.set_cons_zero, List.take_add_one, List.append_assoc]
  congr 1
  have h3 : (orB a b)[j]? = some (a[j] || b[j]) := by
    unfold orB
    rw [List.getElem?_zipWith, List.getElem?_eq_getElem (by omega), List.getElem?_eq_getElem (by omega)]
  rw [h3]
  rfl
def outF (g : List (List Int)) (M : List (List Bool)) (b : Nat) : List Bool := (g.getD b []).foldl (fun a k => orB a (M.getD k.toNat [])) (List.replicate 8 false)
set_option maxHeartbeats 8000000 in
set_option maxRecDepth 100000 in
theorem impl_out.calls (p : Addr) (A0 : Option Addr) (c0 : Nat) (g : List (List Int)) (gm : Nat) (M : List (List Bool)) (b : Nat) (w : World) (hp0 : w.cell? p = some (.slice A0 g.length c0))
    (hr0 : Kd.C (Kd.slice 3 (Kd.int .i64)) w A0 g.length g) (hm : w.heap[gm]? = some (.cells (H.bcells M.flatten) 78 (0, 0))) (hM : ∀ r ∈ M, r.length = 8) (hb : b < g.length) (hk : ∀ k ∈ g.getD b [], 0 ≤ k ∧ k < (M.length : Int)) :
    Calls Try.prog 63 #[.pointer (some p), .slice (some ⟨gm, 0, none⟩) M.length M.length, .int .i64 b] w fun e w' => e = .returned (.agg (H.bcells (outF g M b))) ∧ Below w.heap.size w w' := by
  have hn0 := hr0.2.1
  obtain ⟨ad, A1, c1, e, h0, h1, h2⟩ := at_L1 hr0 (b : Int) (by omega) (by omega)
  cases e
  have HP0 := Aside0.mk hp0
  have HR0 := Aside0.mk hr0
  have HM := Aside0.mk hm
  have HL := Aside0.mk hM
  have HK := Aside0.mk hk
  have hlb : (b : Int) < (g.length : Int) := by omega
  have hb0 : (0 : Int) ≤ (b : Int) := by omega
  rw [Int.toNat_natCast] at h0
  have H0 := Aside0.mk h0
  have H2 := Aside0.mk h2
  clear hp0 hr0 hm hM hk h0 h2
  obtain ⟨l, hl⟩ : ∃ l, rd_L1 g (b : Int) = l := ⟨_, rfl⟩
  have hl' : g.getD b [] = l := by rw [← hl]; rfl
  rw [hl] at H0 H2 h1
  unfold outF
  rw [hl'] at HK ⊢
  clear hl hl'
  have hn2 := H2.out.2.1
  obtain ⟨rr, hrr⟩ : ∃ rr, l.foldl (fun a k => orB a (M.getD k.toNat [])) (List.replicate 8 false) = rr := ⟨_, rfl⟩
  have HG := Aside0.mk hrr
  rw [hrr]
  clear hrr
  go_enter Try.func63, Try.ntmps63
  go_wp2_with (first | ((with_reducible refine gate_dst (N := 6) rfl ?_); refine box_event ?hg (N := 6) ?hd (cs := H.bcells (List.replicate 8 false)) (t := 78) ?hr ?_; (case hd => rfl); (case hg => rfl); (case hr => first | (go_simp; done) | (go_simp; rfl)); intro gc hgc w1 hbc hb1; have HGC := Aside0.mk (show w.heap.size ≤ gc by rw [hgc]; exact Nat.le_refl _); have HBC := Aside0.mk hbc; have HB1 := Aside0.mk hb1; clear hgc hbc hb1) | ((with_reducible refine gate_dst (N := 7) rfl ?_); refine box_event ?hg (N := 7) ?hd (cs := H.bcells (List.replicate 8 false)) (t := 78) ?hr ?_; (case hd => rfl); (case hg => rfl); (case hr => first | (go_simp; done) | (go_simp; rfl)); intro ga hga w2 hba hb2; have HGA := Aside0.mk (show w.heap.size ≤ ga by rw [hga]; exact HB1.out.size); have HBA := Aside0.mk hba; have HBC2 := Aside0.mk (blk_below HBC.out hb2); have HNE := Aside0.mk (show gc ≠ ga by rw [hga]; exact fun e => by have := blk_lt HBC.out; omega); have HB2 := Aside0.mk (HB1.out.trans (hb2.mono HB1.out.size)); clear hga hba hb2) | ((with_reducible refine gate_store (t := 78) (p := 7) rfl ?_); refine H.store_blk (cs' := H.bcells (List.replicate 8 false)) (u := .agg #[.bool false, .bool false, .bool false, .bool false, .bool false, .bool false, .bool false, .bool false]) (seg := [.bool false, .bool false, .bool false, .bool false, .bool false, .bool false, .bool false, .bool false]) rfl rfl rfl rfl HBA.out rfl rfl (by kernel_rfl) (by simp [Value.oneCell']) (by simp [H.bcells_size]) (by simp [H.bcells, List.replicate]) ?_; intro w3 hba3 hg3 hz3; have HBA3 := Aside0.mk hba3; have HBC3 := Aside0.mk (H.blk_other HBC2.out hg3 HNE.out); have HB3 := Aside0.mk (H.below_own HB2.out hg3 HB2.out.size HGA.out); have hx0 := (HB3.out.cell (World.block_lt_of_cell? w _ HP0.out)).trans HP0.out; have hx1 := (HB3.out.cell (World.block_lt_of_cell? w _ H0.out)).trans H0.out; clear hba3 hg3 hz3))
  go_loopw [22] (fun v22 wr => ∃ (i : Nat) (acc : List Bool), v22 = .int .i64 i ∧ i ≤ l.length ∧ Aside0 (acc.length = 8) ∧ Aside0 ((l.drop i).foldl (fun a k => orB a (M.getD k.toNat [])) acc = rr) ∧ Aside0 (wr.heap[ga]? = some (.cells (H.bcells acc) 78 (0, 0))) ∧ Aside0 (wr.heap[gc]? = some (.cells (H.bcells (List.replicate 8 false)) 78 (0, 0))) ∧ Aside0 (Below w.heap.size w wr)) (fun v22 _ => l.length - (intOf v22).toNat)
  case atStart => exact ⟨0, _, rfl, Nat.zero_le _, ⟨by simp⟩, HG, HBA3, HBC3, HB3⟩
  case round =>
    clear HBA HBC2 HB2 HB1 HBC HBA3 HBC3 HB3 hx0 hx1
    obtain ⟨i, acc, rfl, hi, HLA, HE, HBA, HBC, HB⟩ := hrel
    by_cases hlt : i < l.length
    · obtain ⟨ad2, e2, h0⟩ := Kd.at_int H2.out (i : Int) (by omega) (by omega)
      cases e2
      rw [Int.toNat_natCast] at h0
      replace h0 := (HB.out.cell (World.block_lt_of_cell? w _ h0)).trans h0
      have hx : rd l (i : Int) = l[i] := by
        show l.getD i _ = _
        rw [List.getD_eq_getElem?_getD, List.getElem?_eq_getElem hlt]
        rfl
      have hE := HE.out
      rw [List.drop_eq_getElem_cons hlt, List.foldl_cons] at hE
      obtain ⟨hx0, hx1⟩ := HK.out l[i] (List.getElem_mem hlt)
      rw [hx] at h0
      generalize l[i] = x at h0 hE hx0 hx1
      obtain ⟨k, rfl⟩ : ∃ k : Nat, x = (k : Int) := ⟨x.toNat, by omega⟩
      rw [Int.toNat_natCast] at hE
      have hk : k < M.length := by omega
      have HX := Aside0.mk hk
      have HR : Aside0 ((M.getD k []).length = 8) := ⟨by rw [List.getD_eq_getElem?_getD, List.getElem?_eq_getElem hk]; exact HL.out _ (List.getElem_mem hk)⟩
      generalize hrow : M.getD k [] = row at hE HR
      have HROW := Aside0.mk hrow
      have HE' := Aside0.mk hE
      clear hE HE hx hrow
      have hmr : Aside0 (wr.heap[gm]? = some (.cells (H.bcells M.flatten) 78 (0, 0))) := ⟨blk_below HM.out HB.out⟩
      go_wp2_with ((with_reducible refine gate_dst (N := 29) rfl ?_); refine wpList_load_mid rfl 78 (.tmp 28) rfl gm (k * 8) rfl (row.map Value.bool) _ (by rw [← HROW.out]; exact mrange hmr.out HL.out k HX.out) Try.underlying78 rfl (by rw [List.length_map, HR.out]; kernel_rfl) ?_)
      go_loopw [30] (fun v30 wr => ∃ (j : Nat) (a2 : List Bool), v30 = .int .i64 j ∧ j ≤ 8 ∧ Aside0 (a2.length = 8) ∧ Aside0 (a2 = (orB acc row).take j ++ acc.drop j) ∧ Aside0 (wr.heap[ga]? = some (.cells (H.bcells a2) 78 (0, 0))) ∧ Aside0 (wr.heap[gc]? = some (.cells (H.bcells (List.replicate 8 false)) 78 (0, 0))) ∧ Aside0 (Below w.heap.size w wr)) (fun v30 _ => 8 - (intOf v30).toNat)
      case atStart => exact ⟨0, acc, rfl, Nat.zero_le _, HLA, ⟨by simp⟩, HBA, HBC, HB⟩
      case round =>
        clear HBA HBC HB h0 hmr
        obtain ⟨j, a2, rfl, hj, HLB, HE2, HBA, HBC, HB⟩ := hrel
        by_cases hlt2 : j < 8
        · have hcj : wr.cell? ⟨ga, j, none⟩ = some (.bool (a2.getD j false)) := H.bcells_get HBA.out j (by rw [HLB.out]; exact hlt2)
          have hj2 : (j : Int) < 8 := by omega
          have hidx := run_idx8 wr row HR.out j hlt2
          have hset := orB_step HLA.out HR.out hlt2 HE2.out
          obtain ⟨ra, hra⟩ : ∃ ra, a2.getD j false = ra := ⟨_, rfl⟩
          obtain ⟨rb, hrb⟩ : ∃ rb, row.getD j false = rb := ⟨_, rfl⟩
          rw [hra, hrb] at hset
          rw [hra] at hcj
          rw [hrb] at hidx
          have HSET := Aside0.mk hset
          clear hra hrb hset
          cases ra with
          | true =>
            go_wp2_with ((with_reducible refine gate_store (t := 4) (p := 41) rfl ?_); refine H.store_blk (cs' := H.bcells (a2.set j true)) (u := .bool true) (seg := [.bool true]) rfl rfl rfl rfl HBA.out rfl rfl (by kernel_rfl) (by simp [Value.oneCell']) (by rw [H.bcells_size, HLB.out]; simp; omega) (H.bcells_put _ _ _ (by rw [HLB.out]; exact hlt2)) ?_; intro w8 hba8 hg8 hz8; have HBA8 := Aside0.mk hba8; have HBC8 := Aside0.mk (H.blk_other HBC.out hg8 HNE.out); have HB8 := Aside0.mk (H.below_own HB.out hg8 HB.out.size HGA.out); clear hba8 hg8 hz8)
            go_roundw
            case rel => exact ⟨j + 1, _, by go_num, by omega, ⟨by rw [List.length_set]; exact HLB.out⟩, HSET, HBA8, HBC8, HB8⟩
            case measure => simp [intOf]; omega
          | false =>
            go_wp2_with ((with_reducible refine gate_store (t := 4) (p := 41) rfl ?_); refine H.store_blk (cs' := H.bcells (a2.set j rb)) (u := .bool rb) (seg := [.bool rb]) rfl rfl rfl rfl HBA.out rfl rfl (by kernel_rfl) (by simp [Value.oneCell']) (by rw [H.bcells_size, HLB.out]; simp; omega) (H.bcells_put _ _ _ (by rw [HLB.out]; exact hlt2)) ?_; intro w8 hba8 hg8 hz8; have HBA8 := Aside0.mk hba8; have HBC8 := Aside0.mk (H.blk_other HBC.out hg8 HNE.out); have HB8 := Aside0.mk (H.below_own HB.out hg8 HB.out.size HGA.out); clear hba8 hg8 hz8)
            go_roundw
            case rel => exact ⟨j + 1, _, by go_num, by omega, ⟨by rw [List.length_set]; exact HLB.out⟩, ⟨by rw [← HSET.out, Bool.false_or]⟩, HBA8, HBC8, HB8⟩
            case measure => simp [intOf]; omega
        · have hE2 : a2 = orB acc row := by
            have e := HE2.out
            rw [List.take_of_length_le (by rw [orB_len acc row (by rw [HLA.out, HR.out]), HLA.out]; omega), List.drop_of_length_le (by rw [HLA.out]; omega), List.append_nil] at e
            exact e
          subst hE2
          go_wp2
          go_roundw
          case rel => exact ⟨i + 1, _, by go_num, by omega, HLB, HE', HBA, HBC, HB⟩
          case measure => simp [intOf]; omega
    · have hE : acc = rr := by rw [← HE.out, List.drop_of_length_le (by omega)]; rfl
      subst hE
      go_wp2_with (first | ((with_reducible refine gate_dst (N := 44) rfl ?_); refine wpList_load_row rfl 78 (.tmp 7) rfl ga rfl 78 (H.bcells acc) (0, 0) _ HBA.out Try.underlying78 rfl (by rw [H.bcells_size, HLA.out]; kernel_rfl) ?_) | ((with_reducible refine gate_store (t := 78) (p := 6) rfl ?_); refine H.store_blk (cs' := H.bcells acc) (u := .agg (H.bcells acc)) (seg := (H.bcells acc).toList) rfl rfl rfl rfl HBC.out rfl rfl (by rw [Array.length_toList, H.bcells_size, HLA.out]; kernel_rfl) (bcells_one acc) (by rw [Array.length_toList, H.bcells_size, H.bcells_size, HLA.out, List.length_replicate]; decide) (by rw [List.take_zero, List.nil_append, Array.length_toList, H.bcells_size, HLA.out, List.drop_of_length_le (by rw [Array.length_toList, H.bcells_size, List.length_replicate]; decide), List.append_nil]) ?_; intro w9 hbc9 hg9 hz9; have HBC9 := Aside0.mk hbc9; have HB9 := Aside0.mk (H.below_own HB.out hg9 HB.out.size HGC.out); clear hbc9 hg9 hz9))
      (try simp only [Exit.inBlock, Exit.then])
      refine bodyPost_ret (results_cell_row rfl _ _ gc _ (H.bcells acc) (0, 0) _ rfl HBC9.out Try.underlying78 rfl (by rw [H.bcells_size, HLA.out]; kernel_rfl)) rfl ?_
      exact ⟨rfl, HB9.out⟩
end Go.Proofs.Ytkfpbblaomgihaa.P

namespace Go.Proofs.Ytkfpbblaomgihaa.P
open Go.RowKit Go.Proofs.YtkfpbblaomgihaaW.PrintWords Go.Proofs.YtkfpbblaomgihaaW.PrintLast Go.Proofs.YtkfpbblaomgihaaW.PrintMore
attribute [local go_sem] max2_int min2_int max_two min_two max_three min_three max_four min_four
theorem eq8 (W : World) (a0 a1 a2 a3 a4 a5 a6 a7 b0 b1 b2 b3 b4 b5 b6 b7 : Bool) : (Op.equalIn 10000 78 (.agg #[.bool a0, .bool a1, .bool a2, .bool a3, .bool a4, .bool a5, .bool a6, .bool a7]) (.agg #[.bool b0, .bool b1, .bool b2, .bool b3, .bool b4, .bool b5, .bool b6, .bool b7])).run Try.prog W = .ok (decide ([a0, a1, a2, a3, a4, a5, a6, a7] = [b0, b1, b2, b3, b4, b5, b6, b7])) W := by
  obtain ⟨r, h, hi⟩ := run_equalIn_deep (P := Try.prog) 9998 2 78 (by kernel_rfl) W 3 3 (.agg #[.bool a0, .bool a1, .bool a2, .bool a3, .bool a4, .bool a5, .bool a6, .bool a7]) (.agg #[.bool b0, .bool b1, .bool b2, .bool b3, .bool b4, .bool b5, .bool b6, .bool b7]) [.bool a0, .bool a1, .bool a2, .bool a3, .bool a4, .bool a5, .bool a6, .bool a7] [.bool b0, .bool b1, .bool b2, .bool b3, .bool b4, .bool b5, .bool b6, .bool b7] (by kernel_rfl) (by kernel_rfl) (by kernel_rfl) (by kernel_rfl)
  have e : r = decide ([a0, a1, a2, a3, a4, a5, a6, a7] = [b0, b1, b2, b3, b4, b5, b6, b7]) := by
    rw [Bool.eq_iff_iff, hi]
    simp
  rw [← e]
  exact h
theorem madeCells8 (n : Nat) : madeCells #[.bool false, .bool false, .bool false, .bool false, .bool false, .bool false, .bool false, .bool false] (n * 8) = H.bcells (List.replicate n (List.replicate 8 false)).flatten := by
  rw [List.flatten_replicate_replicate]
  apply Array.ext
  · rw [size_madeCells, H.bcells_size, List.length_replicate]
  · intro i h1 h2
    have h3 : i % 8 < 8 := Nat.mod_lt _ (by decide)
    have e : ∀ k, k < 8 → (#[Value.bool false, .bool false, .bool false, .bool false, .bool false, .bool false, .bool false, .bool false] : Array Value)[k]! = .bool false := by
      intro k hk
      match k, hk with
      | 0, _ => rfl
      | 1, _ => rfl
      | 2, _ => rfl
      | 3, _ => rfl
      | 4, _ => rfl
      | 5, _ => rfl
      | 6, _ => rfl
      | 7, _ => rfl
    simp only [madeCells, H.bcells, Array.getElem_map, Array.getElem_range, List.getElem_toArray, List.getElem_map, List.getElem_replicate]
    exact e _ h3
theorem make_names (W : World) (n : Nat) (hn : n ≤ 1048576) : (Instr.makeSlice 76 (.int .i64 (n : Int)) (.int .i64 (n : Int))).run Try.prog W = .ok (.slice (some ⟨W.heap.size, 0, none⟩) n n) (W.alloc (.cells (H.bcells (List.replicate n (List.replicate 8 false)).flatten) 78)) := by
  have hi : (Try.prog.info? 78).map (fun i => (i.zero, i.size, i.bytes)) = some (some (.agg #[.bool false, .bool false, .bool false, .bool false, .bool false, .bool false, .bool false, .bool false]), 8, 8) := by kernel_rfl
  obtain ⟨i, hq, hs⟩ := Option.map_eq_some_iff.1 hi
  simp only [Prod.mk.injEq] at hs
  have h := run_make (P := Try.prog) W 76 78 i _ Try.underlying76 hq hs.1 .i64 .i64 (n : Int) (n : Int) (by omega) (by omega) (by rw [hs.2.2]; omega) (by omega)
  rw [h, hs.2.1, Int.toNat_natCast]
  simp only [Value.cells]
  rw [madeCells8]
theorem flat_set {n j : Nat} (b : Bool) (hj : j < n) : ∀ (M : List (List Bool)) (k : Nat), (∀ r ∈ M, r.length = n) → k < M.length → M.flatten.set (k * n + j) b = (M.set k ((M.getD k []).set j b)).flatten
  | [], k, _, hk => by simp at hk
  | r :: M, 0, h, _ => by
    have hr := h r (by simp)
    rw [List.flatten_cons, Nat.zero_mul, Nat.zero_add, List.set_append_left _ _ (by omega), List.set_cons_zero, List.flatten_cons]
    rfl
  | r :: M, k + 1, h, hk => by
    have hr := h r (by simp)
    have e : (k + 1) * n + j = n + (k * n + j) := by rw [Nat.succ_mul]; omega
    rw [List.flatten_cons, e, List.set_append_right _ _ (by omega), hr, Nat.add_sub_cancel_left, flat_set b hj M k (fun x hx => h x (by simp [hx])) (by simpa using hk), List.set_cons_succ, List.flatten_cons]
    rfl
theorem flat_len {n : Nat} : ∀ (M : List (List Bool)), (∀ r ∈ M, r.length = n) → M.flatten.length = M.length * n
  | [], _ => by simp
  | r :: M, h => by
    rw [List.flatten_cons, List.length_append, h r (by simp), flat_len M (fun x hx => h x (by simp [hx])), List.length_cons, Nat.succ_mul]
    omega
theorem upB_mem {l : List Int} {lo hi : Int} (h : H.upB l lo hi 0 = true) : ∀ x ∈ l, lo ≤ x ∧ x ≤ hi := by
  intro x hx
  obtain ⟨j, hj, e⟩ := List.getElem_of_mem hx
  have h1 := of_decide_eq_true h j hj (Nat.zero_le _)
  unfold H.upAt at h1
  simp only [Bool.and_eq_true, decide_eq_true_eq] at h1
  rw [List.getD_eq_getElem?_getD, List.getElem?_eq_getElem hj, e] at h1
  exact ⟨h1.1.1, h1.1.2⟩
def setOf (l : List Int) : List Bool := thrU (List.replicate 8 false) l
theorem setOf_len (l : List Int) : (setOf l).length = 8 := by unfold setOf; rw [thrU_len, List.length_replicate]
def part_ (l : List (List Int)) (i : Nat) : List (List Bool) := (l.take i).map setOf ++ List.replicate (l.length - i) (List.replicate 8 false)
theorem part_len (l : List (List Int)) {i : Nat} (hi : i ≤ l.length) : (part_ l i).length = l.length := by unfold part_; simp; omega
theorem part_rows (l : List (List Int)) (i : Nat) : ∀ r ∈ part_ l i, r.length = 8 := by
  intro r hr
  unfold part_ at hr
  rcases List.mem_append.1 hr with h | h
  · obtain ⟨x, _, rfl⟩ := List.mem_map.1 h
    exact setOf_len x
  · rw [List.eq_of_mem_replicate h, List.length_replicate]
theorem part_at (l : List (List Int)) {i : Nat} (hi : i < l.length) : (part_ l i).getD i [] = List.replicate 8 false := by
  unfold part_
  rw [List.getD_eq_getElem?_getD, List.getElem?_append_right (by simp; omega), List.length_map, List.length_take, Nat.min_eq_left (by omega), Nat.sub_self, List.getElem?_replicate, if_pos (by omega)]
  rfl
theorem part_step (l : List (List Int)) {i : Nat} (hi : i < l.length) : (part_ l i).set i (setOf l[i]) = part_ l (i + 1) := by
  unfold part_
  rw [List.set_append_right _ _ (by simp; omega), List.length_map, List.length_take, Nat.min_eq_left (by omega), Nat.sub_self]
  obtain ⟨d, hd⟩ : ∃ d, l.length - i = d + 1 := ⟨l.length - i - 1, by omega⟩
  rw [hd, List.replicate_succ, List.set_cons_zero, List.take_add_one, List.getElem?_eq_getElem hi, List.map_append, List.append_assoc]
  have : l.length - (i + 1) = d := by omega
  rw [this]
  rfl
theorem part_self (l : List (List Int)) {i : Nat} (hi : i < l.length) : (part_ l i).set i (List.replicate 8 false) = part_ l i := by
  unfold part_
  rw [List.set_append_right _ _ (by simp; omega), List.length_map, List.length_take, Nat.min_eq_left (by omega), Nat.sub_self]
  obtain ⟨d, hd⟩ : ∃ d, l.length - i = d + 1 := ⟨l.length - i - 1, by omega⟩
  rw [hd, List.replicate_succ, List.set_cons_zero]
theorem row_rows {P : List (List Bool)} {n i : Nat} {acc : List Bool} (hP : ∀ r ∈ P, r.length = n) (ha : acc.length = n) : ∀ r ∈ P.set i acc, r.length = n := by
  intro r hr
  rcases List.mem_or_eq_of_mem_set hr with h | rfl
  · exact hP r h
  · exact ha
theorem row_put {P : List (List Bool)} {n i k : Nat} {acc : List Bool} (b : Bool) (hP : ∀ r ∈ P, r.length = n) (hi : i < P.length) (ha : acc.length = n) (hk : k < n) : ((P.set i acc).flatten).set (i * n + k) b = (P.set i (acc.set k b)).flatten := by
  rw [flat_set b hk _ i (row_rows hP ha) (by rw [List.length_set]; exact hi)]
  have : (P.set i acc).getD i [] = acc := by rw [List.getD_eq_getElem?_getD, List.getElem?_set_self hi]; rfl
  rw [this, List.set_set]
theorem outF_len (g : List (List Int)) (M : List (List Bool)) (b : Nat) (hM : ∀ r ∈ M, r.length = 8) (hk : ∀ k ∈ g.getD b [], 0 ≤ k ∧ k < (M.length : Int)) : (outF g M b).length = 8 := by
  unfold outF
  have : ∀ (l : List Int) (acc : List Bool), acc.length = 8 → (∀ k ∈ l, 0 ≤ k ∧ k < (M.length : Int)) → (l.foldl (fun a k => orB a (M.getD k.toNat [])) acc).length = 8 := by
    intro l
    induction l with
    | nil => intro acc h _; exact h
    | cons x l ih =>
      intro acc h hl
      have hx : x.toNat < M.length := by have := hl x (by simp); omega
      have hr : (M.getD x.toNat []).length = 8 := by
        rw [List.getD_eq_getElem?_getD, List.getElem?_eq_getElem hx]
        exact hM _ (List.getElem_mem hx)
      exact ih _ (by rw [orB_len _ _ (by omega), h]) (fun k hk => hl k (by simp [hk]))
  exact this _ _ (by simp) hk
theorem rising_any (A : Option Addr) (c : Nat) (l : List Int) (lo hi : Int) (W : World) (h : Kd.C (Kd.int .i64) W A l.length l) (hc : l.length ≤ c) : Calls Try.prog 52 #[.slice A l.length c, .int .i64 lo, .int .i64 hi] W fun e w' => e = .returned (.bool (H.upB l lo hi 0)) ∧ Drawn0 W w' := by
  obtain ⟨k, hk⟩ := impl_rising.ends l lo hi (by have := h.2.1; omega)
  exact impl_rising.calls k A c l lo hi _ W h hc hk
def fixedF (g : List (List Int)) (b : List S56) (M : List (List Bool)) : Bool := decide (∀ i, i < b.length → thrU (thrS (outF g M i) (b.getD i z56).f1) (b.getD i z56).f0 = M.getD i [])
def isFixedF (g : List (List Int)) (b : List S56) (l : List (List Int)) : Bool × Bool :=
  if goodF g b && decide (l.length = b.length) then (if l.all (fun x => H.upB x 0 7 0) then (fixedF g b (l.map setOf), true) else (false, false)) else (false, false)
def impl_IsFixed.f (l0_0 : List (List Int)) (l0_1 : List (S56)) (l1 : List (List Int)) : Option (Bool × Bool) := some (isFixedF l0_0 l0_1 l1)
set_option maxHeartbeats 8000000 in
set_option maxRecDepth 100000 in
theorem impl_IsFixed.calls (A0_0 : Option Addr) (c0_0 : Nat) (l0_0 : List (List Int)) (A0_1 : Option Addr) (c0_1 : Nat) (l0_1 : List (S56)) (A1 : Option Addr) (c1 : Nat) (l1 : List (List Int)) (r1 : Bool) (r2 : Bool) (w : World)
    (hr0_0 : Kd.C (Kd.slice 3 (Kd.int .i64)) w A0_0 l0_0.length l0_0) (hc0_0 : l0_0.length ≤ c0_0) (hr0_1 : Kd.C k56 w A0_1 l0_1.length l0_1) (hc0_1 : l0_1.length ≤ c0_1) (hr1 : Kd.C (Kd.slice 3 (Kd.int .i64)) w A1 l1.length l1) (hc1 : l1.length ≤ c1) (h : impl_IsFixed.f l0_0 l0_1 l1 = some (r1, r2)) :
    Calls Try.prog 24 #[.agg #[.slice A0_0 l0_0.length c0_0, .slice A0_1 l0_1.length c0_1], .slice A1 l1.length c1] w fun e w' => e = .returned (.tuple #[.bool r1, .bool r2]) ∧ Below w.heap.size w w' := by
  replace h : isFixedF l0_0 l0_1 l1 = (r1, r2) := Option.some.inj h
  have hn0 := hr0_0.2.1
  have hn1 := hr0_1.2.1
  have hn2 := hr1.2.1
  have HR0 := Aside0.mk hr0_0
  have HC0 := Aside0.mk hc0_0
  have HR1 := Aside0.mk hr0_1
  have HC1 := Aside0.mk hc0_1
  have HR2 := Aside0.mk hr1
  have HC2 := Aside0.mk hc1
  clear hr0_0 hc0_0 hr0_1 hc0_1 hr1 hc1
  have HK := Aside0.mk (fun (W : World) (hb : Below w.heap.size w W) => impl_GoodFlow.calls A0_0 c0_0 l0_0 A0_1 c0_1 l0_1 _ W (Kd.C_below HR0.out hb) HC0.out (Kd.C_below HR1.out hb) HC1.out rfl)
  have H0 := Aside0.mk (below_alloc (Below.refl w.heap.size w) (Obj.cells #[Value.slice A0_0 l0_0.length c0_0, Value.slice A0_1 l0_1.length c0_1] 33))
  have HBX := Aside0.mk (blk_new w (Obj.cells #[Value.slice A0_0 l0_0.length c0_0, Value.slice A0_1 l0_1.length c0_1] 33))
  unfold isFixedF at h
  cases hg : goodF l0_0 l0_1 with
  | false =>
    rw [hg, Bool.false_and, if_neg (by simp), Prod.mk.injEq] at h
    obtain ⟨rfl, rfl⟩ := h
    rw [hg] at HK
    clear hg
    go_enter Try.func24, Try.ntmps24
    go_wp2_with (go_at_call 15; refine (HK.out _ H0.out).mono ?_; rintro e w' ⟨rfl, hb⟩; have HB := Aside0.mk (H0.out.trans (hb.mono H0.out.size)); have HBX1 := blk_below HBX.out hb; have hx0 := blk_cell HBX1 0; have hx1 := blk_cell HBX1 1; clear hb)
    go_ret2
    exact ⟨rfl, HB.out⟩
  | true =>
    rw [hg, Bool.true_and] at h
    rw [hg] at HK
    have hlen0 : l0_1.length = l0_0.length ∧ 1 ≤ l0_1.length ∧ l0_1.length ≤ 12 := by
      unfold goodF H.goodG at hg
      simp only [Bool.and_eq_true, decide_eq_true_eq] at hg
      omega
    have HGF := Aside0.mk hg
    clear hg
    by_cases hlen : l1.length = l0_1.length
    · rw [decide_eq_true hlen, if_pos rfl] at h
      have c3 : ((l1.length : Int) == (l0_1.length : Int)) = true := by simp; omega
      have hmk : ∀ W : World, (Instr.makeSlice 76 (.int .i64 (l1.length : Int)) (.int .i64 (l1.length : Int))).run Try.prog W = .ok (.slice (some ⟨W.heap.size, 0, none⟩) l1.length l1.length) (W.alloc (.cells (H.bcells (List.replicate l1.length (List.replicate 8 false)).flatten) 78)) := fun W => make_names W l1.length (by omega)
      have HH := Aside0.mk h
      have HLEN := Aside0.mk hlen
      have HLEN0 := Aside0.mk hlen0
      have hl1 : l1.length ≤ 12 := by omega
      have hl1' : 1 ≤ l1.length := by omega
      clear h hlen0 hlen
      go_enter Try.func24, Try.ntmps24
      go_wp2_with (first | (go_at_call 15; refine (HK.out _ H0.out).mono ?_; rintro e w' ⟨rfl, hb⟩; have HB := Aside0.mk (H0.out.trans (hb.mono H0.out.size)); have HBX1 := Aside0.mk (blk_below HBX.out hb); have hx0 := blk_cell HBX1.out 0; have hx1 := blk_cell HBX1.out 1; clear hb) | ((with_reducible refine gate_dst (N := 25) rfl ?_); refine H.make_event ?hg (N := 25) ?hd (n := l1.length) (cs := H.bcells (List.replicate l1.length (List.replicate 8 false)).flatten) (t := 78) ?hr ?_; (case hd => rfl); (case hg => rfl); (case hr => first | (go_simp; done) | (go_simp; rfl)); intro gs hgs w6 hbs hb6; have HGS := Aside0.mk (show w.heap.size ≤ gs by rw [hgs]; exact HB.out.size); have HBS := Aside0.mk hbs; have HNEX := Aside0.mk (show w.heap.size ≠ gs by rw [hgs]; exact fun e => by have := blk_lt HBX1.out; omega); have HBX2 := Aside0.mk (blk_below HBX1.out hb6); have HB6 := Aside0.mk (HB.out.trans (hb6.mono HB.out.size)); clear hgs hbs hb6 hmk hx0 hx1))
      have HRI := Aside0.mk rising_any
      go_loopw [28] (fun v28 wr => ∃ i : Nat, v28 = .int .i64 i ∧ i ≤ l1.length ∧ Aside0 (∀ j, j < i → H.upB (l1.getD j []) 0 7 0 = true) ∧ Aside0 (wr.heap[gs]? = some (.cells (H.bcells (part_ l1 i).flatten) 78 (0, 0))) ∧ Aside0 (wr.heap[w.heap.size]? = some (.cells #[Value.slice A0_0 l0_0.length c0_0, Value.slice A0_1 l0_1.length c0_1] 33 (0, 0))) ∧ Aside0 (Below w.heap.size w wr)) (fun v28 _ => l1.length - (intOf v28).toNat)
      case atStart => exact ⟨0, rfl, Nat.zero_le _, ⟨by intro j h; omega⟩, HBS, HBX2, HB6⟩
      case round =>
        clear HBS HBX2 HB6 HB HBX1
        obtain ⟨i, rfl, hi, HUP, HBS, HBX, HB⟩ := hrel
        by_cases hlt : i < l1.length
        · obtain ⟨ad, A2, c2, e, h0, h1, h2⟩ := at_L1 HR2.out (i : Int) (by omega) (by omega)
          cases e
          rw [Int.toNat_natCast] at h0
          replace h0 := (HB.out.cell (World.block_lt_of_cell? w _ h0)).trans h0
          have H2 := Aside0.mk h2
          have hx : rd_L1 l1 (i : Int) = l1[i] := by
            show l1.getD i _ = _
            rw [List.getD_eq_getElem?_getD, List.getElem?_eq_getElem hlt]
            rfl
          have hps := part_step l1 hlt
          have hal : l1.all (fun x => H.upB x 0 7 0) = true → H.upB l1[i] 0 7 0 = true := fun h => List.all_eq_true.1 h _ (List.getElem_mem hlt)
          have hget : l1.getD i [] = l1[i] := by rw [List.getD_eq_getElem?_getD, List.getElem?_eq_getElem hlt]; rfl
          rw [hx] at h0 h1 H2
          clear hx h2
          generalize l1[i] = l at h0 h1 H2 hps hal hget
          have hnl := H2.out.2.1
          have HPS := Aside0.mk hps
          have HGET := Aside0.mk hget
          have HL1 := Aside0.mk h1
          have HAL := Aside0.mk hal
          clear hps hget h1 hal
          cases hup : H.upB l 0 7 0 with
          | false =>
            have hf := HH.out
            rw [if_neg (fun h => by have := HAL.out h; rw [hup] at this; exact absurd this (by simp)), Prod.mk.injEq] at hf
            have HF := Aside0.mk hf
            have HU := Aside0.mk hup
            clear hf hup
            go_wp2_with (go_at_call 52; refine (HRI.out _ _ l _ _ _ (Kd.C_below H2.out HB.out) HL1.out).mono ?_; rw [HU.out]; rintro e w' ⟨rfl, ⟨m, rfl⟩⟩)
            go_ret2
            exact ⟨by rw [← HF.out.1, ← HF.out.2]; rfl, pw_below_drewN HB.out _⟩
          | true =>
            have HU := Aside0.mk hup
            clear hup
            go_wp2_with (go_at_call 52; refine (HRI.out _ _ l _ _ _ (Kd.C_below H2.out HB.out) HL1.out).mono ?_; rw [HU.out]; rintro e w' ⟨rfl, ⟨m, rfl⟩⟩)
            have HBm := Aside0.mk (pw_below_drewN HB.out m)
            have HPL := Aside0.mk (part_len l1 (i := i) (by omega))
            have hi8 : (i : Int) < (l1.length : Int) := by omega
            have HIL := Aside0.mk hlt
            go_loopw [38] (fun v38 wr2 => ∃ (j : Nat) (acc : List Bool), v38 = .int .i64 j ∧ j ≤ l.length ∧ Aside0 (acc.length = 8) ∧ Aside0 (thrU acc (l.drop j) = setOf l) ∧ Aside0 (wr2.heap[gs]? = some (.cells (H.bcells ((part_ l1 i).set i acc).flatten) 78 (0, 0))) ∧ Aside0 (wr2.heap[w.heap.size]? = some (.cells #[Value.slice A0_0 l0_0.length c0_0, Value.slice A0_1 l0_1.length c0_1] 33 (0, 0))) ∧ Aside0 (Below w.heap.size w wr2)) (fun v38 _ => l.length - (intOf v38).toNat)
            case atStart => exact ⟨0, List.replicate 8 false, rfl, Nat.zero_le _, ⟨by simp⟩, ⟨rfl⟩, ⟨by rw [part_self l1 hlt]; exact blk_drewN HBS.out m⟩, ⟨blk_drewN HBX.out m⟩, HBm⟩
            case round =>
              clear HBS HBX HB HBm h0
              obtain ⟨j, acc, rfl, hj, HLA, HE, HBS, HBX, HB⟩ := hrel
              by_cases hlt2 : j < l.length
              · obtain ⟨ad2, e2, h0⟩ := Kd.at_int H2.out (j : Int) (by omega) (by omega)
                cases e2
                rw [Int.toNat_natCast] at h0
                replace h0 := (HB.out.cell (World.block_lt_of_cell? w _ h0)).trans h0
                have hx : rd l (j : Int) = l[j] := by
                  show l.getD j _ = _
                  rw [List.getD_eq_getElem?_getD, List.getElem?_eq_getElem hlt2]
                  rfl
                have hE := HE.out
                rw [List.drop_eq_getElem_cons hlt2] at hE
                obtain ⟨hx0, hx1⟩ := upB_mem HU.out l[j] (List.getElem_mem hlt2)
                rw [hx] at h0
                generalize l[j] = x at h0 hE hx0 hx1
                obtain ⟨k, rfl⟩ : ∃ k : Nat, x = (k : Int) := ⟨x.toNat, by omega⟩
                have HE' := Aside0.mk (show thrU (acc.set k true) (l.drop (j + 1)) = setOf l from hE)
                have hx2 : (k : Int) < 8 := by omega
                have hk8 : k < 8 := by omega
                have HK8 := Aside0.mk hk8
                clear hE HE hx
                go_wp2_with ((with_reducible refine gate_store (t := 4) (p := 46) rfl ?_); refine H.store_blk (cs' := H.bcells ((part_ l1 i).set i (acc.set k true)).flatten) (u := .bool true) (seg := [.bool true]) rfl rfl rfl rfl HBS.out rfl rfl (by kernel_rfl) (by simp [Value.oneCell']) (by rw [H.bcells_size, flat_len _ (row_rows (part_rows l1 i) HLA.out), List.length_set, HPL.out]; have h1 := HIL.out; have h2 := HK8.out; simp only [List.length_cons, List.length_nil]; omega) (by rw [← row_put true (part_rows l1 i) (by rw [HPL.out]; exact HIL.out) HLA.out HK8.out]; exact H.bcells_put _ _ _ (by rw [flat_len _ (row_rows (part_rows l1 i) HLA.out), List.length_set, HPL.out]; have h1 := HIL.out; have h2 := HK8.out; omega)) ?_; intro w8 hbs8 hg8 hz8; have HBS8 := Aside0.mk hbs8; have HBX8 := Aside0.mk (H.blk_other HBX.out hg8 HNEX.out); have HB8 := Aside0.mk (H.below_own HB.out hg8 HB.out.size HGS.out); clear hbs8 hg8 hz8)
                go_roundw
                case rel => exact ⟨j + 1, _, by go_num, by omega, ⟨by rw [List.length_set]; exact HLA.out⟩, HE', HBS8, HBX8, HB8⟩
                case measure => simp [intOf]; omega
              · have hE : acc = setOf l := by rw [← HE.out, List.drop_of_length_le (by omega)]; rfl
                subst hE
                have HBS2 : Aside0 (wr.heap[gs]? = some (.cells (H.bcells (part_ l1 (i + 1)).flatten) 78 (0, 0))) := ⟨by rw [← HPS.out]; exact HBS.out⟩
                go_wp2
                go_roundw
                case rel => exact ⟨i + 1, by go_num, by omega, ⟨fun j hj => by rcases Nat.lt_succ_iff_lt_or_eq.1 hj with h | rfl; exact HUP.out j h; rw [HGET.out]; exact HU.out⟩, HBS2, HBX, HB⟩
                case measure => simp [intOf]; omega
        · have hE : i = l1.length := by omega
          clear hlt hi
          have hall : l1.all (fun x => H.upB x 0 7 0) = true := by
            rw [List.all_eq_true]
            intro x hx
            obtain ⟨j, hj, e⟩ := List.getElem_of_mem hx
            have := HUP.out j (by omega)
            rw [List.getD_eq_getElem?_getD, List.getElem?_eq_getElem hj, e] at this
            exact this
          have hf := HH.out
          rw [if_pos hall, Prod.mk.injEq] at hf
          obtain ⟨hf1, rfl⟩ := hf
          have hpe : part_ l1 i = l1.map setOf := by unfold part_; rw [hE, List.take_length, Nat.sub_self]; simp
          have hbs := HBS.out
          rw [hpe] at hbs
          clear HBS HUP hall hpe
          have hMl : (l1.map setOf).length = l1.length := by rw [List.length_map]
          have hMr : ∀ r ∈ l1.map setOf, r.length = 8 := fun r hr => by obtain ⟨x, _, rfl⟩ := List.mem_map.1 hr; exact setOf_len x
          generalize l1.map setOf = M at hf1 hbs hMl hMr
          have HF1 := Aside0.mk hf1
          have HMl := Aside0.mk hMl
          have HMr := Aside0.mk hMr
          have HBS := Aside0.mk hbs
          have hx1 := blk_cell HBX.out 1
          clear hf1 hbs hMl hMr HH
          have hge : ¬ i < l1.length := by omega
          have HEI := Aside0.mk hE
          clear hE
          go_wp2
          have hl2 : 1 ≤ l0_1.length := HLEN0.out.2.1
          go_loopw [52] (fun v52 wr2 => ∃ t : Nat, v52 = .int .i64 t ∧ t ≤ l0_1.length ∧ Aside0 (∀ j, j < t → thrU (thrS (outF l0_0 M j) (l0_1.getD j z56).f1) (l0_1.getD j z56).f0 = M.getD j []) ∧ Aside0 (wr2.heap[gs]? = some (.cells (H.bcells M.flatten) 78 (0, 0))) ∧ Aside0 (wr2.heap[w.heap.size]? = some (.cells #[Value.slice A0_0 l0_0.length c0_0, Value.slice A0_1 l0_1.length c0_1] 33 (0, 0))) ∧ Aside0 (Below w.heap.size w wr2)) (fun v52 _ => l0_1.length - (intOf v52).toNat)
          case atStart => exact ⟨0, rfl, Nat.zero_le _, ⟨by intro j h; omega⟩, HBS, HBX, HB⟩
          case round =>
            clear HBS HBX HB hx1 hge HEI
            obtain ⟨t, rfl, ht, HALL, HBS, HBX, HB⟩ := hrel
            by_cases hlt : t < l0_1.length
            · obtain ⟨adb, A3, c3', B3, d3, e3, h0, h1, h2, h3, h4, h5⟩ := at_T56 HR1.out (t : Int) (by omega) (by omega)
              cases e3
              rw [Int.toNat_natCast] at h0 h1
              have hx1 := blk_cell HBX.out 1
              have htl : (t : Int) < (l1.length : Int) := by rw [HLEN.out]; omega
              have hrg := mrange (n := 8) HBS.out HMr.out t (by rw [HMl.out, HLEN.out]; exact hlt)
              have hgb : goodF l0_0 l0_1 = true := HGF.out
              have hgt : ∀ k ∈ l0_0.getD t [], 0 ≤ k ∧ k < (M.length : Int) := by
                unfold goodF H.goodG at hgb
                simp only [Bool.and_eq_true, decide_eq_true_eq] at hgb
                have ht0 : t < l0_0.length := by have := HLEN0.out.1; omega
                have h8 := List.all_eq_true.1 hgb.1.1.2 (l0_0.getD t []) (by rw [List.getD_eq_getElem?_getD, List.getElem?_eq_getElem ht0]; exact List.getElem_mem ht0)
                intro k hk
                have := upB_mem h8 k hk
                have := HMl.out
                have := HLEN.out
                have := HLEN0.out.1
                omega
              have hxb : rd_T56 l0_1 (t : Int) = l0_1.getD t z56 := rfl
              have hokb : H.upB (l0_1.getD t z56).f0 0 7 0 = true ∧ H.upB (l0_1.getD t z56).f1 0 7 0 = true := by
                unfold goodF at hgb
                simp only [Bool.and_eq_true, decide_eq_true_eq] at hgb
                have h8 := List.all_eq_true.1 hgb.2 (l0_1.getD t z56) (by rw [List.getD_eq_getElem?_getD, List.getElem?_eq_getElem hlt]; exact List.getElem_mem hlt)
                unfold okBlock at h8
                simpa using h8
              rw [hxb] at h0 h1 h2 h3 h4 h5
              obtain ⟨row, hrow⟩ : ∃ row, M.getD t [] = row := ⟨_, rfl⟩
              rw [hrow] at hrg
              have hrl : row.length = 8 := by
                rw [← hrow, List.getD_eq_getElem?_getD, List.getElem?_eq_getElem (by rw [HMl.out, HLEN.out]; exact hlt)]
                exact HMr.out _ (List.getElem_mem _)
              obtain ⟨R, hR0, hRd, hRb, hR1, hR2, hRB, HOUT, HTHR⟩ : ∃ R : World → Prop, R wr ∧ (∀ W, R W → R W.drew) ∧ (∀ W W', R W → Below W.heap.size W W' → R W') ∧ (∀ W, R W → W.cell? ⟨w.heap.size, 1, none⟩ = some (Value.slice (some adb) l0_1.length c0_1)) ∧ (∀ W, R W → W.rangeAt gs (t * 8) (row.map Value.bool)) ∧ (∀ W, R W → W.heap[gs]? = some (.cells (H.bcells M.flatten) 78 (0, 0)) ∧ W.heap[w.heap.size]? = some (.cells #[Value.slice A0_0 l0_0.length c0_0, Value.slice (some adb) l0_1.length c0_1] 33 (0, 0)) ∧ Below w.heap.size w W) ∧
                  (∀ W, R W → Calls Try.prog 63 #[.pointer (some ⟨w.heap.size, 0, none⟩), .slice (some ⟨gs, 0, none⟩) l1.length l1.length, .int .i64 t] W fun e w' => e = .returned (.agg (H.bcells (outF l0_0 M t))) ∧ Below W.heap.size W w') ∧
                  (∀ W, R W → Calls Try.prog 62 #[.pointer (some (adb.add (t * 2))), .agg (H.bcells (outF l0_0 M t))] W fun e w' => e = .returned (.agg (H.bcells (thrU (thrS (outF l0_0 M t) (l0_1.getD t z56).f1) (l0_1.getD t z56).f0))) ∧ Below W.heap.size W w') := by
                refine ⟨fun W => W.heap[gs]? = some (.cells (H.bcells M.flatten) 78 (0, 0)) ∧ W.heap[w.heap.size]? = some (.cells #[Value.slice A0_0 l0_0.length c0_0, Value.slice (some adb) l0_1.length c0_1] 33 (0, 0)) ∧ Below w.heap.size w W, ⟨HBS.out, HBX.out, HB.out⟩, fun W h => ⟨blk_drew h.1, blk_drew h.2.1, h.2.2.drew⟩, fun W W' h hb => ⟨blk_below h.1 hb, blk_below h.2.1 hb, h.2.2.trans (hb.mono h.2.2.size)⟩, fun W h => blk_cell h.2.1 1, fun W h => by rw [← hrow]; exact mrange (n := 8) h.1 HMr.out t (by rw [HMl.out, HLEN.out]; exact hlt), fun W h => h, ?_, ?_⟩
                · intro W h
                  have := impl_out.calls ⟨w.heap.size, 0, none⟩ A0_0 c0_0 l0_0 gs M t W (blk_cell h.2.1 0) (Kd.C_below HR0.out h.2.2) h.1 HMr.out (by have := HLEN0.out.1; omega) hgt
                  rw [HMl.out] at this
                  exact this
                · intro W h
                  exact impl_through.calls (adb.add (t * 2)) A3 c3' _ B3 d3 _ (outF l0_0 M t) W ((h.2.2.cell (World.block_lt_of_cell? w _ h0)).trans h0) ((h.2.2.cell (World.block_lt_of_cell? w _ h1)).trans h1) (Kd.C_below h3 h.2.2) (Kd.C_below h5 h.2.2) (upB_mem hokb.1) (upB_mem hokb.2) (outF_len _ _ _ HMr.out hgt)
              have HOL := Aside0.mk (outF_len _ _ _ HMr.out hgt)
              have HROW := Aside0.mk hrow
              have HRL := Aside0.mk hrl
              have HTR := Aside0.mk HTHR
              have HOT := Aside0.mk HOUT
              have HRb := Aside0.mk hRb
              have HRd := Aside0.mk hRd
              have HRB := Aside0.mk hRB
              have HR1' := Aside0.mk hR1
              have HR2' := Aside0.mk hR2
              have HRW := Aside0.mk hR0
              clear hrow hrl hgb hgt hokb hxb h0 h1 h2 h3 h4 h5 hRb hRd hRB HTHR HOUT hR1 hR2 hR0 hrg hx1
              have hXl : (thrU (thrS (outF l0_0 M t) (l0_1.getD t z56).f1) (l0_1.getD t z56).f0).length = 8 := by rw [thrU_len, thrS_len]; exact HOL.out
              have hXR := HROW.out
              have hTR := HTR.out
              obtain ⟨X, hX⟩ : ∃ X, thrU (thrS (outF l0_0 M t) (l0_1.getD t z56).f1) (l0_1.getD t z56).f0 = X := ⟨_, rfl⟩
              rw [hX] at hTR hXl
              clear HTR
              have HTR := Aside0.mk hTR
              have HX := Aside0.mk hX
              clear hTR hX hXR
              obtain ⟨r0_, r1_, r2_, r3_, r4_, r5_, r6_, r7_, hre⟩ : ∃ r0_ r1_ r2_ r3_ r4_ r5_ r6_ r7_ : Bool, row = [r0_, r1_, r2_, r3_, r4_, r5_, r6_, r7_] := by
                match row, HRL.out with
                | [a, b, c, d, e, f, g, h], _ => exact ⟨a, b, c, d, e, f, g, h, rfl⟩
              subst hre
              have HR3 : Aside0 (∀ W, R W → W.cell? ⟨gs, t * 8, none⟩ = some (.bool r0_) ∧ W.cell? ⟨gs, t * 8 + 1, none⟩ = some (.bool r1_) ∧ W.cell? ⟨gs, t * 8 + 2, none⟩ = some (.bool r2_) ∧ W.cell? ⟨gs, t * 8 + 3, none⟩ = some (.bool r3_) ∧ W.cell? ⟨gs, t * 8 + 4, none⟩ = some (.bool r4_) ∧ W.cell? ⟨gs, t * 8 + 5, none⟩ = some (.bool r5_) ∧ W.cell? ⟨gs, t * 8 + 6, none⟩ = some (.bool r6_) ∧ W.cell? ⟨gs, t * 8 + 7, none⟩ = some (.bool r7_)) := ⟨fun W h => by
                have h2 := HR2'.out W h
                exact ⟨h2 0 _ rfl, h2 1 _ rfl, h2 2 _ rfl, h2 3 _ rfl, h2 4 _ rfl, h2 5 _ rfl, h2 6 _ rfl, h2 7 _ rfl⟩⟩
              obtain ⟨dd, hdd⟩ : ∃ dd, decide (X = [r0_, r1_, r2_, r3_, r4_, r5_, r6_, r7_]) = dd := ⟨_, rfl⟩
              have heq : ∀ W : World, (Op.equalIn 10000 78 (.agg (H.bcells X)) (.agg #[.bool r0_, .bool r1_, .bool r2_, .bool r3_, .bool r4_, .bool r5_, .bool r6_, .bool r7_])).run Try.prog W = .ok dd W := by
                intro W
                rw [← hdd]
                match X, hXl with
                | [a, b, c, d, e, f, g, h], _ => exact eq8 W a b c d e f g h _ _ _ _ _ _ _ _
              have HDD := Aside0.mk hdd
              clear hdd hXl
              go_wp2
              go_region_held3 (fun W => W.cell? ⟨w.heap.size, 1, none⟩ = some (Value.slice (some adb) l0_1.length c0_1) ∧ (W.cell? ⟨gs, t * 8, none⟩ = some (.bool r0_) ∧ W.cell? ⟨gs, t * 8 + 1, none⟩ = some (.bool r1_) ∧ W.cell? ⟨gs, t * 8 + 2, none⟩ = some (.bool r2_) ∧ W.cell? ⟨gs, t * 8 + 3, none⟩ = some (.bool r3_) ∧ W.cell? ⟨gs, t * 8 + 4, none⟩ = some (.bool r4_) ∧ W.cell? ⟨gs, t * 8 + 5, none⟩ = some (.bool r5_) ∧ W.cell? ⟨gs, t * 8 + 6, none⟩ = some (.bool r6_) ∧ W.cell? ⟨gs, t * 8 + 7, none⟩ = some (.bool r7_)) ∧ Aside0 (R W))
                (first | (exact ⟨HR1'.out _ (HRd.out _ HRW.out), HR3.out _ (HRd.out _ HRW.out), ⟨HRd.out _ HRW.out⟩⟩) | (exact ⟨HR1'.out _ hr2.out, HR3.out _ hr2.out, hr2⟩) | (exact ⟨HR1'.out _ hr1'.out, HR3.out _ hr1'.out, hr1'⟩))
                (first | (go_at_call 63; refine (HOT.out _ (HRd.out _ HRW.out)).mono ?_; rintro e w' ⟨rfl, hbu⟩; have hr1' := Aside0.mk (HRb.out _ _ (HRd.out _ HRW.out) hbu); clear hbu) | (go_at_call 62; refine (HTR.out _ hr1'.out).mono ?_; rintro e w'' ⟨rfl, hbu⟩; have hr2 := Aside0.mk (HRb.out _ _ hr1'.out hbu); clear hbu))
              clear heq
              cases dd with
              | true =>
                go_wp2
                go_roundw
                case rel => exact ⟨t + 1, by go_num, by omega, ⟨fun j hj => by rcases Nat.lt_succ_iff_lt_or_eq.1 hj with h | rfl; exact HALL.out j h; rw [HX.out, HROW.out]; exact of_decide_eq_true HDD.out⟩, ⟨(HRB.out _ hr2.out).1⟩, ⟨(HRB.out _ hr2.out).2.1⟩, ⟨(HRB.out _ hr2.out).2.2⟩⟩
                case measure => simp [intOf]; omega
              | false =>
                have hr1 : r1 = false := by
                  rw [← HF1.out]
                  unfold fixedF
                  refine decide_eq_false (fun h => ?_)
                  have := h t hlt
                  rw [HX.out, HROW.out] at this
                  exact of_decide_eq_false HDD.out this
                subst hr1
                go_wp2
                go_ret2
                exact ⟨rfl, (HRB.out _ hr2.out).2.2⟩
            · have hE2 : t = l0_1.length := by omega
              have hr1 : r1 = true := by
                rw [← HF1.out]
                unfold fixedF
                exact decide_eq_true (fun j hj => HALL.out j (by omega))
              subst hr1
              clear hE2
              go_wp2
              go_ret2
              exact ⟨rfl, HB.out⟩
    · rw [decide_eq_false hlen, if_neg (by simp), Prod.mk.injEq] at h
      obtain ⟨rfl, rfl⟩ := h
      have c3 : ((l1.length : Int) == (l0_1.length : Int)) = false := by simp; omega
      clear hlen0 hlen
      go_enter Try.func24, Try.ntmps24
      go_wp2_with (go_at_call 15; refine (HK.out _ H0.out).mono ?_; rintro e w' ⟨rfl, hb⟩; have HB := Aside0.mk (H0.out.trans (hb.mono H0.out.size)); have HBX1 := blk_below HBX.out hb; have hx0 := blk_cell HBX1 0; have hx1 := blk_cell HBX1 1; clear hb)
      go_ret2
      exact ⟨rfl, HB.out⟩
end Go.Proofs.Ytkfpbblaomgihaa.P

namespace Go.Proofs.Ytkfpbblaomgihaa.Q
open Go.RowKit Go.Proofs.Ytkfpbblaomgihaa.P Go.Proofs.Ytkfpbblaomgihaa.H Go.Proofs.YtkfpbblaomgihaaW.PrintWords
theorem getD_mem {l : List Int} {q : Nat} (hq : q < l.length) : l.getD q 0 ∈ l := by
  rw [List.getD_eq_getElem?_getD, List.getElem?_eq_getElem hq]
  exact List.getElem_mem hq
def In7 (l : List Int) : Prop := ∀ y ∈ l, 0 ≤ y ∧ y ≤ 7
theorem set_bit {bs : List Bool} {i j : Nat} (b : Bool) (hj : j < bs.length) : (bs.set i b).getD j false = if i = j then b else bs.getD j false := by
  rw [List.getD_eq_getElem?_getD, List.getElem?_set, List.getD_eq_getElem?_getD]
  split
  · next h => subst h; rw [if_pos hj]; rfl
  · rfl
theorem thrU_bit (j : Nat) : ∀ (l : List Int) (bs : List Bool), j < bs.length → (∀ x ∈ l, 0 ≤ x) → (thrU bs l).getD j false = (bs.getD j false || decide ((j : Int) ∈ l))
  | [], bs, _, _ => by simp [thrU]
  | x :: l, bs, hj, hl => by
    have h := thrU_bit j l (bs.set x.toNat true) (by simpa using hj) (fun y hy => hl y (by simp [hy]))
    have hx := hl x (by simp)
    show (thrU (bs.set x.toNat true) l).getD j false = _
    rw [h, set_bit true hj, Bool.eq_iff_iff]
    simp only [Bool.or_eq_true, decide_eq_true_eq, List.mem_cons]
    by_cases e : x.toNat = j
    · rw [if_pos e]
      have : (j : Int) = x := by omega
      simp [this]
    · rw [if_neg e]
      have : ¬ (j : Int) = x := by omega
      simp [this]
theorem thrS_bit (j : Nat) : ∀ (l : List Int) (bs : List Bool), j < bs.length → (∀ x ∈ l, 0 ≤ x) → (thrS bs l).getD j false = (bs.getD j false && !decide ((j : Int) ∈ l))
  | [], bs, _, _ => by simp [thrS]
  | x :: l, bs, hj, hl => by
    have h := thrS_bit j l (bs.set x.toNat false) (by simpa using hj) (fun y hy => hl y (by simp [hy]))
    have hx := hl x (by simp)
    show (thrS (bs.set x.toNat false) l).getD j false = _
    rw [h, set_bit false hj, Bool.eq_iff_iff]
    simp only [Bool.and_eq_true, Bool.not_eq_true', decide_eq_false_iff_not, List.mem_cons]
    by_cases e : x.toNat = j
    · rw [if_pos e]
      have : (j : Int) = x := by omega
      simp [this]
    · rw [if_neg e]
      have : ¬ (j : Int) = x := by omega
      simp [this]
theorem setOf_bit {l : List Int} (h : In7 l) {j : Nat} (hj : j < 8) : (setOf l).getD j false = decide ((j : Int) ∈ l) := by
  unfold setOf
  rw [thrU_bit j l _ (by simpa using hj) (fun x hx => (h x hx).1)]
  have : (List.replicate 8 false).getD j false = false := by
    rw [List.getD_eq_getElem?_getD, List.getElem?_replicate]
    split <;> rfl
  rw [this, Bool.false_or]
theorem orB_bit {a b : List Bool} {n j : Nat} (ha : a.length = n) (hb : b.length = n) (hj : j < n) : (orB a b).getD j false = (a.getD j false || b.getD j false) := by
  unfold orB
  rw [List.getD_eq_getElem?_getD, List.getElem?_zipWith, List.getD_eq_getElem?_getD, List.getD_eq_getElem?_getD, List.getElem?_eq_getElem (by omega : j < a.length), List.getElem?_eq_getElem (by omega : j < b.length)]
  rfl
theorem bits_ext {a b : List Bool} (h : a.length = b.length) (hb : ∀ j, j < a.length → a.getD j false = b.getD j false) : a = b := by
  apply List.ext_getElem h
  intro j h1 h2
  have := hb j h1
  rw [List.getD_eq_getElem?_getD, List.getElem?_eq_getElem h1, List.getD_eq_getElem?_getD, List.getElem?_eq_getElem h2] at this
  exact this
theorem out_bit (L : List (List Int)) (hL : ∀ r ∈ L, In7 r) {j : Nat} (hj : j < 8) : ∀ (l : List Int) (acc : List Bool), acc.length = 8 → (∀ k ∈ l, 0 ≤ k ∧ k < (L.length : Int)) →
    (l.foldl (fun a k => orB a ((L.map setOf).getD k.toNat [])) acc).getD j false = (acc.getD j false || decide (∃ k ∈ l, (j : Int) ∈ L.getD k.toNat []))
  | [], acc, _, _ => by simp
  | k :: l, acc, ha, hl => by
    have hk := hl k (by simp)
    have hk' : k.toNat < L.length := by omega
    have e : (L.map setOf).getD k.toNat [] = setOf (L.getD k.toNat []) := by
      rw [List.getD_eq_getElem?_getD, List.getElem?_map, List.getD_eq_getElem?_getD, List.getElem?_eq_getElem hk']
      rfl
    have h7 : In7 (L.getD k.toNat []) := by
      rw [List.getD_eq_getElem?_getD, List.getElem?_eq_getElem hk']
      exact hL _ (List.getElem_mem hk')
    rw [List.foldl_cons, e, out_bit L hL hj l _ (by rw [orB_len _ _ (by rw [ha, setOf_len]), ha]) (fun x hx => hl x (by simp [hx])), orB_bit ha (setOf_len _) hj, setOf_bit h7 hj, Bool.eq_iff_iff]
    simp only [Bool.or_eq_true, decide_eq_true_eq, List.mem_cons, exists_eq_or_imp, or_assoc]
theorem srt_len {hi : Int} : ∀ (l : List Int) (lo : Int), Srt l → (∀ y ∈ l, lo ≤ y ∧ y ≤ hi) → (l.length : Int) ≤ hi - lo + 1 ∨ l = []
  | [], _, _, _ => .inr rfl
  | x :: l, lo, h, hb => by
    have h' := List.pairwise_cons.1 h
    have hx := hb x (by simp)
    rcases srt_len (hi := hi) l (x + 1) h'.2 (fun y hy => by have h1 : x < y := h'.1 y hy; have h2 := hb y (by simp [hy]); omega) with e | e
    · left; simp only [List.length_cons]; omega
    · left; rw [e]; simp; omega
theorem srt_len7 {l : List Int} (h : Srt l) (h7 : In7 l) : l.length ≤ 8 := by
  rcases srt_len l 0 h h7 with e | e
  · omega
  · rw [e]; simp
def OutM (g : List (List Int)) (L : List (List Int)) (i : Nat) (y : Int) : Prop := ∃ k ∈ g.getD i [], y ∈ L.getD k.toNat []
instance (g L : List (List Int)) (i : Nat) (y : Int) : Decidable (OutM g L i y) := by unfold OutM; infer_instance
theorem spec_out_ev (g L : List (List Int)) (i : Nat) (hg : Small g) (hLs : Small L) (hi : i < g.length) (hk : ∀ k ∈ g.getD i [], 0 ≤ k ∧ k < (L.length : Int)) (hL : ∀ r ∈ L, In7 r) (b : List S56) :
    ∃ o, Ev (fun k => spec_l12Out.f k g b L (i : Int)) o ∧ Srt o ∧ In7 o ∧ ∀ y, y ∈ o ↔ OutM g L i y := by
  have hrow := hg.at hi
  have er : rd_L1 g (i : Int) = g.getD i [] := rfl
  unfold spec_l12Out.f OutM
  rw [er]
  generalize g.getD i [] = row at hrow hk
  have key := down (n := row.length) (p := fun m => ∀ acc : List Int, Srt acc → In7 acc → ∃ o, Ev (fun k => spec_l12Out.l0 k L acc row (row.length : Int) (m : Int)) o ∧ Srt o ∧ In7 o ∧ ∀ y, y ∈ o ↔ y ∈ acc ∨ ∃ k ∈ row.drop m, y ∈ L.getD k.toNat []) ?h0 ?hs 0 (Nat.zero_le _) [] List.Pairwise.nil (fun y hy => by simp at hy)
  · obtain ⟨o, h1, h2, h3, h4⟩ := key
    refine ⟨o, Ev.congr (fun k => by rw [if_pos (by omega), if_pos (by omega)]; rfl) h1, h2, h3, fun y => ?_⟩
    rw [h4 y, List.drop_zero]
    simp
  case h0 =>
    intro acc h1 h2
    refine ⟨acc, Ev.step (f := fun _ => some acc) (fun k => by simp only [spec_l12Out.l0]; rw [if_neg (by omega)]) (Ev.now _), h1, h2, fun y => ?_⟩
    rw [List.drop_length]
    simp
  case hs =>
    intro m hm ih acc h1 h2
    have hx : rd row (m : Int) = row.getD m 0 := rfl
    have hmem : row.getD m 0 ∈ row := by
      rw [List.getD_eq_getElem?_getD, List.getElem?_eq_getElem hm]
      exact List.getElem_mem hm
    have hxk := hk _ hmem
    rw [drop_eq hm]
    generalize row.getD m 0 = x at hx hxk
    have hxl : x.toNat < L.length := by omega
    have ex : rd_L1 L x = L.getD x.toNat [] := rfl
    have hr7 : In7 (L.getD x.toNat []) := by
      rw [List.getD_eq_getElem?_getD, List.getElem?_eq_getElem hxl]
      exact hL _ (List.getElem_mem hxl)
    have hrl := hLs.at hxl
    have inner := down (n := (L.getD x.toNat []).length) (p := fun q => ∀ acc : List Int, Srt acc → In7 acc → ∃ o, Ev (fun k => spec_l12Out.l1 k L acc row (row.length : Int) (m : Int) (L.getD x.toNat []) ((L.getD x.toNat []).length : Int) (q : Int)) o ∧ Srt o ∧ In7 o ∧ ∀ y, y ∈ o ↔ (y ∈ acc ∨ y ∈ (L.getD x.toNat []).drop q) ∨ ∃ k ∈ row.drop (m + 1), y ∈ L.getD k.toNat []) ?h0' ?hs' 0 (Nat.zero_le _) acc h1 h2
    · obtain ⟨o, e1, e2, e3, e4⟩ := inner
      refine ⟨o, Ev.step (fun k => ?_) e1, e2, e3, fun y => ?_⟩
      · simp only [spec_l12Out.l0]
        rw [if_pos (by omega), if_pos (by omega), if_pos (by omega), hx, if_pos hxk.1, if_pos hxk.2, ex]
        rfl
      · rw [e4 y, List.drop_zero, or_assoc]
        simp only [List.mem_cons, exists_eq_or_imp]
    case h0' =>
      intro acc h1 h2
      obtain ⟨o, e1, e2, e3, e4⟩ := ih acc h1 h2
      refine ⟨o, Ev.step (fun k => ?_) e1, e2, e3, fun y => ?_⟩
      · simp only [spec_l12Out.l1]
        rw [if_neg (by omega), w64 (by omega) (by omega)]
        rfl
      · rw [e4 y, List.drop_length]
        simp
    case hs' =>
      intro q hq ihq acc h1 h2
      have hy : rd (L.getD x.toNat []) (q : Int) = (L.getD x.toNat []).getD q 0 := rfl
      have hym : (L.getD x.toNat []).getD q 0 ∈ L.getD x.toNat [] := getD_mem hq
      have hy7 := hr7 _ hym
      obtain ⟨o, e1, e2, e3, e4⟩ := ihq (putL acc ((L.getD x.toNat []).getD q 0)) (putL_srt _ _ h1) (fun y hy => by
        rcases (putL_mem _ acc y).1 hy with h | h
        · exact h2 y h
        · rw [h]; exact hy7)
      refine ⟨o, Ev.step (fun k => by simp only [spec_l12Out.l1]; rw [if_pos (by omega), if_pos (by omega), if_pos (by omega), hy]) ((put_ev acc _ (by have := srt_len7 h1 h2; omega)).bind (Ev.congr (fun k => by rw [w64 (by omega) (by omega)]; rfl) e1)), e2, e3, fun y => ?_⟩
      rw [e4 y, putL_mem, drop_eq hq, List.mem_cons, or_assoc (a := y ∈ acc)]
theorem spec_in_ev (g L : List (List Int)) (b : List S56) (i : Nat) (hg : Small g) (hLs : Small L) (hb : SmallI b) (hi : i < g.length) (hib : i < b.length) (hk : ∀ k ∈ g.getD i [], 0 ≤ k ∧ k < (L.length : Int)) (hL : ∀ r ∈ L, In7 r)
    (hu : Srt (b.getD i z56).f0) (hu7 : In7 (b.getD i z56).f0) :
    ∃ o, Ev (fun k => spec_l12In.f k g b L (i : Int)) o ∧ Srt o ∧ In7 o ∧ ∀ y, y ∈ o ↔ y ∈ (b.getD i z56).f0 ∨ (OutM g L i y ∧ y ∉ (b.getD i z56).f1) := by
  obtain ⟨t, t1, t2, t3, t4⟩ := spec_out_ev g L i hg hLs hi hk hL b
  have er : rd_T56 b (i : Int) = b.getD i z56 := rfl
  have hz := hb.at hib
  have hbl := hb.1
  unfold spec_l12In.f
  simp only [Option.bind_some, List.nil_append, List.length_nil, er]
  generalize b.getD i z56 = B at er hu hu7 hz
  have htl := srt_len7 t2 t3
  have key := down (n := t.length) (p := fun m => ∀ acc : List Int, Srt acc → In7 acc → ∃ o, Ev (fun k => spec_l12In.l0 k (i : Int) acc t (t.length : Int) (m : Int) g b) o ∧ Srt o ∧ In7 o ∧ ∀ y, y ∈ o ↔ y ∈ acc ∨ (y ∈ t.drop m ∧ y ∉ B.f1)) ?h0 ?hs 0 (Nat.zero_le _) B.f0 hu hu7
  · obtain ⟨o, e1, e2, e3, e4⟩ := key
    refine ⟨o, Ev.congr (fun k => by rw [if_pos (by omega), if_pos (by omega), if_pos (by omega)]) (t1.bind e1), e2, e3, fun y => ?_⟩
    rw [e4 y, List.drop_zero, t4 y]
  case h0 =>
    intro acc h1 h2
    refine ⟨acc, Ev.step (f := fun _ => some acc) (fun k => by simp only [spec_l12In.l0]; rw [if_neg (by omega)]) (Ev.now _), h1, h2, fun y => ?_⟩
    rw [List.drop_length]
    simp
  case hs =>
    intro m hm ih acc h1 h2
    have hx : rd t (m : Int) = t.getD m 0 := rfl
    have hx7 := t3 _ (getD_mem hm)
    rw [drop_eq hm]
    generalize t.getD m 0 = x at hx hx7
    cases c : decide (x ∈ B.f1) with
    | true =>
      have c' := of_decide_eq_true c
      obtain ⟨o, e1, e2, e3, e4⟩ := ih acc h1 h2
      refine ⟨o, Ev.step (fun k => by simp only [spec_l12In.l0]; rw [if_pos (by omega), if_pos (by omega), if_pos (by omega), if_pos (by omega), if_pos (by omega), er, hx]) ((has_ev B.f1 x hz.2).bind ?_), e2, e3, fun y => ?_⟩
      · rw [c]
        exact Ev.congr (fun k => by rw [if_pos rfl, w64 (by omega) (by omega)]; rfl) e1
      · rw [e4 y, List.mem_cons]
        constructor
        · rintro (h | ⟨h, h'⟩)
          · exact .inl h
          · exact .inr ⟨.inr h, h'⟩
        · rintro (h | ⟨h | h, h'⟩)
          · exact .inl h
          · rw [h] at h'; exact absurd c' h'
          · exact .inr ⟨h, h'⟩
    | false =>
      have c' := of_decide_eq_false c
      obtain ⟨o, e1, e2, e3, e4⟩ := ih (putL acc x) (putL_srt _ _ h1) (fun y hy => by
        rcases (putL_mem _ acc y).1 hy with h | h
        · exact h2 y h
        · rw [h]; exact hx7)
      refine ⟨o, Ev.step (fun k => by simp only [spec_l12In.l0]; rw [if_pos (by omega), if_pos (by omega), if_pos (by omega), if_pos (by omega), if_pos (by omega), er, hx]) ((has_ev B.f1 x hz.2).bind ?_), e2, e3, fun y => ?_⟩
      · rw [c]
        refine Ev.congr (fun k => by rw [if_neg (by simp)]) ((put_ev acc x (by have := srt_len7 h1 h2; omega)).bind ?_)
        exact Ev.congr (fun k => by rw [w64 (by omega) (by omega)]; rfl) e1
      · rw [e4 y, putL_mem, List.mem_cons]
        constructor
        · rintro ((h | h) | ⟨h, h'⟩)
          · exact .inl h
          · exact .inr ⟨.inl h, by rw [h]; exact c'⟩
          · exact .inr ⟨.inr h, h'⟩
        · rintro (h | ⟨h | h, h'⟩)
          · exact .inl (.inl h)
          · exact .inl (.inr h)
          · exact .inr ⟨h, h'⟩
theorem same_ev (a b : List Int) (ha : a.length ≤ 1048576) : Ev (fun k => spec_l12Same.f k a b) (decide (a = b)) := by
  unfold spec_l12Same.f
  by_cases hl : a.length = b.length
  · refine Ev.congr (fun k => by rw [if_pos (by omega)]) ?_
    refine ev_eq (down0 (n := a.length) (p := fun i => Ev (fun k => spec_l12Same.l0 k a b (a.length : Int) (i : Int)) (decide (a.drop i = b.drop i))) ?h0 ?hs) (by rw [List.drop_zero, List.drop_zero])
    case h0 => exact Ev.step (f := fun _ => some true) (fun k => by simp only [spec_l12Same.l0]; rw [if_neg (by omega)]) (by rw [List.drop_length, hl, List.drop_length]; simpa using Ev.now _)
    case hs =>
      intro i hi ih
      have h1 : rd a (i : Int) = a.getD i 0 := rfl
      have h2 : rd b (i : Int) = b.getD i 0 := rfl
      rw [drop_eq hi, drop_eq (l := b) (by omega)]
      by_cases c : a.getD i 0 = b.getD i 0
      · refine Ev.step (fun k => ?_) (ev_eq ih ?_)
        · simp only [spec_l12Same.l0]
          rw [if_pos (by omega), if_pos (by omega), if_pos (by omega), if_pos (by omega), h1, h2, if_pos c, w64 (by omega) (by omega)]
          rfl
        · rw [decide_eq_decide, c]
          simp
      · refine Ev.step (f := fun _ => some false) (fun k => ?_) (ev_is fun k => ?_)
        · simp only [spec_l12Same.l0]
          rw [if_pos (by omega), if_pos (by omega), if_pos (by omega), if_pos (by omega), h1, h2, if_neg c]
        · rw [decide_eq_false (fun h => c (by injection h))]
  · refine Ev.congr (f := fun _ => some false) (fun k => by rw [if_neg (by omega)]) (ev_is fun k => ?_)
    rw [decide_eq_false (fun h => hl (by rw [h]))]
theorem upB_srt {l : List Int} {lo hi : Int} (h : upB l lo hi 0 = true) : Srt l := by
  have hs : ∀ j, j + 1 < l.length → l.getD j 0 < l.getD (j + 1) 0 := by
    intro j hj
    have h1 := of_decide_eq_true h (j + 1) hj (Nat.zero_le _)
    unfold upAt at h1
    simp only [Bool.and_eq_true, Bool.or_eq_true, decide_eq_true_eq] at h1
    rcases h1.2 with h2 | h2
    · omega
    · exact h2
  have ht : ∀ d j, j + d + 1 < l.length → l.getD j 0 < l.getD (j + d + 1) 0 := by
    intro d
    induction d with
    | zero => intro j hj; exact hs j hj
    | succ d ih =>
      intro j hj
      have h1 := ih j (by omega)
      have h2 := hs (j + d + 1) (by omega)
      have e : j + (d + 1) + 1 = j + d + 1 + 1 := by omega
      rw [e]
      omega
  refine List.pairwise_iff_getElem.2 (fun i j hi hj hij => ?_)
  have := ht (j - i - 1) i (by omega)
  rw [show i + (j - i - 1) + 1 = j by omega, List.getD_eq_getElem?_getD, List.getD_eq_getElem?_getD, List.getElem?_eq_getElem hi, List.getElem?_eq_getElem hj] at this
  exact this
theorem fixed_one (g L : List (List Int)) (B : S56) (i : Nat) (hk : ∀ k ∈ g.getD i [], 0 ≤ k ∧ k < (L.length : Int)) (hL : ∀ r ∈ L, In7 r) (hu7 : In7 B.f0) (hs7 : In7 B.f1) (l o : List Int) (hl : Srt l) (hl7 : In7 l) (ho : Srt o) (ho7 : In7 o)
    (hm : ∀ y, y ∈ o ↔ y ∈ B.f0 ∨ (OutM g L i y ∧ y ∉ B.f1)) : (thrU (thrS (outF g (L.map setOf) i) B.f1) B.f0 = setOf l) ↔ o = l := by
  have hol : (outF g (L.map setOf) i).length = 8 := outF_len _ _ _ (fun r hr => by obtain ⟨x, _, rfl⟩ := List.mem_map.1 hr; exact setOf_len x) (by rw [List.length_map]; exact hk)
  have hbit : ∀ j, j < 8 → (thrU (thrS (outF g (L.map setOf) i) B.f1) B.f0).getD j false = decide ((j : Int) ∈ o) := by
    intro j hj
    rw [thrU_bit j _ _ (by rw [thrS_len, hol]; exact hj) (fun x hx => (hu7 x hx).1), thrS_bit j _ _ (by rw [hol]; exact hj) (fun x hx => (hs7 x hx).1)]
    have e : (outF g (L.map setOf) i).getD j false = decide (OutM g L i (j : Int)) := by
      unfold outF OutM
      rw [out_bit L hL hj _ _ (by simp) hk]
      have : (List.replicate 8 false).getD j false = false := by
        rw [List.getD_eq_getElem?_getD, List.getElem?_replicate]
        split <;> rfl
      rw [this, Bool.false_or]
    rw [e, Bool.eq_iff_iff, decide_eq_true_eq, hm]
    simp only [Bool.or_eq_true, Bool.and_eq_true, Bool.not_eq_true', decide_eq_false_iff_not, decide_eq_true_eq]
    constructor
    · rintro (h | h)
      · exact .inr h
      · exact .inl h
    · rintro (h | h)
      · exact .inr h
      · exact .inl h
  constructor
  · intro h
    refine srt_ext ho hl (fun x => ?_)
    have key : ∀ j : Nat, j < 8 → (((j : Int) ∈ o) ↔ ((j : Int) ∈ l)) := by
      intro j hj
      have h1 := hbit j hj
      rw [h, setOf_bit hl7 hj] at h1
      exact (decide_eq_decide.1 h1).symm
    constructor
    · intro hx
      have h7 := ho7 x hx
      have := (key x.toNat (by omega)).1 (by rw [Int.toNat_of_nonneg h7.1]; exact hx)
      rwa [Int.toNat_of_nonneg h7.1] at this
    · intro hx
      have h7 := hl7 x hx
      have := (key x.toNat (by omega)).2 (by rw [Int.toNat_of_nonneg h7.1]; exact hx)
      rwa [Int.toNat_of_nonneg h7.1] at this
  · intro h
    refine bits_ext (by rw [thrU_len, thrS_len, hol, setOf_len]) (fun j hj => ?_)
    have hj8 : j < 8 := by rw [thrU_len, thrS_len, hol] at hj; exact hj
    rw [hbit j hj8, setOf_bit hl7 hj8, h]
end Go.Proofs.Ytkfpbblaomgihaa.Q

namespace Go.Proofs.Ytkfpbblaomgihaa.P
open Go.RowKit Go.Proofs.YtkfpbblaomgihaaW.PrintWords Go.Proofs.YtkfpbblaomgihaaW.PrintLast Go.Proofs.YtkfpbblaomgihaaW.PrintMore
attribute [local go_sem] max2_int min2_int max_two min_two max_three min_three max_four min_four
def laws_markIntS.l0 : Nat → List Int → Int → Int → Option (Int × List Int)
  | 0, _, _, _ => none
  | k + 1, x0, x1, x5 => if x5 < (x0.length : Int) then (if 0 ≤ x5 then (laws_markIntS.l0 k (x0.set (x5 : Int).toNat x1) (wrap64 (x1 + 1)) (wrap64 (x5 + 1))) else (none)) else (some (x1, x0))
def laws_markIntS.f (k : Nat) (l0 : List Int) (a1 : Int) : Option (Int × List Int) := laws_markIntS.l0 k l0 a1 0
theorem laws_markIntS.mono_l : ∀ k, (∀ y0 y1 y2, LeO (laws_markIntS.l0 k y0 y1 y2) (laws_markIntS.l0 (k + 1) y0 y1 y2))
  | 0 => fun _ _ _ r h => by simp [laws_markIntS.l0] at h
  | k + 1 => by
    have ih0 := laws_markIntS.mono_l k
    · intro y0 y1 y2
      unfold laws_markIntS.l0
      repeat' first
      | (with_reducible exact ih0 _ _ _)
      | (with_reducible exact LeO.refl _)
      | (with_reducible exact LeO.none _)
      | (with_reducible refine LeO.ite ?_ ?_)
      | (with_reducible refine LeO.bind ?_ (fun _ => ?_))
      | exact ih0 _ _ _
      | exact LeO.none _
      | refine LeO.ite ?_ ?_
      | refine LeO.bind ?_ (fun _ => ?_)
theorem laws_markIntS.mono : ∀ a0 a1 k, LeO (laws_markIntS.f k a0 a1) (laws_markIntS.f (k + 1) a0 a1) := by
  intro a0 a1 k
  have ih0 := laws_markIntS.mono_l k
  unfold laws_markIntS.f
  repeat' first
      | (with_reducible exact ih0 _ _ _)
      | (with_reducible exact LeO.refl _)
      | (with_reducible exact LeO.none _)
      | (with_reducible refine LeO.ite ?_ ?_)
      | (with_reducible refine LeO.bind ?_ (fun _ => ?_))
      | exact ih0 _ _ _
      | exact LeO.none _
      | refine LeO.ite ?_ ?_
      | refine LeO.bind ?_ (fun _ => ?_)
set_option maxHeartbeats 8000000 in
set_option maxRecDepth 100000 in
theorem laws_markIntS.calls (k : Nat) (P0_ : Nat → Prop) (u9000_ : Value) (l0 : List Int) (a1 : Int) (r1 : Int) (r2 : List Int) (w0 w : World) (hB : Below w0.heap.size w0 w) (ho0 : Kd.R (Kd.int .i64) 3 w w0.heap.size P0_ u9000_ l0) (h : laws_markIntS.f k l0 a1 = some (r1, r2)) :
    Calls Try.prog 69 #[u9000_, .int .i64 a1] w fun e w' => e = .returned (.int .i64 r1) ∧ Kd.R (Kd.int .i64) 3 w' w0.heap.size (fun k_ => (P0_ k_ ∨ w.heap.size ≤ k_)) u9000_ r2 ∧ Below w0.heap.size w0 w' ∧ Kept w w' (fun k_ => P0_ k_) := by
  have HO0 := Aside0.mk (show Kd.R (Kd.int .i64) 3 w w0.heap.size (fun k_ => (P0_ k_ ∨ w.heap.size ≤ k_)) u9000_ l0 from Kd.R_mono ho0 (fun k_ hk => (.inl hk)))
  have HK := Aside0.mk (Kept.refl w (fun k_ => P0_ k_))
  have HW0 := Aside0.mk hB.size
  have HB := Aside0.mk hB
  clear hB
  have H : (laws_markIntS.l0 k l0 a1 0) = some (r1, r2) := h
  clear h
  have H' := Aside0.mk H
  clear H
  go_enter Try.func69, Try.ntmps69
  go_wp2
  go_loopg [1, 5] k (fun kq v1 v5 w' => ∃ (x0_1 : List Int) (x1_1 : Int) (x5_1 : Int), v1 = .int .i64 x1_1 ∧ v5 = .int .i64 x5_1 ∧ Aside0 (laws_markIntS.l0 kq x0_1 x1_1 x5_1 = some (r1, r2)) ∧ Aside0 (kq ≤ k) ∧ Aside0 (Kd.R (Kd.int .i64) 3 w' w0.heap.size (fun k_ => (P0_ k_ ∨ w.heap.size ≤ k_)) u9000_ x0_1) ∧ Aside0 (Kept w w' (fun k_ => P0_ k_)) ∧ Aside0 (Below w0.heap.size w0 w'))
  case atStart => exact ⟨(l0), (a1), (0), (by first | rfl | (simp; done) | (simp [*]; done)), (by first | rfl | (simp; done) | (simp [*]; done)), H', ⟨Nat.le_refl _⟩, ⟨by (with_reducible repeat (first | apply Kd.R_alloc | apply Kd.R_drewN | apply Kd.R_drew)); exact HO0.out⟩, ⟨by repeat (first | (with_reducible first | exact HK.out | apply Kept.alloc | apply Kept.drewN | apply Kept.drew) | exact HK.out)⟩, ⟨by repeat (first | (with_reducible first | exact HB.out | apply below_alloc | apply pw_below_drewN | apply below_drew1) | exact HB.out)⟩⟩
  case round =>
    clear H'
    try clear p2
    obtain ⟨x0_1, x1_1, x5_1, rfl, rfl, HA, HK1, HO_0, HK, HB⟩ := hrel
    cases gk with
    | zero => exact absurd HA.out (by simp [laws_markIntS.l0])
    | succ k1 =>
      have H := HA.out
      clear HA
      simp only [laws_markIntS.l0] at H
      by_cases c3 : x5_1 < (x0_1.length : Int)
      · rw [if_pos c3] at H
        have c3b0 : decide (x5_1 < (x0_1.length : Int)) = true := decide_eq_true c3
        clear c3
        by_cases c4 : 0 ≤ x5_1
        · rw [if_pos c4] at H
          have c4b0 : decide (0 ≤ x5_1) = true := decide_eq_true c4
          clear c4
          obtain ⟨y415, hy415⟩ : ∃ y_ : List Int, y_ = (x0_1.set (x5_1 : Int).toNat x1_1) := ⟨_, rfl⟩
          replace H : (laws_markIntS.l0 k1 y415 (wrap64 (x1_1 + 1)) (wrap64 (x5_1 + 1))) = some (r1, r2) := by first | (rw [hy415]; with_reducible exact H) | (have H2_ := (Option.bind_some _ _).symm.trans H; rw [hy415]; with_reducible exact H2_) | (have H2_ := (Option.bind_some _ _).symm.trans H; with_reducible exact H2_) | with_reducible exact H | (rw [hy415]; exact H) | exact H
          have Ny415 := Aside0.mk hy415
          clear hy415
          have H' := Aside0.mk H
          clear H
          obtain ⟨Ao6, co6, eo6⟩ := Kd.R_slice HO_0.out
          subst eo6
          have p5 : 0 ≤ (x5_1 : Int) := of_decide_eq_true (by first | (with_reducible assumption) | assumption)
          have q5 : (x5_1 : Int) < ((x0_1.length : Int) : Int) := of_decide_eq_true (by first | (with_reducible assumption) | assumption)
          obtain ⟨go5, co5, eo5, gb5, gl5, cl5, HG5⟩ := Kd.R_form HO_0.out (by omega)
          (first | cases eo5 | (injection eo5 with ea_ en_ ec_; (first | subst ea_ | (injection ea_ with ea_; subst ea_)); subst ec_; clear en_))
          have GB5 := Aside0.mk gb5
          have GG5 := Aside0.mk HG5
          clear gb5 gl5 HG5
          have HMgo5 := Aside0.mk (show (P0_ go5 ∨ w.heap.size ≤ go5) from (HO_0.out.1 _ rfl))
          obtain ⟨hx5_0, hf5_0⟩ := Kd.R_celln 0 HO_0.out (x5_1 : Int) p5 q5
          replace p5 := eq_true p5
          replace q5 := eq_true q5
          have HP7 := Kd.R_putg HO_0.out (x5_1 : Int) x1_1
          go_wp2_with (first | ((with_reducible refine gate_store (t := 3) (p := 15) rfl ?_); refine store_event (t := 3) (p := 15) (v := ?vo_w8) (w1 := (wr.setCell ⟨go5, (x5_1 : Int).toNat, none⟩ (.int .i64 x1_1))) ?hg ?ho ?hn ?hr ?_; (case ho => rfl); (case hg => rfl); (case hn => rfl); (case hr => first | (go_simp; done) | (go_simp; rfl)); intro w8 hw; have hg : wr.grownBy w8 (some go5) := (by rw [hw]; exact HP7.2); have hp_ : Kd.R (Kd.int .i64) 3 w8 w0.heap.size (fun k_ => (P0_ k_ ∨ w.heap.size ≤ k_)) (.slice (some ⟨go5, 0, none⟩) x0_1.length co6) y415 := (by rw [hw, Ny415.out]; exact HP7.1); clear HP7; have n0_ := Aside0.mk (hp_); have n1_ := Aside0.mk ((by rw [hw]; exact below_set (HB.out) GB5.out : Below w0.heap.size w0 w8)); have n2_ := Aside0.mk (Kept.of_grown (S := (fun k_ => P0_ k_)) hg (by repeat (first | (with_reducible first | exact HK.out | apply Kept.alloc | apply Kept.drewN | apply Kept.drew) | exact HK.out)) (fun k_ e_ => (HO_0.out.1 k_ e_))); clear HO_0; clear HB; clear HK; have HO_0 := n0_; have HB := n1_; have HK := n2_; clear n0_ n1_ n2_; clear hg hw hp_))
          go_roundg k1
          case measure => have := HK1.out; omega
          case rel => exact ⟨(y415), (wrap64 (x1_1 + 1)), (wrap64 (x5_1 + 1)), (by first | rfl | (simp; done) | (simp [*]; done)), (by first | rfl | (simp; done) | (simp [*]; done)), H', ⟨by have := HK1.out; omega⟩, ⟨by (with_reducible repeat (first | apply Kd.R_alloc | apply Kd.R_drewN | apply Kd.R_drew)); exact HO_0.out⟩, ⟨by repeat (first | (with_reducible first | exact HK.out | apply Kept.alloc | apply Kept.drewN | apply Kept.drew) | exact HK.out)⟩, ⟨by repeat (first | (with_reducible first | exact HB.out | apply below_alloc | apply pw_below_drewN | apply below_drew1) | exact HB.out)⟩⟩
        · rw [if_neg c4] at H
          exact absurd H (by simp)
      · rw [if_neg c3] at H
        have c3b0 : decide (x5_1 < (x0_1.length : Int)) = false := decide_eq_false c3
        clear c3
        simp only [Option.some.injEq, Prod.mk.injEq] at H
        obtain ⟨rfl, rfl⟩ := H
        obtain ⟨Ao9, co9, eo9⟩ := Kd.R_slice HO_0.out
        subst eo9
        go_wp2
        go_ret
        exact ⟨by first | rfl | (simp [errW_none, errW_some] <;> rfl) | (simp [*, errW_none, errW_some] <;> rfl), by (with_reducible repeat (first | apply Kd.R_alloc | apply Kd.R_drewN | apply Kd.R_drew)); exact HO_0.out, by repeat (first | (with_reducible first | exact HB.out | apply below_alloc | apply pw_below_drewN | apply below_drew1) | exact HB.out), by repeat (first | (with_reducible first | exact HK.out | apply Kept.alloc | apply Kept.drewN | apply Kept.drew) | exact HK.out)⟩
end Go.Proofs.Ytkfpbblaomgihaa.P

namespace Go.Proofs.Ytkfpbblaomgihaa.P
open Go.RowKit Go.Proofs.YtkfpbblaomgihaaW.PrintWords Go.Proofs.YtkfpbblaomgihaaW.PrintLast Go.Proofs.YtkfpbblaomgihaaW.PrintMore
attribute [local go_sem] max2_int min2_int max_two min_two max_three min_three max_four min_four
theorem markI_ev (l : List Int) (a : Int) (ha : 0 ≤ a) (hn : a + l.length ≤ 4611686018427387904) : Ev (fun k => laws_markIntS.f k l a) (a + l.length, H.markI l a) := by
  have key : ∀ i, i ≤ l.length → Ev (fun k => laws_markIntS.l0 k ((H.markI l a).take i ++ l.drop i) (a + i) i) (a + l.length, H.markI l a) := by
    refine H.down ?_ ?_
    · refine Ev.step (f := fun _ => some (a + l.length, H.markI l a)) (fun k => ?_) (Ev.now _)
      have e1 : (H.markI l a).take l.length ++ l.drop l.length = H.markI l a := by rw [List.take_of_length_le (by rw [H.markI_len]; exact Nat.le_refl _), List.drop_length, List.append_nil]
      rw [e1]
      simp only [laws_markIntS.l0]
      rw [if_neg (by rw [H.markI_len]; omega)]
    · intro i hi ih
      refine Ev.step (fun k => ?_) ih
      have hl : ((H.markI l a).take i).length = i := by rw [List.length_take, H.markI_len]; omega
      simp only [laws_markIntS.l0]
      rw [if_pos (by rw [List.length_append, hl, List.length_drop]; omega), if_pos (by omega), H.w64 (by omega) (by omega), H.w64 (by omega) (by omega), Int.toNat_natCast]
      have e2 : ((H.markI l a).take i ++ l.drop i).set i (a + i) = (H.markI l a).take (i + 1) ++ l.drop (i + 1) := by
        rw [List.set_append_right _ _ (by omega), hl, Nat.sub_self, List.drop_eq_getElem_cons hi, List.set_cons_zero, List.take_add_one]
        have e3 : (H.markI l a)[i]? = some (a + i) := by
          unfold H.markI
          rw [List.getElem?_map, List.getElem?_range hi]
          rfl
        rw [e3, List.append_assoc]
        rfl
      rw [e2]
      congr 1 <;> push_cast <;> omega
  have h := key 0 (Nat.zero_le _)
  have e : (H.markI l a).take 0 ++ l.drop 0 = l := by simp
  rw [e] at h
  refine Ev.congr (fun k => ?_) h
  unfold laws_markIntS.f
  simp
set_option maxHeartbeats 8000000 in
set_option maxRecDepth 100000 in
theorem laws_markIntS.tame (lo up : Nat) (u : Value) (n : Nat) (a : Int) (w : World) (h : H.Room 3 w lo up u n) (ha : 0 ≤ a) (hn : a + n ≤ 4611686018427387904) :
    Calls Try.prog 69 #[u, .int .i64 a] w fun e w' => e = .returned (.int .i64 (a + n)) ∧ H.Tame 3 lo up w w' := by
  obtain ⟨A, c, rfl, hA⟩ := h
  by_cases h0 : 0 < n
  · obtain ⟨g, cs, rfl, h1, h2, h3, h4⟩ := hA h0
    have HB := Aside0.mk h3
    have H1 := Aside0.mk h1
    have H2 := Aside0.mk h2
    have H4 := Aside0.mk h4
    clear hA h1 h2 h3 h4
    go_enter Try.func69, Try.ntmps69
    go_wp2
    go_loopw [5, 1] (fun v5 v1 wr => ∃ (i : Nat) (cs' : Array Value), v5 = .int .i64 i ∧ v1 = .int .i64 (a + i) ∧ i ≤ n ∧ Aside0 (wr.heap[g]? = some (.cells cs' 3 (0, 0))) ∧ Aside0 (cs'.size = cs.size) ∧ Aside0 (H.Tame 3 lo up w wr)) (fun v5 _ _ => n - (intOf v5).toNat)
    case atStart => exact ⟨0, cs, rfl, by simp, Nat.zero_le _, HB, ⟨rfl⟩, ⟨H.Tame.refl _ _ _ _⟩⟩
    case round =>
      clear HB
      obtain ⟨i, cs', rfl, rfl, hi, HB, HS, HT⟩ := hrel
      by_cases hlt : i < n
      · have HI := Aside0.mk hlt
        have hlt' : (i : Int) < (n : Int) := by omega
        go_wp2_with ((with_reducible refine gate_store (t := 3) (p := 15) rfl ?_); refine H.mark_put rfl rfl rfl rfl HB.out rfl (by kernel_rfl) (by have := HI.out; have := H4.out; have := HS.out; omega) ?_; intro w_ cs2 hb_ hs_ hg_; replace HT := Aside0.mk (HT.out.trans (H.Tame.put hg_ HB.out hb_ hs_ H1.out H2.out)); replace HB := Aside0.mk hb_; replace HS := Aside0.mk (hs_.trans HS.out); clear hb_ hs_ hg_)
        go_roundw
        case rel => exact ⟨i + 1, _, by go_num, by first | go_num | (congr 1; push_cast; omega), by omega, HB, HS, HT⟩
        case measure => simp [intOf]; omega
      · have hE : i = n := by omega
        subst hE
        go_wp2
        go_ret
        exact ⟨rfl, HT.out⟩
  · obtain rfl : n = 0 := by omega
    go_enter Try.func69, Try.ntmps69
    go_wp2
    go_loopw [5, 1] (fun v5 v1 wr => v5 = .int .i64 0 ∧ v1 = .int .i64 a ∧ Aside0 (H.Tame 3 lo up w wr)) (fun v5 _ _ => 0)
    case atStart => exact ⟨rfl, rfl, ⟨H.Tame.refl _ _ _ _⟩⟩
    case round =>
      obtain ⟨rfl, rfl, HT⟩ := hrel
      go_wp2
      go_ret
      exact ⟨by simp, HT.out⟩
set_option maxHeartbeats 8000000 in
set_option maxRecDepth 100000 in
theorem laws_markIntSS.exact (v : Value) (xs : List (List Int)) (a : Int) (P0 : Nat → Prop) (w0 w : World) (hB : Below w0.heap.size w0 w) (hS : Kd.S (Kd.slice 3 (Kd.int .i64)) 37 w w0.heap.size P0 v xs) (ha : 0 ≤ a) (hn : a + H.total xs ≤ 4611686018427387904) :
    Calls Try.prog 29 #[v, .int .i64 a] w fun e w' => e = .returned (.int .i64 (a + H.total xs)) ∧ Kd.S (Kd.slice 3 (Kd.int .i64)) 37 w' w0.heap.size P0 v (H.markSS xs a) ∧ Below w0.heap.size w0 w' ∧ Kept w w' P0 := by
  by_cases h0 : 0 < xs.length
  · have hlx : xs.length ≤ 9223372036854775807 := by
      obtain ⟨A, c, e⟩ := Kd.S_slice hS
      subst e
      exact (Kd.S_reads' hS).2.2.2.1
    obtain ⟨g, cap, rfl, _, _, _⟩ := Kd.S_form hS h0
    have HB := Aside0.mk hB
    have HS := Aside0.mk hS
    clear hB hS
    go_enter Try.func29, Try.ntmps29
    go_wp2
    go_loopw [5, 1] (fun v5 v1 wr => ∃ i : Nat, v5 = .int .i64 i ∧ v1 = .int .i64 (a + H.total (xs.take i)) ∧ i ≤ xs.length ∧ Aside0 (Kd.S (Kd.slice 3 (Kd.int .i64)) 37 wr w0.heap.size P0 (.slice (some ⟨g, 0, none⟩) xs.length cap) (H.markTo xs a i)) ∧ Aside0 (Below w0.heap.size w0 wr) ∧ Aside0 (Kept w wr P0)) (fun v5 _ _ => xs.length - (intOf v5).toNat)
    case atStart => exact ⟨0, rfl, by simp [H.total], Nat.zero_le _, ⟨by simpa [H.markTo] using HS.out⟩, HB, ⟨Kept.refl _ _⟩⟩
    case round =>
      clear HB HS
      obtain ⟨i, rfl, rfl, hi, HS, HB, HK⟩ := hrel
      by_cases hlt : i < xs.length
      · obtain ⟨oki, c1, hcl, hM, hcc, hfr, hoki, hH⟩ := Kd.S_elem HS.out [] (i : Int) (by omega) (by omega)
        obtain ⟨u, rfl, hR⟩ := hM
        rw [Int.toNat_natCast] at hR hcc
        have hu := hcc 0 u rfl
        rw [show i * (Kd.slice 3 (Kd.int .i64)).sz + 0 = i from Nat.mul_one i] at hu
        rw [H.markTo_at xs a hlt] at hR
        have hst := H.markTo_step xs a hlt
        have hts := H.total_take_succ xs i hlt
        have htl := H.total_take_le xs (i + 1)
        obtain ⟨l, hl⟩ : ∃ l, xs.getD i [] = l := ⟨_, rfl⟩
        rw [hl] at hR hst hts
        have hb1 : 0 ≤ a + (H.total (xs.take i) : Int) := by omega
        obtain ⟨k, hk⟩ := Ev.rounds (markI_ev l (a + H.total (xs.take i)) hb1 (by omega))
        have HST := Aside0.mk hst
        have HTS := Aside0.mk hts
        have HR := Aside0.mk hR
        have HH := Aside0.mk hH
        have HOK := Aside0.mk hoki
        have HKK := Aside0.mk hk
        have hlt' : (i : Int) < (xs.length : Int) := by omega
        clear hcl hcc hfr hH hoki hst hts hl hk hR htl
        go_wp2_with (go_at_call 69; refine (laws_markIntS.calls k oki u l _ _ _ w0 wr HB.out HR.out HKK.out).mono ?_; rintro e w' ⟨rfl, hr', hb', hk'⟩; replace HS := Aside0.mk (H.S_marked HH.out HR.out hk' hr'); replace HK := Aside0.mk (HK.out.then_ hk' (fun k hk => .inl (HOK.out k hk).1)); replace HB := Aside0.mk hb'; clear hr' hb' hk' hu)
        go_roundw
        case rel => exact ⟨i + 1, by go_num, by rw [HTS.out]; congr 1; push_cast; omega, by omega, ⟨by have := HS.out; rw [Int.toNat_natCast, HST.out] at this; exact this⟩, HB, HK⟩
        case measure => simp [intOf]; omega
      · have hE : i = xs.length := by omega
        subst hE
        go_wp2
        go_ret
        exact ⟨by first | rfl | (rw [List.take_length]; rfl), by have := HS.out; rw [H.markTo, List.take_of_length_le (by rw [H.markSS_len]; exact Nat.le_refl _), List.drop_length, List.append_nil] at this; exact this, HB.out, HK.out⟩
  · obtain rfl : xs = [] := List.eq_nil_of_length_eq_zero (by omega)
    obtain ⟨A, c, rfl⟩ := Kd.S_slice hS
    have HB := Aside0.mk hB
    have HS := Aside0.mk hS
    clear hB hS
    go_enter Try.func29, Try.ntmps29
    go_wp2
    go_loopw [5, 1] (fun v5 v1 wr => v5 = .int .i64 0 ∧ v1 = .int .i64 a ∧ Aside0 (wr = w)) (fun v5 _ _ => 0)
    case atStart => exact ⟨rfl, rfl, ⟨rfl⟩⟩
    case round =>
      obtain ⟨rfl, rfl, HT⟩ := hrel
      go_wp2
      go_ret
      exact ⟨by simp [H.total], by rw [HT.out]; exact HS.out, by rw [HT.out]; exact HB.out, by rw [HT.out]; exact Kept.refl _ _⟩
set_option maxHeartbeats 8000000 in
set_option maxRecDepth 100000 in
theorem laws_markIntSS.tame (lo up : Nat) (v : Value) (m : Nat) (f : Nat → Nat) (a : Int) (w : World) (h : H.Rooms 3 37 1 w lo up v m f) (ha : 0 ≤ a) (hn : a + H.sumN f m ≤ 4611686018427387904) (hm : m ≤ 4611686018427387904) :
    Calls Try.prog 29 #[v, .int .i64 a] w fun e w' => e = .returned (.int .i64 (a + H.sumN f m)) ∧ H.Tame 3 lo up w w' := by
  obtain ⟨A, c, rfl, hA⟩ := h
  by_cases h0 : 0 < m
  · obtain ⟨g, cs, rfl, hb, hc⟩ := hA h0
    have HB := Aside0.mk hb
    have HC := Aside0.mk hc
    clear hA hb hc
    go_enter Try.func29, Try.ntmps29
    go_wp2
    go_loopw [5, 1] (fun v5 v1 wr => ∃ i : Nat, v5 = .int .i64 i ∧ v1 = .int .i64 (a + H.sumN f i) ∧ i ≤ m ∧ Aside0 (H.Tame 3 lo up w wr)) (fun v5 _ _ => m - (intOf v5).toNat)
    case atStart => exact ⟨0, rfl, by simp [H.sumN], Nat.zero_le _, ⟨H.Tame.refl _ _ _ _⟩⟩
    case round =>
      obtain ⟨i, rfl, rfl, hi, HT⟩ := hrel
      by_cases hlt : i < m
      · obtain ⟨u, h1, h2⟩ := HC.out i (by omega)
        have hu : wr.cell? ⟨g, i, none⟩ = some u := (blk_cell ((HT.out.kept _ _ _ HB.out (by decide)).trans HB.out) i).trans h1
        have H2 := Aside0.mk (h2.tame HT.out)
        have hs1 : H.sumN f (i + 1) = H.sumN f i + f i := rfl
        have hs2 := H.sumN_le f (show i + 1 ≤ m by omega)
        have HS1 := Aside0.mk hs1
        have hb1 : 0 ≤ a + (H.sumN f i : Int) := by omega
        have HB2 : Aside0 (a + (H.sumN f i : Int) + f i ≤ 4611686018427387904) := ⟨by omega⟩
        have hlt' : (i : Int) < (m : Int) := by omega
        clear h1 h2 hs1 hs2
        go_wp2_with (go_at_call 69; refine (laws_markIntS.tame lo up u (f i) _ wr H2.out hb1 HB2.out).mono ?_; rintro e w' ⟨rfl, ht⟩; replace HT := Aside0.mk (HT.out.trans ht); clear ht hu)
        go_roundw
        case rel => exact ⟨i + 1, by go_num, by rw [HS1.out]; congr 1; push_cast; omega, by omega, HT⟩
        case measure => simp [intOf]; omega
      · have hE : i = m := by omega
        subst hE
        go_wp2
        go_ret
        exact ⟨rfl, HT.out⟩
  · obtain rfl : m = 0 := by omega
    go_enter Try.func29, Try.ntmps29
    go_wp2
    go_loopw [5, 1] (fun v5 v1 wr => v5 = .int .i64 0 ∧ v1 = .int .i64 a ∧ Aside0 (H.Tame 3 lo up w wr)) (fun v5 _ _ => 0)
    case atStart => exact ⟨rfl, rfl, ⟨H.Tame.refl _ _ _ _⟩⟩
    case round =>
      obtain ⟨rfl, rfl, HT⟩ := hrel
      go_wp2
      go_ret
      exact ⟨by simp [H.sumN], HT.out⟩
end Go.Proofs.Ytkfpbblaomgihaa.P

namespace Go.Proofs.Ytkfpbblaomgihaa.P
open Go.RowKit Go.Proofs.YtkfpbblaomgihaaW.PrintWords Go.Proofs.YtkfpbblaomgihaaW.PrintLast Go.Proofs.YtkfpbblaomgihaaW.PrintMore
attribute [local go_sem] max2_int min2_int max_two min_two max_three min_three max_four min_four
def laws_heldIntS.l0 : Nat → List Int → Int → Int → Option (Int)
  | 0, _, _, _ => none
  | k + 1, x0, x1, x5 => if x5 < (x0.length : Int) then (if 0 ≤ x5 then (if (rd x0 x5) = x1 then (laws_heldIntS.l0 k x0 (wrap64 (x1 + 1)) (wrap64 (x5 + 1))) else (some (-1))) else (none)) else (some x1)
def laws_heldIntS.f (k : Nat) (l0 : List Int) (a1 : Int) : Option (Int) := laws_heldIntS.l0 k l0 a1 0
theorem laws_heldIntS.mono_l : ∀ k, (∀ y0 y1 y2, LeO (laws_heldIntS.l0 k y0 y1 y2) (laws_heldIntS.l0 (k + 1) y0 y1 y2))
  | 0 => fun _ _ _ r h => by simp [laws_heldIntS.l0] at h
  | k + 1 => by
    have ih0 := laws_heldIntS.mono_l k
    · intro y0 y1 y2
      unfold laws_heldIntS.l0
      repeat' first
      | (with_reducible exact ih0 _ _ _)
      | (with_reducible exact LeO.refl _)
      | (with_reducible exact LeO.none _)
      | (with_reducible refine LeO.ite ?_ ?_)
      | (with_reducible refine LeO.bind ?_ (fun _ => ?_))
      | exact ih0 _ _ _
      | exact LeO.none _
      | refine LeO.ite ?_ ?_
      | refine LeO.bind ?_ (fun _ => ?_)
theorem laws_heldIntS.mono : ∀ a0 a1 k, LeO (laws_heldIntS.f k a0 a1) (laws_heldIntS.f (k + 1) a0 a1) := by
  intro a0 a1 k
  have ih0 := laws_heldIntS.mono_l k
  unfold laws_heldIntS.f
  repeat' first
      | (with_reducible exact ih0 _ _ _)
      | (with_reducible exact LeO.refl _)
      | (with_reducible exact LeO.none _)
      | (with_reducible refine LeO.ite ?_ ?_)
      | (with_reducible refine LeO.bind ?_ (fun _ => ?_))
      | exact ih0 _ _ _
      | exact LeO.none _
      | refine LeO.ite ?_ ?_
      | refine LeO.bind ?_ (fun _ => ?_)
set_option maxHeartbeats 8000000 in
set_option maxRecDepth 100000 in
theorem laws_heldIntS.calls (k : Nat) (A0 : Option Addr) (c0 : Nat) (l0 : List Int) (a1 : Int) (r : Int) (w : World) (hr0 : Kd.C (Kd.int .i64) w A0 l0.length l0) (hc0 : l0.length ≤ c0) (h : laws_heldIntS.f k l0 a1 = some r) :
    Calls Try.prog 70 #[.slice A0 l0.length c0, .int .i64 a1] w fun e w' => e = .returned (.int .i64 r) ∧ Drawn0 w w' := by
  have HR0 := Aside0.mk hr0
  have HC0 := Aside0.mk hc0
  clear hr0 hc0
  have H : (laws_heldIntS.l0 k l0 a1 0) = some r := h
  clear h
  have H' := Aside0.mk H
  clear H
  go_enter Try.func70, Try.ntmps70
  go_wp2
  go_loopg [1, 5] k (fun kq v1 v5 w' => ∃ (x1_1 : Int) (x5_1 : Int), v1 = .int .i64 x1_1 ∧ v5 = .int .i64 x5_1 ∧ Aside0 (laws_heldIntS.l0 kq l0 x1_1 x5_1 = some r) ∧ Aside0 (kq ≤ k) ∧ Drawn0 w w')
  case atStart => exact ⟨(a1), (0), (by first | rfl | (simp; done) | (simp [*]; done)), (by first | rfl | (simp; done) | (simp [*]; done)), H', ⟨Nat.le_refl _⟩, by repeat (first | exact Drawn0.refl _ | apply Drawn0.step)⟩
  case round =>
    clear H'
    try clear p2
    obtain ⟨x1_1, x5_1, rfl, rfl, HA, HK1, ⟨m1, rfl⟩⟩ := hrel
    cases gk with
    | zero => exact absurd HA.out (by simp [laws_heldIntS.l0])
    | succ k1 =>
      have H := HA.out
      clear HA
      simp only [laws_heldIntS.l0] at H
      by_cases c3 : x5_1 < (l0.length : Int)
      · rw [if_pos c3] at H
        have c3b0 : decide (x5_1 < (l0.length : Int)) = true := decide_eq_true c3
        clear c3
        by_cases c4 : 0 ≤ x5_1
        · rw [if_pos c4] at H
          have c4b0 : decide (0 ≤ x5_1) = true := decide_eq_true c4
          clear c4
          by_cases c5 : (rd l0 x5_1) = x1_1
          · rw [if_pos c5] at H
            have c5b0 : ((rd l0 x5_1) == x1_1) = true := beq_iff_eq.mpr c5
            have c5b1 : ((rd l0 x5_1) != x1_1) = false := bne_eq_false_iff_eq.mpr c5
            clear c5
            have H' := Aside0.mk H
            clear H
            have p416 : 0 ≤ (x5_1 : Int) := of_decide_eq_true (by first | (with_reducible assumption) | assumption)
            have q416 : x5_1 < (l0.length : Int) := of_decide_eq_true (by first | (with_reducible assumption) | assumption)
            obtain ⟨ad416, e416, hx416_0⟩ := Kd.at_int HR0.out x5_1 p416 q416
            cases e416
            replace p416 := eq_true p416
            replace q416 := eq_true q416
            go_wp2
            go_roundg k1
            case measure => have := HK1.out; omega
            case rel => exact ⟨(wrap64 (x1_1 + 1)), (wrap64 (x5_1 + 1)), (by first | rfl | (simp; done) | (simp [*]; done)), (by first | rfl | (simp; done) | (simp [*]; done)), H', ⟨by have := HK1.out; omega⟩, by repeat (first | exact Drawn0.refl _ | apply Drawn0.step)⟩
          · rw [if_neg c5] at H
            have c5b0 : ((rd l0 x5_1) == x1_1) = false := beq_eq_false_iff_ne.mpr c5
            have c5b1 : ((rd l0 x5_1) != x1_1) = true := bne_iff_ne.mpr c5
            obtain rfl := Option.some.inj H
            have p416 : 0 ≤ (x5_1 : Int) := of_decide_eq_true (by first | (with_reducible assumption) | assumption)
            have q416 : x5_1 < (l0.length : Int) := of_decide_eq_true (by first | (with_reducible assumption) | assumption)
            obtain ⟨ad416, e416, hx416_0⟩ := Kd.at_int HR0.out x5_1 p416 q416
            cases e416
            replace p416 := eq_true p416
            replace q416 := eq_true q416
            go_wp2
            go_ret
            exact ⟨by first | rfl | (simp; done) | (simp [*]; done), by repeat (first | exact Drawn0.refl _ | apply Drawn0.step)⟩
        · rw [if_neg c4] at H
          exact absurd H (by simp)
      · rw [if_neg c3] at H
        have c3b0 : decide (x5_1 < (l0.length : Int)) = false := decide_eq_false c3
        clear c3
        obtain rfl := Option.some.inj H
        go_wp2
        go_ret
        exact ⟨by first | rfl | (simp; done) | (simp [*]; done), by repeat (first | exact Drawn0.refl _ | apply Drawn0.step)⟩
end Go.Proofs.Ytkfpbblaomgihaa.P

namespace Go.Proofs.Ytkfpbblaomgihaa.P
open Go.RowKit Go.Proofs.YtkfpbblaomgihaaW.PrintWords Go.Proofs.YtkfpbblaomgihaaW.PrintLast Go.Proofs.YtkfpbblaomgihaaW.PrintMore
attribute [local go_sem] max2_int min2_int max_two min_two max_three min_three max_four min_four
def laws_heldIntSS.l0 : Nat → List (List Int) → Int → Int → Option (Int)
  | 0, _, _, _ => none
  | k + 1, x0, x1, x5 => if x5 < (x0.length : Int) then (if 0 ≤ x5 then ((laws_heldIntS.f k (rd_L1 x0 x5) x1).bind fun t418 => (if t418 < 0 then (some (-1)) else (laws_heldIntSS.l0 k x0 t418 (wrap64 (x5 + 1))))) else (none)) else (some x1)
def laws_heldIntSS.f (k : Nat) (l0 : List (List Int)) (a1 : Int) : Option (Int) := laws_heldIntSS.l0 k l0 a1 0
theorem laws_heldIntSS.mono_l : ∀ k, (∀ y0 y1 y2, LeO (laws_heldIntSS.l0 k y0 y1 y2) (laws_heldIntSS.l0 (k + 1) y0 y1 y2))
  | 0 => fun _ _ _ r h => by simp [laws_heldIntSS.l0] at h
  | k + 1 => by
    have ih0 := laws_heldIntSS.mono_l k
    · intro y0 y1 y2
      unfold laws_heldIntSS.l0
      repeat' first
      | (with_reducible exact ih0 _ _ _)
      | (with_reducible exact laws_heldIntS.mono _ _ _)
      | (with_reducible exact LeO.refl _)
      | (with_reducible exact LeO.none _)
      | (with_reducible refine LeO.ite ?_ ?_)
      | (with_reducible refine LeO.bind ?_ (fun _ => ?_))
      | exact ih0 _ _ _
      | exact laws_heldIntS.mono _ _ _
      | exact LeO.none _
      | refine LeO.ite ?_ ?_
      | refine LeO.bind ?_ (fun _ => ?_)
theorem laws_heldIntSS.mono : ∀ a0 a1 k, LeO (laws_heldIntSS.f k a0 a1) (laws_heldIntSS.f (k + 1) a0 a1) := by
  intro a0 a1 k
  have ih0 := laws_heldIntSS.mono_l k
  unfold laws_heldIntSS.f
  repeat' first
      | (with_reducible exact ih0 _ _ _)
      | (with_reducible exact laws_heldIntS.mono _ _ _)
      | (with_reducible exact LeO.refl _)
      | (with_reducible exact LeO.none _)
      | (with_reducible refine LeO.ite ?_ ?_)
      | (with_reducible refine LeO.bind ?_ (fun _ => ?_))
      | exact ih0 _ _ _
      | exact laws_heldIntS.mono _ _ _
      | exact LeO.none _
      | refine LeO.ite ?_ ?_
      | refine LeO.bind ?_ (fun _ => ?_)
set_option maxHeartbeats 8000000 in
set_option maxRecDepth 100000 in
theorem laws_heldIntSS.calls (k : Nat) (A0 : Option Addr) (c0 : Nat) (l0 : List (List Int)) (a1 : Int) (r : Int) (w : World) (hr0 : Kd.C (Kd.slice 3 (Kd.int .i64)) w A0 l0.length l0) (hc0 : l0.length ≤ c0) (h : laws_heldIntSS.f k l0 a1 = some r) :
    Calls Try.prog 30 #[.slice A0 l0.length c0, .int .i64 a1] w fun e w' => e = .returned (.int .i64 r) ∧ Drawn0 w w' := by
  have HR0 := Aside0.mk hr0
  have HC0 := Aside0.mk hc0
  clear hr0 hc0
  have H : (laws_heldIntSS.l0 k l0 a1 0) = some r := h
  clear h
  have H' := Aside0.mk H
  clear H
  go_enter Try.func30, Try.ntmps30
  go_wp2
  go_loopg [1, 5] k (fun kq v1 v5 w' => ∃ (x1_1 : Int) (x5_1 : Int), v1 = .int .i64 x1_1 ∧ v5 = .int .i64 x5_1 ∧ Aside0 (laws_heldIntSS.l0 kq l0 x1_1 x5_1 = some r) ∧ Aside0 (kq ≤ k) ∧ Drawn0 w w')
  case atStart => exact ⟨(a1), (0), (by first | rfl | (simp; done) | (simp [*]; done)), (by first | rfl | (simp; done) | (simp [*]; done)), H', ⟨Nat.le_refl _⟩, by repeat (first | exact Drawn0.refl _ | apply Drawn0.step)⟩
  case round =>
    clear H'
    try clear p2
    obtain ⟨x1_1, x5_1, rfl, rfl, HA, HK1, ⟨m1, rfl⟩⟩ := hrel
    cases gk with
    | zero => exact absurd HA.out (by simp [laws_heldIntSS.l0])
    | succ k1 =>
      have H := HA.out
      clear HA
      simp only [laws_heldIntSS.l0] at H
      by_cases c3 : x5_1 < (l0.length : Int)
      · rw [if_pos c3] at H
        have c3b0 : decide (x5_1 < (l0.length : Int)) = true := decide_eq_true c3
        clear c3
        by_cases c4 : 0 ≤ x5_1
        · rw [if_pos c4] at H
          have c4b0 : decide (0 ≤ x5_1) = true := decide_eq_true c4
          clear c4
          replace H := Option.bind_eq_some_iff.mp H
          obtain ⟨t418, A50, H⟩ := H
          replace H : (if t418 < 0 then (some (-1)) else (laws_heldIntSS.l0 k1 l0 t418 (wrap64 (x5_1 + 1)))) = some r := H
          have A5 := Aside0.mk A50
          clear A50
          by_cases c6 : t418 < 0
          · rw [if_pos c6] at H
            have c6b0 : decide (t418 < 0) = true := decide_eq_true c6
            clear c6
            obtain rfl := Option.some.inj H
            have p417 : 0 ≤ (x5_1 : Int) := of_decide_eq_true (by first | (with_reducible assumption) | assumption)
            have q417 : x5_1 < (l0.length : Int) := of_decide_eq_true (by first | (with_reducible assumption) | assumption)
            obtain ⟨ad417, A417_0, c417_0, e417, hx417_0, hl417_0, hi417_0⟩ := at_L1 HR0.out x5_1 p417 q417
            cases e417
            have HR417_0 := Aside0.mk hi417_0
            have HC417_0 := Aside0.mk hl417_0
            clear hi417_0 hl417_0
            replace p417 := eq_true p417
            replace q417 := eq_true q417
            go_wp2_with (first | ((with_reducible refine gate_callee (f := 70) rfl ?_); refine goesL_ (some 17) rfl rfl Try.func70 (by kernel_rfl) rfl #[.slice A417_0 (rd_L1 l0 x5_1).length c417_0, .int .i64 x1_1] rfl (by (try simp only [List.map_toArray, List.map_cons, List.map_nil]); first | done | rfl | (simp only [List.length_drop, List.length_take]; rfl)) ?_; (with_reducible refine (laws_heldIntS.calls k1 _ _ (rd_L1 l0 x5_1) x1_1 t418 _ ?side1 ?side2 A5.out).mono ?_); (case side1 => repeat (first | exact HR417_0.out | (with_reducible refine Kd.C_alloc ?_ _) | (with_reducible refine Kd.C_drewN ?_ _) | (with_reducible refine Kd.C_drew ?_))); (case side2 => exact HC417_0.out); rintro e w' ⟨rfl, ⟨nd, rfl⟩⟩; refine ⟨_, rfl, ?_⟩))
            go_ret
            exact ⟨by first | rfl | (simp; done) | (simp [*]; done), by repeat (first | exact Drawn0.refl _ | apply Drawn0.step)⟩
          · rw [if_neg c6] at H
            have c6b0 : decide (t418 < 0) = false := decide_eq_false c6
            clear c6
            have H' := Aside0.mk H
            clear H
            have p417 : 0 ≤ (x5_1 : Int) := of_decide_eq_true (by first | (with_reducible assumption) | assumption)
            have q417 : x5_1 < (l0.length : Int) := of_decide_eq_true (by first | (with_reducible assumption) | assumption)
            obtain ⟨ad417, A417_0, c417_0, e417, hx417_0, hl417_0, hi417_0⟩ := at_L1 HR0.out x5_1 p417 q417
            cases e417
            have HR417_0 := Aside0.mk hi417_0
            have HC417_0 := Aside0.mk hl417_0
            clear hi417_0 hl417_0
            replace p417 := eq_true p417
            replace q417 := eq_true q417
            go_wp2_with (first | ((with_reducible refine gate_callee (f := 70) rfl ?_); refine goesL_ (some 17) rfl rfl Try.func70 (by kernel_rfl) rfl #[.slice A417_0 (rd_L1 l0 x5_1).length c417_0, .int .i64 x1_1] rfl (by (try simp only [List.map_toArray, List.map_cons, List.map_nil]); first | done | rfl | (simp only [List.length_drop, List.length_take]; rfl)) ?_; (with_reducible refine (laws_heldIntS.calls k1 _ _ (rd_L1 l0 x5_1) x1_1 t418 _ ?side1 ?side2 A5.out).mono ?_); (case side1 => repeat (first | exact HR417_0.out | (with_reducible refine Kd.C_alloc ?_ _) | (with_reducible refine Kd.C_drewN ?_ _) | (with_reducible refine Kd.C_drew ?_))); (case side2 => exact HC417_0.out); rintro e w' ⟨rfl, ⟨nd, rfl⟩⟩; refine ⟨_, rfl, ?_⟩))
            go_roundg k1
            case measure => have := HK1.out; omega
            case rel => exact ⟨(t418), (wrap64 (x5_1 + 1)), (by first | rfl | (simp; done) | (simp [*]; done)), (by first | rfl | (simp; done) | (simp [*]; done)), H', ⟨by have := HK1.out; omega⟩, by repeat (first | exact Drawn0.refl _ | apply Drawn0.step)⟩
        · rw [if_neg c4] at H
          exact absurd H (by simp)
      · rw [if_neg c3] at H
        have c3b0 : decide (x5_1 < (l0.length : Int)) = false := decide_eq_false c3
        clear c3
        obtain rfl := Option.some.inj H
        go_wp2
        go_ret
        exact ⟨by first | rfl | (simp; done) | (simp [*]; done), by repeat (first | exact Drawn0.refl _ | apply Drawn0.step)⟩
end Go.Proofs.Ytkfpbblaomgihaa.P

namespace Go.Proofs.Ytkfpbblaomgihaa.Q
open Go.RowKit Go.Proofs.Ytkfpbblaomgihaa.P Go.Proofs.Ytkfpbblaomgihaa.H Go.Proofs.YtkfpbblaomgihaaW.PrintWords
theorem markI_get (l : List Int) (a : Int) {i : Nat} (hi : i < l.length) : (markI l a).getD i 0 = a + i := by
  unfold markI
  rw [List.getD_eq_getElem?_getD, List.getElem?_map, List.getElem?_range hi]
  rfl
theorem heldI_ev (l : List Int) (a : Int) (ha : 0 ≤ a) (hn : a + l.length ≤ 4611686018427387904) : Ev (fun k => laws_heldIntS.f k (markI l a) a) (a + l.length) := by
  have key := down0 (n := l.length) (p := fun i => Ev (fun k => laws_heldIntS.l0 k (markI l a) (a + i) i) (a + l.length)) ?h0 ?hs
  · refine Ev.congr (fun k => ?_) key
    unfold laws_heldIntS.f
    simp
  case h0 =>
    refine Ev.step (f := fun _ => some (a + l.length)) (fun k => ?_) (Ev.now _)
    simp only [laws_heldIntS.l0]
    rw [if_neg (by rw [markI_len]; omega)]
  case hs =>
    intro i hi ih
    refine Ev.step (fun k => ?_) ih
    simp only [laws_heldIntS.l0]
    rw [if_pos (by rw [markI_len]; omega), if_pos (by omega)]
    have e : rd (markI l a) (i : Int) = a + i := by
      unfold rd
      rw [Int.toNat_natCast]
      exact markI_get l a hi
    rw [if_pos e, w64 (by omega) (by omega), w64 (by omega) (by omega), show ((i + 1 : Nat) : Int) = (i : Int) + 1 by omega, ← Int.add_assoc]
theorem total_small {g : List (List Int)} (h : Small g) : total g ≤ 1099511627776 := by
  have : ∀ (xs : List (List Int)), (∀ r ∈ xs, r.length ≤ 1048576) → total xs ≤ xs.length * 1048576 := by
    intro xs
    induction xs with
    | nil => intro _; simp [total]
    | cons x xs ih =>
      intro hx
      have h1 := ih (fun r hr => hx r (by simp [hr]))
      have h2 := hx x (by simp)
      rw [total, List.length_cons, Nat.succ_mul]
      omega
  have h1 := this g h.2
  have h2 := h.1
  have h3 : g.length * 1048576 ≤ 1048576 * 1048576 := Nat.mul_le_mul_right _ h2
  omega
theorem heldSS_ev : ∀ (xs : List (List Int)) (a : Int), 0 ≤ a → a + total xs ≤ 4611686018427387904 → xs.length ≤ 1048576 → Ev (fun k => laws_heldIntSS.f k (markSS xs a) a) (a + total xs) := by
  intro xs a ha hn hx
  have key := down (n := xs.length) (p := fun i => Ev (fun k => laws_heldIntSS.l0 k (markSS xs a) (a + total (xs.take i)) i) (a + total xs)) ?h0 ?hs 0 (Nat.zero_le _)
  · refine Ev.congr (fun k => ?_) key
    unfold laws_heldIntSS.f
    simp [total]
  case h0 =>
    refine Ev.step (f := fun _ => some (a + total xs)) (fun k => ?_) (Ev.now _)
    simp only [laws_heldIntSS.l0]
    rw [if_neg (by rw [markSS_len]; omega), List.take_length]
  case hs =>
    intro i hi ih
    have hts := total_take_succ xs i hi
    have htl := total_take_le xs (i + 1)
    have he : rd_L1 (markSS xs a) (i : Int) = markI (xs.getD i []) (a + total (xs.take i)) := by
      show (markSS xs a).getD i [] = _
      rw [List.getD_eq_getElem?_getD, markSS_at xs a i hi]
      rfl
    have h1 := heldI_ev (xs.getD i []) (a + total (xs.take i)) (by omega) (by omega)
    refine Ev.step (fun k => ?_) (h1.bind (f := fun k v => if v < 0 then some (-1) else laws_heldIntSS.l0 k (markSS xs a) v (wrap64 ((i : Int) + 1))) ?_)
    · simp only [laws_heldIntSS.l0]
      rw [if_pos (by rw [markSS_len]; omega), if_pos (by omega), he]
    · refine Ev.congr (fun k => by rw [if_neg (by omega), w64 (by omega) (by omega)]) ?_
      rw [hts] at ih
      refine Ev.congr (fun k => ?_) ih
      congr 1
      push_cast
      omega
end Go.Proofs.Ytkfpbblaomgihaa.Q

namespace Go.Proofs.Ytkfpbblaomgihaa.P
open Go.RowKit Go.Proofs.YtkfpbblaomgihaaW.PrintWords Go.Proofs.YtkfpbblaomgihaaW.PrintLast Go.Proofs.YtkfpbblaomgihaaW.PrintMore
attribute [local go_sem] max2_int min2_int max_two min_two max_three min_three max_four min_four
mutual
def spec_l12Live.l0 : Nat → List (List Int) → List (List Int) → List (S56) → Option ((List (List Int)))
  | 0, _, _, _ => none
  | k + 1, x3, x400000, x400001 => spec_l12Live.l1 k x3 false (x400001.length : Int) 0 x400000 x400001
def spec_l12Live.l1 : Nat → List (List Int) → Bool → Int → Int → List (List Int) → List (S56) → Option ((List (List Int)))
  | 0, _, _, _, _, _, _ => none
  | k + 1, x3, x4, x13, x14, x400000, x400001 => if x14 < x13 then ((spec_l12In.f k x400000 x400001 x3 x14).bind fun t403 => (if x4 = true then (if 0 ≤ x14 then (if x14 < (x3.length : Int) then (spec_l12Live.l1 k (x3.set (x14 : Int).toNat t403) true x13 (wrap64 (x14 + 1)) x400000 x400001) else (none)) else (none)) else (if 0 ≤ x14 then (if x14 < (x3.length : Int) then ((spec_l12Same.f k t403 (rd_L1 x3 x14)).bind fun t408 => (spec_l12Live.l1 k (x3.set (x14 : Int).toNat t403) (!t408) x13 (wrap64 (x14 + 1)) x400000 x400001)) else (none)) else (none)))) else (if x4 = true then (spec_l12Live.l0 k x3 x400000 x400001) else (some x3))
end
def spec_l12Live.f (k : Nat) (l0_0 : List (List Int)) (l0_1 : List (S56)) : Option ((List (List Int))) := if 0 ≤ (l0_1.length : Int) then (if ((l0_1.length : Int) : Int).toNat ≤ 11728124029610 then (spec_l12Live.l0 k (List.replicate ((l0_1.length : Int) : Int).toNat []) l0_0 l0_1) else (none)) else (none)
theorem spec_l12Live.mono_l : ∀ k, (∀ y0 y1 y2, LeO (spec_l12Live.l0 k y0 y1 y2) (spec_l12Live.l0 (k + 1) y0 y1 y2)) ∧ (∀ y0 y1 y2 y3 y4 y5, LeO (spec_l12Live.l1 k y0 y1 y2 y3 y4 y5) (spec_l12Live.l1 (k + 1) y0 y1 y2 y3 y4 y5))
  | 0 => ⟨fun _ _ _ r h => by simp [spec_l12Live.l0] at h, fun _ _ _ _ _ _ r h => by simp [spec_l12Live.l1] at h⟩
  | k + 1 => by
    obtain ⟨ih0, ih1⟩ := spec_l12Live.mono_l k
    refine ⟨?_, ?_⟩
    · intro y0 y1 y2
      unfold spec_l12Live.l0
      repeat' first
      | (with_reducible exact ih0 _ _ _)
      | (with_reducible exact ih1 _ _ _ _ _ _)
      | (with_reducible exact spec_l12In.mono _ _ _ _ _)
      | (with_reducible exact spec_l12Same.mono _ _ _)
      | (with_reducible exact LeO.refl _)
      | (with_reducible exact LeO.none _)
      | (with_reducible refine LeO.ite ?_ ?_)
      | (with_reducible refine LeO.bind ?_ (fun _ => ?_))
      | exact ih0 _ _ _
      | exact ih1 _ _ _ _ _ _
      | exact spec_l12In.mono _ _ _ _ _
      | exact spec_l12Same.mono _ _ _
      | exact LeO.none _
      | refine LeO.ite ?_ ?_
      | refine LeO.bind ?_ (fun _ => ?_)
    · intro y0 y1 y2 y3 y4 y5
      unfold spec_l12Live.l1
      repeat' first
      | (with_reducible exact ih0 _ _ _)
      | (with_reducible exact ih1 _ _ _ _ _ _)
      | (with_reducible exact spec_l12In.mono _ _ _ _ _)
      | (with_reducible exact spec_l12Same.mono _ _ _)
      | (with_reducible exact LeO.refl _)
      | (with_reducible exact LeO.none _)
      | (with_reducible refine LeO.ite ?_ ?_)
      | (with_reducible refine LeO.bind ?_ (fun _ => ?_))
      | exact ih0 _ _ _
      | exact ih1 _ _ _ _ _ _
      | exact spec_l12In.mono _ _ _ _ _
      | exact spec_l12Same.mono _ _ _
      | exact LeO.none _
      | refine LeO.ite ?_ ?_
      | refine LeO.bind ?_ (fun _ => ?_)
theorem spec_l12Live.mono : ∀ a0 a1 k, LeO (spec_l12Live.f k a0 a1) (spec_l12Live.f (k + 1) a0 a1) := by
  intro a0 a1 k
  obtain ⟨ih0, ih1⟩ := spec_l12Live.mono_l k
  unfold spec_l12Live.f
  repeat' first
      | (with_reducible exact ih0 _ _ _)
      | (with_reducible exact ih1 _ _ _ _ _ _)
      | (with_reducible exact spec_l12In.mono _ _ _ _ _)
      | (with_reducible exact spec_l12Same.mono _ _ _)
      | (with_reducible exact LeO.refl _)
      | (with_reducible exact LeO.none _)
      | (with_reducible refine LeO.ite ?_ ?_)
      | (with_reducible refine LeO.bind ?_ (fun _ => ?_))
      | exact ih0 _ _ _
      | exact ih1 _ _ _ _ _ _
      | exact spec_l12In.mono _ _ _ _ _
      | exact spec_l12Same.mono _ _ _
      | exact LeO.none _
      | refine LeO.ite ?_ ?_
      | refine LeO.bind ?_ (fun _ => ?_)
set_option maxHeartbeats 8000000 in
set_option maxRecDepth 100000 in
theorem spec_l12Live.calls (k : Nat) (A0_0 : Option Addr) (c0_0 : Nat) (l0_0 : List (List Int)) (A0_1 : Option Addr) (c0_1 : Nat) (l0_1 : List (S56)) (r : List (List Int)) (w : World) (hr0_0 : Kd.C (Kd.slice 3 (Kd.int .i64)) w A0_0 l0_0.length l0_0) (hc0_0 : l0_0.length ≤ c0_0) (hr0_1 : Kd.C k56 w A0_1 l0_1.length l0_1) (hc0_1 : l0_1.length ≤ c0_1) (h : spec_l12Live.f k l0_0 l0_1 = some r) :
    Calls Try.prog 64 #[.agg #[.slice A0_0 l0_0.length c0_0, .slice A0_1 l0_1.length c0_1]] w fun e w' => ∃ v0_ : Value, e = .returned (v0_) ∧ Kd.S (Kd.slice 3 (Kd.int .i64)) 37 w' w.heap.size (fun _ => True) v0_ r ∧ Below w.heap.size w w' := by
  have HR0 := Aside0.mk hr0_0
  have HC0 := Aside0.mk hc0_0
  have HR1 := Aside0.mk hr0_1
  have HC1 := Aside0.mk hc0_1
  clear hr0_0 hc0_0 hr0_1 hc0_1
  have HO := Aside0.mk (H.Own.nil w)
  unfold spec_l12Live.f at h
  rw [if_pos (by omega), Int.toNat_natCast] at h
  by_cases hbig : l0_1.length ≤ 11728124029610
  case neg => rw [if_neg hbig] at h; exact absurd h (by simp)
  rw [if_pos hbig] at h
  have HL := Aside0.mk h
  clear h
  go_enter Try.func64, Try.ntmps64
  go_wp2_with (first | ((with_reducible refine gate_dst (N := 1) rfl ?_); refine H.own_box HO.out ?hg (N := 1) ?hd (cs := #[Value.slice A0_0 l0_0.length c0_0, Value.slice A0_1 l0_1.length c0_1]) (t := 33) ?hr ?_; (case hd => rfl); (case hg => rfl); (case hr => first | (go_simp; done) | (go_simp; rfl)); intro gb w_ ho_ hb_; have hx1 := ho_.cell 0 rfl 1; replace HO := Aside0.mk ho_; clear ho_ hb_) | ((with_reducible refine gate_dst (N := 10) rfl ?_); refine Kd.S_make (Kd.slice 3 (Kd.int .i64)) (w0 := w) w.heap.size 37 rfl (N := 10) rfl 22 _ _ rfl (l0_1.length : Int) rfl rfl Try.underlying22 (.slice none 0 0) 24 info37 rfl (by decide) (by omega) [] (ok := fun _ => True) (okp := fun _ => True) ⟨_, rfl, Kd.R_nil _ _ _ _ _⟩ (fun _ hk => hk) trivial (by omega) (by simp only [Int.toNat_natCast]; omega) HO.out.below HO.out.size ?_; intro vs w_ ho_ hb_ hg_ hnew_; clear hx1; replace HO := Aside0.mk (HO.out.grown hg_ (fun k hk => by cases hk)); have HS := Aside0.mk ho_; clear ho_ hb_ hg_ hnew_))
  rw [Int.toNat_natCast] at HS
  obtain ⟨A, c, rfl⟩ := Kd.S_slice HS.out
  rw [List.length_replicate] at HS ⊢
  go_loopg [] k (fun kq wr => ∃ x3 : List (List Int), Aside0 (spec_l12Live.l0 kq x3 l0_0 l0_1 = some r) ∧ Aside0 (kq ≤ k) ∧ Aside0 (Kd.S (Kd.slice 3 (Kd.int .i64)) 37 wr w.heap.size (fun _ => True) (.slice A l0_1.length c) x3) ∧ Aside0 (H.Own w wr [(gb, #[Value.slice A0_0 l0_0.length c0_0, Value.slice A0_1 l0_1.length c0_1], 33)]))
  case atStart => exact ⟨_, HL, ⟨Nat.le_refl _⟩, HS, HO⟩
  case round =>
    clear HO HS HL
    obtain ⟨x3, HA, HK, HS, HO⟩ := hrel
    cases gk with
    | zero => exact absurd HA.out (by simp [spec_l12Live.l0])
    | succ k1 =>
      have hA := HA.out
      simp only [spec_l12Live.l0] at hA
      have HA' := Aside0.mk hA
      clear HA hA
      have hx1 := HO.out.cell 0 rfl 1
      go_wp2
      go_loopg [4, 14] k1 (fun kq v4 v14 wr => ∃ (x3 : List (List Int)) (x4 : Bool) (x14 : Int), v4 = .bool x4 ∧ v14 = .int .i64 x14 ∧ Aside0 (spec_l12Live.l1 kq x3 x4 (l0_1.length : Int) x14 l0_0 l0_1 = some r) ∧ Aside0 (kq ≤ k1) ∧ Aside0 (Kd.S (Kd.slice 3 (Kd.int .i64)) 37 wr w.heap.size (fun _ => True) (.slice A l0_1.length c) x3) ∧ Aside0 (H.Own w wr [(gb, #[Value.slice A0_0 l0_0.length c0_0, Value.slice A0_1 l0_1.length c0_1], 33)]))
      case atStart => exact ⟨x3, false, 0, rfl, rfl, HA', ⟨Nat.le_refl _⟩, HS, HO⟩
      case round =>
        clear HO HS HA' hx1
        obtain ⟨x3, x4, x14, rfl, rfl, HA, HK2, HS, HO⟩ := hrel
        cases gk with
        | zero => exact absurd HA.out (by simp [spec_l12Live.l1])
        | succ k2 =>
          have hA := HA.out
          simp only [spec_l12Live.l1] at hA
          clear HA
          have hxl := (Kd.S_reads' HS.out).1
          by_cases hlt : x14 < (l0_1.length : Int)
          · rw [if_pos hlt] at hA
            obtain ⟨t, ht, hA⟩ := Option.bind_eq_some_iff.mp hA
            have HT := Aside0.mk ht
            clear ht
            cases x4 with
            | true =>
              rw [if_pos rfl] at hA
              by_cases h0 : 0 ≤ x14
              case neg => rw [if_neg h0] at hA; exact absurd hA (by simp)
              rw [if_pos h0] at hA
              rw [if_pos (by omega)] at hA
              obtain ⟨i, rfl⟩ : ∃ i : Nat, x14 = (i : Int) := ⟨x14.toNat, by omega⟩
              rw [H.w64 (by omega) (by omega), Int.toNat_natCast] at hA
              have HA := Aside0.mk hA
              have HXL := Aside0.mk hxl
              have hil : i < l0_1.length := by omega
              have HI := Aside0.mk hil
              clear hA hxl hil
              obtain ⟨g, cap, e, _, _, _⟩ := Kd.S_form HS.out (by have := HXL.out; have := HI.out; omega)
              injection e with e1 e2 e3
              subst e1 e3
              clear e2
              go_wp2_with (first | ((with_reducible refine gate_dst (N := 17) rfl ?_); refine wpList_load_row rfl 33 (.tmp 1) rfl _ rfl 33 _ (0, 0) _ (HO.out.get 0 rfl) Try.underlying33 rfl (by kernel_rfl) ?_) | (go_at_call 61; refine (calls_of_args (by rw [HXL.out]) (spec_l12In.calls k2 A0_0 c0_0 l0_0 A0_1 c0_1 l0_1 (some ⟨g, 0, none⟩) c x3 (i : Int) t _ (Kd.C_below HR0.out HO.out.below) HC0.out (Kd.C_below HR1.out HO.out.below) HC1.out (by have := (Kd.S_reads' HS.out).2.2; exact this) (by have := (Kd.S_reads' HS.out).2.1; have := HXL.out; omega) HT.out)).mono ?_; rintro e w' ⟨v0, rfl, hv, hb⟩; have HV := Aside0.mk (Kd.R_lower hv HO.out.size); replace HS := Aside0.mk (Kd.S_mono (ok' := fun k => some k ≠ v0.ownBlock) (Kd.S_elder' HS.out (Kd.R_base hv) hb) (fun _ hk => hk.2)); replace HO := Aside0.mk (HO.out.step hb); clear hv hb) | ((with_reducible refine gate_store (t := 37) (p := 34) rfl ?_); refine H.own_rowput HO.out HS.out HV.out (Nat.le_refl _) rfl rfl rfl rfl rfl (by kernel_rfl) HI.out (by simp) ?_; intro w_ ho_ hs_ hg_; replace HO := Aside0.mk ho_; replace HS := Aside0.mk hs_; clear HV ho_ hs_ hg_))
              go_roundg k2
              case measure => have := HK.out; have := HK2.out; omega
              case rel => exact ⟨_, true, (i : Int) + 1, rfl, by go_num, HA, ⟨by have := HK2.out; omega⟩, HS, HO⟩
            | false =>
              rw [if_neg (by simp)] at hA
              by_cases h0 : 0 ≤ x14
              case neg => rw [if_neg h0] at hA; exact absurd hA (by simp)
              rw [if_pos h0] at hA
              rw [if_pos (by omega)] at hA
              obtain ⟨q, hq, hA⟩ := Option.bind_eq_some_iff.mp hA
              obtain ⟨i, rfl⟩ : ∃ i : Nat, x14 = (i : Int) := ⟨x14.toNat, by omega⟩
              rw [H.w64 (by omega) (by omega), Int.toNat_natCast] at hA
              have HQ := Aside0.mk (show spec_l12Same.f k2 t (x3.getD i []) = some q from hq)
              have HA := Aside0.mk hA
              have HXL := Aside0.mk hxl
              have hil : i < l0_1.length := by omega
              have HI := Aside0.mk hil
              clear hA hxl hil hq
              obtain ⟨g, cap, e, _, _, _⟩ := Kd.S_form HS.out (by have := HXL.out; have := HI.out; omega)
              injection e with e1 e2 e3
              subst e1 e3
              clear e2
              go_wp2_with (first | ((with_reducible refine gate_dst (N := 17) rfl ?_); refine wpList_load_row rfl 33 (.tmp 1) rfl _ rfl 33 _ (0, 0) _ (HO.out.get 0 rfl) Try.underlying33 rfl (by kernel_rfl) ?_) | (go_at_call 61; refine (calls_of_args (by rw [HXL.out]) (spec_l12In.calls k2 A0_0 c0_0 l0_0 A0_1 c0_1 l0_1 (some ⟨g, 0, none⟩) c x3 (i : Int) t _ (Kd.C_below HR0.out HO.out.below) HC0.out (Kd.C_below HR1.out HO.out.below) HC1.out (by have := (Kd.S_reads' HS.out).2.2; exact this) (by have := (Kd.S_reads' HS.out).2.1; have := HXL.out; omega) HT.out)).mono ?_; rintro e w' ⟨v0, rfl, hv, hb⟩; obtain ⟨Av, cv, rfl⟩ := Kd.R_slice hv; have HV := Aside0.mk (Kd.R_lower hv HO.out.size); replace HS := Aside0.mk (Kd.S_mono (ok' := fun k => some k ≠ (Value.slice Av t.length cv).ownBlock) (Kd.S_elder' HS.out (Kd.R_base hv) hb) (fun _ hk => hk.2)); replace HO := Aside0.mk (HO.out.step hb); obtain ⟨Au, cu, hxu, hcu, hCu⟩ := H.S_at HS.out HI.out; have HCU := Aside0.mk hcu; have HCC := Aside0.mk hCu; clear hv hb hcu hCu) | (go_at_call 60; refine (spec_l12Same.calls k2 _ _ t Au cu (x3.getD i []) q _ (Kd.R_reads' HV.out).2.2 (Kd.R_reads' HV.out).2.1 HCC.out HCU.out HQ.out).mono ?_; rintro e w2 ⟨rfl, hd⟩; replace HV := Aside0.mk (Kd.R_below HV.out hd.below); replace HS := Aside0.mk (Kd.S_below HS.out hd.below); replace HO := Aside0.mk (HO.out.step hd.below); clear hd hxu HCC) | ((with_reducible refine gate_store (t := 37) (p := 34) rfl ?_); refine H.own_rowput HO.out HS.out HV.out (Nat.le_refl _) rfl rfl rfl rfl rfl (by kernel_rfl) HI.out (by simp) ?_; intro w_ ho_ hs_ hg_; replace HO := Aside0.mk ho_; replace HS := Aside0.mk hs_; clear HV ho_ hs_ hg_))
              go_roundg k2
              case measure => have := HK.out; have := HK2.out; omega
              case rel => exact ⟨_, !q, (i : Int) + 1, by first | rfl | simp, by go_num, HA, ⟨by have := HK2.out; omega⟩, HS, HO⟩
          · rw [if_neg hlt] at hA
            clear hxl
            cases x4 with
            | true =>
              rw [if_pos rfl] at hA
              have HA := Aside0.mk hA
              clear hA
              go_wp2
              go_roundg k2
              case measure => have := HK.out; have := HK2.out; omega
              case rel => exact ⟨x3, HA, ⟨by have := HK.out; have := HK2.out; omega⟩, HS, HO⟩
            | false =>
              rw [if_neg (by simp)] at hA
              obtain rfl := Option.some.inj hA
              go_wp2
              go_ret
              exact ⟨_, rfl, HS.out, HO.out.below⟩
end Go.Proofs.Ytkfpbblaomgihaa.P
