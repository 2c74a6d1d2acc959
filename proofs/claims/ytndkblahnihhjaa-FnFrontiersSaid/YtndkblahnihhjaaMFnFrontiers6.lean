import Derived.Test.YtndkblahnihhjaaMFnFrontiers1
import Derived.Test.YtndkblahnihhjaaMFnFrontiers2
import Derived.Test.YtndkblahnihhjaaMFnFrontiers3
import Derived.Test.YtndkblahnihhjaaMFnFrontiers4
import Derived.Test.YtndkblahnihhjaaMFnFrontiers5
set_option linter.unusedVariables false
set_option linter.unusedSimpArgs false
set_option linter.unusedSectionVars false
namespace Go.Proofs.Ytndkblahnihhjaa.P
open Go.RowKit Go.Proofs.YtndkblahnihhjaaW.PrintWords Go.Proofs.YtndkblahnihhjaaW.PrintLast Go.Proofs.YtndkblahnihhjaaW.PrintMore
attribute [local go_sem] max2_int min2_int max_two min_two max_three min_three max_four min_four
def spec_l1Cur_someBlocks.l0 : Nat → Bool → Bool → List Int → List Int → Int → Int → List Int → Int → Int → Option (List Int × Int × Int)
  | 0, _, _, _, _, _, _, _, _, _ => none
  | k + 1, x2, x8, x9, x17, x18, x19, x1000, x1001, x1002 => if x19 < x18 then (if 0 ≤ x19 then (if x19 < (x17.length : Int) then ((spec_l1Cur_one.f x1000 x1001 x1002 3).bind fun bt268 => (if bt268.1 = true then (if x9.length < 17592186044416 then (spec_l1Cur_someBlocks.l0 k x2 x8 (x9 ++ [rd x17 x19]) x17 x18 (wrap64 (x19 + 1)) x1000 bt268.2.1 bt268.2.2) else (none)) else (if x2 = true then (if (rd x17 x19) = 0 then (if x9.length < 17592186044416 then (spec_l1Cur_someBlocks.l0 k x2 x8 (x9 ++ [rd x17 x19]) x17 x18 (wrap64 (x19 + 1)) x1000 bt268.2.1 bt268.2.2) else (none)) else (spec_l1Cur_someBlocks.l0 k x2 x8 x9 x17 x18 (wrap64 (x19 + 1)) x1000 bt268.2.1 bt268.2.2)) else (spec_l1Cur_someBlocks.l0 k x2 x8 x9 x17 x18 (wrap64 (x19 + 1)) x1000 bt268.2.1 bt268.2.2)))) else (none)) else (none)) else (if x8 = true then ((spec_l1Cur_one.f x1000 x1001 x1002 30).bind fun bt277 => (if bt277.1 = true then ((spec_l1Cur_pick.f x1000 bt277.2.1 bt277.2.2 14).bind fun bt280 => (if x9.length < 17592186044416 then (some ((x9 ++ [bt280.1]), bt280.2.1, bt280.2.2)) else (none))) else (some (x9, bt277.2.1, bt277.2.2)))) else ((spec_l1Cur_pick.f x1000 x1001 x1002 14).bind fun bt286 => (if x9.length < 17592186044416 then (some ((x9 ++ [bt286.1]), bt286.2.1, bt286.2.2)) else (none))))
def spec_l1Cur_someBlocks.f (k : Nat) (s0_0 : List Int) (s0_1 : Int) (s0_2 : Int) (l1_0 : List (List Int)) (a2 : Bool) : Option (List Int × Int × Int) := (spec_ReachedOf.f k l1_0).bind fun bt263 => (spec_l1Cur_someBlocks.l0 k a2 bt263.2 ([] : List Int) bt263.1 (bt263.1.length : Int) 0 s0_0 s0_1 s0_2)
set_option maxHeartbeats 8000000 in
set_option maxRecDepth 100000 in
theorem spec_l1Cur_someBlocks.calls (k : Nat) (g : Nat) (s0_0 : List Int) (s0_1 : Int) (s0_2 : Int) (A1_0 : Option Addr) (c1_0 : Nat) (l1_0 : List (List Int)) (a2 : Bool) (r1 : List Int) (r2 : Int) (r3 : Int) (w0 w : World) (hI : IsS74 w0 w g s0_0 s0_1 s0_2) (hB : Below w0.heap.size w0 w) (hr1_0 : ∀ W_, KeepBut w W_ g none → Kd.C (Kd.slice 3 (Kd.int .i64)) W_ A1_0 l1_0.length l1_0) (hc1_0 : l1_0.length ≤ c1_0) (h : spec_l1Cur_someBlocks.f k s0_0 s0_1 s0_2 l1_0 a2 = some (r1, r2, r3)) :
    Calls Try.prog 57 #[.pointer (some ⟨g, 0, none⟩), .agg #[.slice A1_0 l1_0.length c1_0], .bool a2] w fun e w' => ∃ v0_ : Value, e = .returned (v0_) ∧ Kd.R (Kd.int .i64) 3 w' w.heap.size (fun _ => True) v0_ r1 ∧ IsS74 w0 w' g s0_0 r2 r3 ∧ Below w0.heap.size w0 w' ∧ KeepBut w w' g none := by
  have hu28 := Try.underlying28
  have HR1_0 := Aside0.mk hr1_0
  have HC1_0 := Aside0.mk hc1_0
  clear hr1_0 hc1_0
  have HI0 := Aside0.mk hI
  have HK := Aside0.mk (KeepBut.refl w g none)
  have HL := Aside0.mk hB.size
  clear hI
  have HW0 := Aside0.mk hB.size
  have HB := Aside0.mk hB
  clear hB
  have H : ((spec_ReachedOf.f k l1_0).bind fun bt263 => (spec_l1Cur_someBlocks.l0 k a2 bt263.2 ([] : List Int) bt263.1 (bt263.1.length : Int) 0 s0_0 s0_1 s0_2)) = some (r1, r2, r3) := h
  clear h
  replace H := Option.bind_eq_some_iff.mp H
  obtain ⟨⟨t263, t266⟩, A40, H⟩ := H
  replace H : (spec_l1Cur_someBlocks.l0 k a2 t266 ([] : List Int) t263 (t263.length : Int) 0 s0_0 s0_1 s0_2) = some (r1, r2, r3) := H
  have A4 := Aside0.mk A40
  clear A40
  have H' := Aside0.mk H
  clear H
  go_enter Try.func57, Try.ntmps57
  go_wp2_with (first | ((with_reducible refine gate_dst (N := 4) rfl ?_); refine box_event ?hg (N := 4) ?hd (cs := #[.slice A1_0 l1_0.length c1_0]) (t := 28) ?hr ?_; (case hd => rfl); (case hg => rfl); (case hr => first | (go_simp; done) | (go_simp; rfl)); intro gb262 hg w5 hbox hb; have n0_ := Aside0.mk (IsS74.below (by repeat (first | (with_reducible first | exact HI0.out | apply IsS74.alloc | apply IsS74.drewN | apply IsS74.drew | apply IsS74.set_1 | apply IsS74.set_2) | exact HI0.out)) hb); have n1_ := Aside0.mk (KeepBut.trans (by repeat (first | (with_reducible first | exact HK.out | apply KeepBut.set_ | apply keep_drewN | apply keep_drew | apply keep_alloc) | exact HK.out)) (KeepBut.of_below hb g none) (.inl rfl)); have n2_ := Aside0.mk (below_step (by repeat (first | (with_reducible first | exact HB.out | apply below_alloc | apply pw_below_drewN | apply below_drew1 | refine below_set ?_ (IsS74.ge HI0.out)) | exact HB.out)) hb); have n3_ := Aside0.mk (hbox); have n4_ := Aside0.mk ((by rw [hg]; exact (keep_size (w := w) (g := g) (row := none) (by repeat (first | (with_reducible first | exact HK.out | apply KeepBut.set_ | apply keep_drewN | apply keep_drew | apply keep_alloc) | exact HK.out))) : w.heap.size ≤ gb262)); have n5_ := Aside0.mk ((Nat.le_trans HW0.out (by rw [hg]; exact (keep_size (w := w) (g := g) (row := none) (by repeat (first | (with_reducible first | exact HK.out | apply KeepBut.set_ | apply keep_drewN | apply keep_drew | apply keep_alloc) | exact HK.out))) : w.heap.size ≤ gb262) : w0.heap.size ≤ gb262)); have n6_ := Aside0.mk ((by rw [hg]; exact Nat.ne_of_lt (IsS74.lt (show IsS74 w0 _ g s0_0 s0_1 s0_2 from by repeat (first | (with_reducible first | exact HI0.out | apply IsS74.alloc | apply IsS74.drewN | apply IsS74.drew | apply IsS74.set_1 | apply IsS74.set_2) | exact HI0.out))) : g ≠ gb262)); have n7_ := Aside0.mk ((by rw [hg]; exact Nat.ne_of_gt (IsS74.lt (show IsS74 w0 _ g s0_0 s0_1 s0_2 from by repeat (first | (with_reducible first | exact HI0.out | apply IsS74.alloc | apply IsS74.drewN | apply IsS74.drew | apply IsS74.set_1 | apply IsS74.set_2) | exact HI0.out))) : gb262 ≠ g)); clear HI0; clear HK; clear HB; have HI0 := n0_; have HK := n1_; have HB := n2_; have BK262 := n3_; have GW262 := n4_; have GE262 := n5_; have NB0_262 := n6_; have NB262_0 := n7_; clear n0_ n1_ n2_ n3_ n4_ n5_ n6_ n7_; clear hb hbox hg; have hnb6 := NB262_0.out; have hnc6 := NB0_262.out; have hcz7_0 : w5.cell? ⟨gb262, 0, none⟩ = some (.slice A1_0 l1_0.length c1_0) := (blk_cell BK262.out 0).trans rfl; have hfz7_0 := blk_frozen BK262.out 0) | ((with_reducible refine gate_callee (f := 74) rfl ?_); refine goesL_ (some 14) rfl rfl Try.func74 (by kernel_rfl) rfl #[.agg #[.slice A1_0 l1_0.length c1_0]] rfl (by (try simp only [List.map_toArray, List.map_cons, List.map_nil]); first | done | rfl | (simp only [List.length_drop, List.length_take]; rfl)) ?_; (with_reducible refine (spec_ReachedOf.calls k _ _ l1_0 t263 t266 _ ?side1 ?side2 A4.out).mono ?_); (case side1 => exact Kd.C_foot_now HR1_0.out (by repeat (first | (with_reducible first | exact HK.out | apply KeepBut.set_ | apply keep_drewN | apply keep_drew | apply keep_alloc | refine keep_far ?_ GW262.out _) | exact HK.out))); (case side2 => exact HC1_0.out); rintro e w8 ⟨v264, rfl, ho0, hb⟩; refine ⟨_, rfl, ?_⟩; have n0_ := Aside0.mk (Kd.R_lower ho0 (keep_size (w := w) (g := g) (row := none) (by repeat (first | (with_reducible first | exact HK.out | apply KeepBut.set_ | apply keep_drewN | apply keep_drew | apply keep_alloc | refine keep_far ?_ GW262.out _) | exact HK.out)))); have n1_ := Aside0.mk (IsS74.below (by repeat (first | (with_reducible first | exact HI0.out | apply IsS74.alloc | apply IsS74.drewN | apply IsS74.drew | apply IsS74.set_1 | apply IsS74.set_2 | refine IsS74.far ?_ NB0_262.out _) | exact HI0.out)) hb); have n2_ := Aside0.mk (blk_below (g := gb262) (o := .cells #[.slice A1_0 l1_0.length c1_0] 28 (0, 0)) (by (with_reducible repeat (first | refine blk_drewN ?_ _ | refine blk_drew ?_ | refine blk_alloc ?_ _)); exact BK262.out) hb); have n3_ := Aside0.mk (KeepBut.trans (by repeat (first | (with_reducible first | exact HK.out | apply KeepBut.set_ | apply keep_drewN | apply keep_drew | apply keep_alloc | refine keep_far ?_ GW262.out _) | exact HK.out)) (KeepBut.of_below hb g none) (.inl rfl)); have n4_ := Aside0.mk (below_step (by repeat (first | (with_reducible first | exact HB.out | apply below_alloc | apply pw_below_drewN | apply below_drew1 | refine below_set ?_ (IsS74.ge HI0.out) | refine below_set ?_ GE262.out) | exact HB.out)) hb); clear HI0; clear BK262; clear HK; clear HB; have HO265 := n0_; have HI0 := n1_; have BK262 := n2_; have HK := n3_; have HB := n4_; clear n0_ n1_ n2_ n3_ n4_; (try clear hb); (try clear hb2); (try clear hk); (try clear hi); (try clear ho0); obtain ⟨Ao9, co9, eo9⟩ := Kd.R_slice HO265.out; subst eo9))
  go_loopg [9, 19] k (fun kq v9 v19 w' => ∃ (x9_1 : List Int) (x19_1 : Int) (x1001_1 : Int) (x1002_1 : Int), v19 = .int .i64 x19_1 ∧ Aside0 (spec_l1Cur_someBlocks.l0 kq a2 t266 x9_1 t263 (t263.length : Int) x19_1 s0_0 x1001_1 x1002_1 = some (r1, r2, r3)) ∧ Aside0 (kq ≤ k) ∧ Aside0 (Kd.R (Kd.int .i64) 3 w' w.heap.size (fun k_ => some k_ ≠ ((.slice Ao9 t263.length co9) : Value).ownBlock) v9 x9_1) ∧ Aside0 (Kd.R (Kd.int .i64) 3 w' w.heap.size (fun k_ => some k_ ≠ (v9 : Value).ownBlock) (.slice Ao9 t263.length co9) t263) ∧ Aside0 (w'.heap[gb262]? = some (.cells #[(.slice A1_0 l1_0.length c1_0)] 28 (0, 0))) ∧ Aside0 (IsS74 w0 w' g s0_0 x1001_1 x1002_1) ∧ Aside0 (KeepBut w w' g none) ∧ Aside0 (Below w0.heap.size w0 w'))
  case atStart => exact ⟨(([] : List Int)), (0), (s0_1), (s0_2), (by first | rfl | (simp; done) | (simp [*]; done)), H', ⟨Nat.le_refl _⟩, ⟨by first | exact Kd.R_nil _ _ _ _ _ | exact Kd.N_nil _ _ _ _ _ | exact Kd.V_nil _ _ _ _ _ | exact Kd.Q_nil _ _ _ _ _ | exact Kd.S_nil _ _ _ _ _⟩, ⟨by (with_reducible repeat (first | apply Kd.R_alloc | apply Kd.R_drewN | apply Kd.R_drew)); exact Kd.R_mono HO265.out (fun _ hk => (by simp [Value.ownBlock]))⟩, ⟨by (with_reducible repeat (first | refine blk_drewN ?_ _ | refine blk_drew ?_ | refine blk_alloc ?_ _)); exact BK262.out⟩, ⟨by repeat (first | (with_reducible first | exact HI0.out | apply IsS74.alloc | apply IsS74.drewN | apply IsS74.drew | apply IsS74.set_1 | apply IsS74.set_2 | refine IsS74.far ?_ NB0_262.out _) | exact HI0.out)⟩, ⟨by repeat (first | (with_reducible first | exact HK.out | apply KeepBut.set_ | apply keep_drewN | apply keep_drew | apply keep_alloc | refine keep_far ?_ GW262.out _) | exact HK.out)⟩, ⟨by repeat (first | (with_reducible first | exact HB.out | apply below_alloc | apply pw_below_drewN | apply below_drew1 | refine below_set ?_ (IsS74.ge HI0.out) | refine below_set ?_ GE262.out) | exact HB.out)⟩⟩
  case round =>
    clear H'
    try clear c1
    try clear p2
    try clear c5
    try clear c6
    try clear c7
    try clear hcz7_0
    try clear hfz7_0
    obtain ⟨x9_1, x19_1, x1001_1, x1002_1, rfl, HA, HK1, HO_9, HO_17, BK262, HI0, HK, HB⟩ := hrel
    cases gk with
    | zero => exact absurd HA.out (by simp [spec_l1Cur_someBlocks.l0])
    | succ k1 =>
      have H := HA.out
      clear HA
      simp only [spec_l1Cur_someBlocks.l0] at H
      by_cases c10 : x19_1 < (t263.length : Int)
      · rw [if_pos c10] at H
        have c10b0 : decide (x19_1 < (t263.length : Int)) = true := decide_eq_true c10
        clear c10
        by_cases c11 : 0 ≤ x19_1
        · rw [if_pos c11] at H
          have c11b0 : decide (0 ≤ x19_1) = true := decide_eq_true c11
          clear c11
          by_cases c12 : x19_1 < (t263.length : Int)
          · rw [if_pos c12] at H
            have c12b0 : decide (x19_1 < (t263.length : Int)) = true := decide_eq_true c12
            clear c12
            replace H := Option.bind_eq_some_iff.mp H
            obtain ⟨⟨t268, t269, t270⟩, A130, H⟩ := H
            replace H : (if t268 = true then (if x9_1.length < 17592186044416 then (spec_l1Cur_someBlocks.l0 k1 a2 t266 (x9_1 ++ [rd t263 x19_1]) t263 (t263.length : Int) (wrap64 (x19_1 + 1)) s0_0 t269 t270) else (none)) else (if a2 = true then (if (rd t263 x19_1) = 0 then (if x9_1.length < 17592186044416 then (spec_l1Cur_someBlocks.l0 k1 a2 t266 (x9_1 ++ [rd t263 x19_1]) t263 (t263.length : Int) (wrap64 (x19_1 + 1)) s0_0 t269 t270) else (none)) else (spec_l1Cur_someBlocks.l0 k1 a2 t266 x9_1 t263 (t263.length : Int) (wrap64 (x19_1 + 1)) s0_0 t269 t270)) else (spec_l1Cur_someBlocks.l0 k1 a2 t266 x9_1 t263 (t263.length : Int) (wrap64 (x19_1 + 1)) s0_0 t269 t270))) = some (r1, r2, r3) := H
            have A13 := Aside0.mk A130
            clear A130
            by_cases c14 : t268 = true
            · subst c14
              have H1 : (if x9_1.length < 17592186044416 then (spec_l1Cur_someBlocks.l0 k1 a2 t266 (x9_1 ++ [rd t263 x19_1]) t263 (t263.length : Int) (wrap64 (x19_1 + 1)) s0_0 t269 t270) else (none)) = some (r1, r2, r3) := by rw [if_pos rfl] at H; exact H
              clear H
              have H := H1
              clear H1
              by_cases c15 : x9_1.length < 17592186044416
              · rw [if_pos c15] at H
                have LMc15 := Aside0.mk c15
                clear c15
                obtain ⟨y271, hy271⟩ : ∃ y_ : List Int, y_ = (x9_1 ++ [rd t263 x19_1]) := ⟨_, rfl⟩
                replace H : (spec_l1Cur_someBlocks.l0 k1 a2 t266 y271 t263 (t263.length : Int) (wrap64 (x19_1 + 1)) s0_0 t269 t270) = some (r1, r2, r3) := by first | (rw [hy271]; with_reducible exact H) | (have H2_ := (Option.bind_some _ _).symm.trans H; rw [hy271]; with_reducible exact H2_) | (have H2_ := (Option.bind_some _ _).symm.trans H; with_reducible exact H2_) | with_reducible exact H | (rw [hy271]; exact H) | exact H
                have Ny271 := Aside0.mk hy271
                clear hy271
                have H' := Aside0.mk H
                clear H
                have p267 : 0 ≤ (x19_1 : Int) := of_decide_eq_true (by first | (with_reducible assumption) | assumption)
                have q267 : x19_1 < (t263.length : Int) := of_decide_eq_true (by first | (with_reducible assumption) | assumption)
                obtain ⟨ad267, e267, hx267_0⟩ := Kd.at_int (Kd.R_reads' HO_17.out).2.2 x19_1 p267 q267
                cases e267
                replace p267 := eq_true p267
                replace q267 := eq_true q267
                go_wp2_with (first | ((with_reducible refine gate_callee (f := 58) rfl ?_); refine goesL_ (some 24) rfl rfl Try.func58 (by kernel_rfl) rfl #[.pointer (some ⟨g, 0, none⟩), .int .i64 3] rfl (by (try simp only [List.map_toArray, List.map_cons, List.map_nil]); first | done | rfl | (simp only [List.length_drop, List.length_take]; rfl)) ?_; (with_reducible refine (spec_l1Cur_one.calls g s0_0 x1001_1 x1002_1 3 true t269 t270 w0 _ ?side1 ?side2 A13.out).mono ?_); (case side1 => repeat (first | (with_reducible first | exact HI0.out | apply IsS74.alloc | apply IsS74.drewN | apply IsS74.drew | apply IsS74.set_1 | apply IsS74.set_2 | refine IsS74.far ?_ NB0_262.out _) | exact HI0.out)); (case side2 => repeat (first | (with_reducible first | exact HB.out | apply below_alloc | apply pw_below_drewN | apply below_drew1 | refine below_set ?_ (IsS74.ge HI0.out) | refine below_set ?_ GE262.out) | exact HB.out)); rintro e w16 ⟨rfl, hi, hb, hk⟩; refine ⟨_, rfl, ?_⟩; have n0_ := Aside0.mk (Kd.R_mono (Kd.R_keep (IsS74.apart (show IsS74 w0 _ g s0_0 x1001_1 x1002_1 from by repeat (first | (with_reducible first | exact HI0.out | apply IsS74.alloc | apply IsS74.drewN | apply IsS74.drew | apply IsS74.set_1 | apply IsS74.set_2 | refine IsS74.far ?_ NB0_262.out _) | exact HI0.out)) (by (with_reducible repeat (first | apply Kd.R_alloc | apply Kd.R_drewN | apply Kd.R_drew)); exact HO_9.out) (by decide)) hk (fun _ h => h.2)) (fun _ h => h.1)); have n1_ := Aside0.mk (Kd.R_mono (Kd.R_keep (IsS74.apart (show IsS74 w0 _ g s0_0 x1001_1 x1002_1 from by repeat (first | (with_reducible first | exact HI0.out | apply IsS74.alloc | apply IsS74.drewN | apply IsS74.drew | apply IsS74.set_1 | apply IsS74.set_2 | refine IsS74.far ?_ NB0_262.out _) | exact HI0.out)) (by (with_reducible repeat (first | apply Kd.R_alloc | apply Kd.R_drewN | apply Kd.R_drew)); exact HO_17.out) (by decide)) hk (fun _ h => h.2)) (fun _ h => h.1)); have n2_ := Aside0.mk (KeepBut.blk hk (g' := gb262) (o := .cells #[.slice A1_0 l1_0.length c1_0] 28 (0, 0)) (by (with_reducible repeat (first | refine blk_drewN ?_ _ | refine blk_drew ?_ | refine blk_alloc ?_ _)); exact BK262.out) NB262_0.out (by simp)); have n3_ := Aside0.mk (KeepBut.trans (by repeat (first | (with_reducible first | exact HK.out | apply KeepBut.set_ | apply keep_drewN | apply keep_drew | apply keep_alloc | refine keep_far ?_ GW262.out _) | exact HK.out)) hk (.inl rfl)); have n4_ := Aside0.mk (hb); have n5_ := Aside0.mk (hi); clear HO_9; clear HO_17; clear BK262; clear HK; clear HB; clear HI0; have HO_9 := n0_; have HO_17 := n1_; have BK262 := n2_; have HK := n3_; have HB := n4_; have HI0 := n5_; clear n0_ n1_ n2_ n3_ n4_ n5_; (try clear hb); (try clear hb2); (try clear hk); (try clear hi)) | ((with_reducible refine gate_builtin (b := .append) (xs := #[.tmp 32, .tmp 34]) rfl ?_); at_builtin; refine Kd.R_append (Kd.int .i64) w.heap.size rfl (.tmp 32) (.tmp 34) 32 3 (.int .i64 0) 8 rfl Try.underlying32 info3 rfl (by decide) (by omega) u9 x9_1 (rd t263 x19_1) [.int .i64 (rd t263 x19_1)] (fun k_ => some k_ ≠ (.slice (some ad267) t263.length co9 : Value).ownBlock) (fun _ => False) rfl rfl ?aP (fun _ hk => hk.elim) ?aF ?aO (Below.refl _ _) ?aS ?aL ?_; (case aP => exact rfl); (case aF => exact (fun k_ hk => Kd.fresh' (Kd.R_lt (by (with_reducible repeat (first | apply Kd.R_alloc | apply Kd.R_drewN | apply Kd.R_drew)); exact HO_17.out)) k_ hk)); (case aO => exact (by (with_reducible repeat (first | apply Kd.R_alloc | apply Kd.R_drewN | apply Kd.R_drew)); exact HO_9.out)); (case aS => exact (keep_size (w := w) (g := g) (row := none) (by repeat (first | (with_reducible first | exact HK.out | apply KeepBut.set_ | apply keep_drewN | apply keep_drew | apply keep_alloc | refine keep_far ?_ GW262.out _) | exact HK.out)))); (case aL => have := LMc15.out; omega); intro v272 w17 ho hb hg hat; rw [← Ny271.out] at ho; have n0_ := Aside0.mk (Kd.R_after (ok := (fun _ => True)) (by (with_reducible repeat (first | apply Kd.R_alloc | apply Kd.R_drewN | apply Kd.R_drew)); exact Kd.R_mono HO_17.out (fun _ hk => ⟨trivial, hk⟩)) hg hat); have n1_ := Aside0.mk (blk_grown (g := gb262) (o := .cells #[.slice A1_0 l1_0.length c1_0] 28 (0, 0)) (by (with_reducible repeat (first | refine blk_drewN ?_ _ | refine blk_drew ?_ | refine blk_alloc ?_ _)); exact BK262.out) hg (Kd.R_ne HO_9.out BK262.out (by decide))); have n2_ := Aside0.mk (IsS74.grown (by repeat (first | (with_reducible first | exact HI0.out | apply IsS74.alloc | apply IsS74.drewN | apply IsS74.drew | apply IsS74.set_1 | apply IsS74.set_2 | refine IsS74.far ?_ NB0_262.out _) | exact HI0.out)) hg (IsS74.own_ne HI0.out HO_9.out (by decide))); have n3_ := Aside0.mk (below_weaken (by repeat (first | (with_reducible first | exact HB.out | apply below_alloc | apply pw_below_drewN | apply below_drew1 | refine below_set ?_ (IsS74.ge HI0.out) | refine below_set ?_ GE262.out) | exact HB.out)) HL.out hb); have n4_ := Aside0.mk (KeepBut.trans (by repeat (first | (with_reducible first | exact HK.out | apply KeepBut.set_ | apply keep_drewN | apply keep_drew | apply keep_alloc | refine keep_far ?_ GW262.out _) | exact HK.out)) (KeepBut.of_grown hg g) (Kd.R_base2 HO_9.out)); have n5_ := Aside0.mk (ho); clear HO_17; clear BK262; clear HI0; clear HB; clear HK; clear HO_9; have HO_17 := n0_; have BK262 := n1_; have HI0 := n2_; have HB := n3_; have HK := n4_; have HO273 := n5_; clear n0_ n1_ n2_ n3_ n4_ n5_; clear ho hb hg hat))
                go_roundg k1
                case measure => have := HK1.out; omega
                case rel => exact ⟨(y271), (wrap64 (x19_1 + 1)), (t269), (t270), (by first | rfl | (simp; done) | (simp [*]; done)), H', ⟨by have := HK1.out; omega⟩, ⟨by (with_reducible repeat (first | apply Kd.R_alloc | apply Kd.R_drewN | apply Kd.R_drew)); exact HO273.out⟩, ⟨by (with_reducible repeat (first | apply Kd.R_alloc | apply Kd.R_drewN | apply Kd.R_drew)); exact Kd.R_mono HO_17.out (fun _ hk => hk.2)⟩, ⟨by (with_reducible repeat (first | refine blk_drewN ?_ _ | refine blk_drew ?_ | refine blk_alloc ?_ _)); exact BK262.out⟩, ⟨by repeat (first | (with_reducible first | exact HI0.out | apply IsS74.alloc | apply IsS74.drewN | apply IsS74.drew | apply IsS74.set_1 | apply IsS74.set_2 | refine IsS74.far ?_ NB0_262.out _) | exact HI0.out)⟩, ⟨by repeat (first | (with_reducible first | exact HK.out | apply KeepBut.set_ | apply keep_drewN | apply keep_drew | apply keep_alloc | refine keep_far ?_ GW262.out _) | exact HK.out)⟩, ⟨by repeat (first | (with_reducible first | exact HB.out | apply below_alloc | apply pw_below_drewN | apply below_drew1 | refine below_set ?_ (IsS74.ge HI0.out) | refine below_set ?_ GE262.out) | exact HB.out)⟩⟩
              · rw [if_neg c15] at H
                exact absurd H (by simp)
            · replace c14 := Bool.eq_false_iff.mpr c14
              subst c14
              have H1 : (if a2 = true then (if (rd t263 x19_1) = 0 then (if x9_1.length < 17592186044416 then (spec_l1Cur_someBlocks.l0 k1 a2 t266 (x9_1 ++ [rd t263 x19_1]) t263 (t263.length : Int) (wrap64 (x19_1 + 1)) s0_0 t269 t270) else (none)) else (spec_l1Cur_someBlocks.l0 k1 a2 t266 x9_1 t263 (t263.length : Int) (wrap64 (x19_1 + 1)) s0_0 t269 t270)) else (spec_l1Cur_someBlocks.l0 k1 a2 t266 x9_1 t263 (t263.length : Int) (wrap64 (x19_1 + 1)) s0_0 t269 t270)) = some (r1, r2, r3) := by rw [if_neg (show ¬ (false = true) by decide)] at H; exact H
              clear H
              have H := H1
              clear H1
              by_cases c18 : a2 = true
              · subst c18
                have H1 : (if (rd t263 x19_1) = 0 then (if x9_1.length < 17592186044416 then (spec_l1Cur_someBlocks.l0 k1 true t266 (x9_1 ++ [rd t263 x19_1]) t263 (t263.length : Int) (wrap64 (x19_1 + 1)) s0_0 t269 t270) else (none)) else (spec_l1Cur_someBlocks.l0 k1 true t266 x9_1 t263 (t263.length : Int) (wrap64 (x19_1 + 1)) s0_0 t269 t270)) = some (r1, r2, r3) := by rw [if_pos rfl] at H; exact H
                clear H
                have H := H1
                clear H1
                by_cases c19 : (rd t263 x19_1) = 0
                · rw [if_pos c19] at H
                  have c19b0 : ((rd t263 x19_1) == 0) = true := beq_iff_eq.mpr c19
                  have c19b1 : ((rd t263 x19_1) != 0) = false := bne_eq_false_iff_eq.mpr c19
                  clear c19
                  by_cases c20 : x9_1.length < 17592186044416
                  · rw [if_pos c20] at H
                    have LMc20 := Aside0.mk c20
                    clear c20
                    obtain ⟨y274, hy274⟩ : ∃ y_ : List Int, y_ = (x9_1 ++ [rd t263 x19_1]) := ⟨_, rfl⟩
                    replace H : (spec_l1Cur_someBlocks.l0 k1 true t266 y274 t263 (t263.length : Int) (wrap64 (x19_1 + 1)) s0_0 t269 t270) = some (r1, r2, r3) := by first | (rw [hy274]; with_reducible exact H) | (have H2_ := (Option.bind_some _ _).symm.trans H; rw [hy274]; with_reducible exact H2_) | (have H2_ := (Option.bind_some _ _).symm.trans H; with_reducible exact H2_) | with_reducible exact H | (rw [hy274]; exact H) | exact H
                    have Ny274 := Aside0.mk hy274
                    clear hy274
                    have H' := Aside0.mk H
                    clear H
                    have p267 : 0 ≤ (x19_1 : Int) := of_decide_eq_true (by first | (with_reducible assumption) | assumption)
                    have q267 : x19_1 < (t263.length : Int) := of_decide_eq_true (by first | (with_reducible assumption) | assumption)
                    obtain ⟨ad267, e267, hx267_0⟩ := Kd.at_int (Kd.R_reads' HO_17.out).2.2 x19_1 p267 q267
                    cases e267
                    replace p267 := eq_true p267
                    replace q267 := eq_true q267
                    go_wp2_with (first | ((with_reducible refine gate_callee (f := 58) rfl ?_); refine goesL_ (some 24) rfl rfl Try.func58 (by kernel_rfl) rfl #[.pointer (some ⟨g, 0, none⟩), .int .i64 3] rfl (by (try simp only [List.map_toArray, List.map_cons, List.map_nil]); first | done | rfl | (simp only [List.length_drop, List.length_take]; rfl)) ?_; (with_reducible refine (spec_l1Cur_one.calls g s0_0 x1001_1 x1002_1 3 false t269 t270 w0 _ ?side1 ?side2 A13.out).mono ?_); (case side1 => repeat (first | (with_reducible first | exact HI0.out | apply IsS74.alloc | apply IsS74.drewN | apply IsS74.drew | apply IsS74.set_1 | apply IsS74.set_2 | refine IsS74.far ?_ NB0_262.out _) | exact HI0.out)); (case side2 => repeat (first | (with_reducible first | exact HB.out | apply below_alloc | apply pw_below_drewN | apply below_drew1 | refine below_set ?_ (IsS74.ge HI0.out) | refine below_set ?_ GE262.out) | exact HB.out)); rintro e w21 ⟨rfl, hi, hb, hk⟩; refine ⟨_, rfl, ?_⟩; have n0_ := Aside0.mk (Kd.R_mono (Kd.R_keep (IsS74.apart (show IsS74 w0 _ g s0_0 x1001_1 x1002_1 from by repeat (first | (with_reducible first | exact HI0.out | apply IsS74.alloc | apply IsS74.drewN | apply IsS74.drew | apply IsS74.set_1 | apply IsS74.set_2 | refine IsS74.far ?_ NB0_262.out _) | exact HI0.out)) (by (with_reducible repeat (first | apply Kd.R_alloc | apply Kd.R_drewN | apply Kd.R_drew)); exact HO_9.out) (by decide)) hk (fun _ h => h.2)) (fun _ h => h.1)); have n1_ := Aside0.mk (Kd.R_mono (Kd.R_keep (IsS74.apart (show IsS74 w0 _ g s0_0 x1001_1 x1002_1 from by repeat (first | (with_reducible first | exact HI0.out | apply IsS74.alloc | apply IsS74.drewN | apply IsS74.drew | apply IsS74.set_1 | apply IsS74.set_2 | refine IsS74.far ?_ NB0_262.out _) | exact HI0.out)) (by (with_reducible repeat (first | apply Kd.R_alloc | apply Kd.R_drewN | apply Kd.R_drew)); exact HO_17.out) (by decide)) hk (fun _ h => h.2)) (fun _ h => h.1)); have n2_ := Aside0.mk (KeepBut.blk hk (g' := gb262) (o := .cells #[.slice A1_0 l1_0.length c1_0] 28 (0, 0)) (by (with_reducible repeat (first | refine blk_drewN ?_ _ | refine blk_drew ?_ | refine blk_alloc ?_ _)); exact BK262.out) NB262_0.out (by simp)); have n3_ := Aside0.mk (KeepBut.trans (by repeat (first | (with_reducible first | exact HK.out | apply KeepBut.set_ | apply keep_drewN | apply keep_drew | apply keep_alloc | refine keep_far ?_ GW262.out _) | exact HK.out)) hk (.inl rfl)); have n4_ := Aside0.mk (hb); have n5_ := Aside0.mk (hi); clear HO_9; clear HO_17; clear BK262; clear HK; clear HB; clear HI0; have HO_9 := n0_; have HO_17 := n1_; have BK262 := n2_; have HK := n3_; have HB := n4_; have HI0 := n5_; clear n0_ n1_ n2_ n3_ n4_ n5_; (try clear hb); (try clear hb2); (try clear hk); (try clear hi)) | ((with_reducible refine gate_builtin (b := .append) (xs := #[.tmp 32, .tmp 34]) rfl ?_); at_builtin; refine Kd.R_append (Kd.int .i64) w.heap.size rfl (.tmp 32) (.tmp 34) 32 3 (.int .i64 0) 8 rfl Try.underlying32 info3 rfl (by decide) (by omega) u9 x9_1 (rd t263 x19_1) [.int .i64 (rd t263 x19_1)] (fun k_ => some k_ ≠ (.slice (some ad267) t263.length co9 : Value).ownBlock) (fun _ => False) rfl rfl ?aP (fun _ hk => hk.elim) ?aF ?aO (Below.refl _ _) ?aS ?aL ?_; (case aP => exact rfl); (case aF => exact (fun k_ hk => Kd.fresh' (Kd.R_lt (by (with_reducible repeat (first | apply Kd.R_alloc | apply Kd.R_drewN | apply Kd.R_drew)); exact HO_17.out)) k_ hk)); (case aO => exact (by (with_reducible repeat (first | apply Kd.R_alloc | apply Kd.R_drewN | apply Kd.R_drew)); exact HO_9.out)); (case aS => exact (keep_size (w := w) (g := g) (row := none) (by repeat (first | (with_reducible first | exact HK.out | apply KeepBut.set_ | apply keep_drewN | apply keep_drew | apply keep_alloc | refine keep_far ?_ GW262.out _) | exact HK.out)))); (case aL => have := LMc20.out; omega); intro v275 w22 ho hb hg hat; rw [← Ny274.out] at ho; have n0_ := Aside0.mk (Kd.R_after (ok := (fun _ => True)) (by (with_reducible repeat (first | apply Kd.R_alloc | apply Kd.R_drewN | apply Kd.R_drew)); exact Kd.R_mono HO_17.out (fun _ hk => ⟨trivial, hk⟩)) hg hat); have n1_ := Aside0.mk (blk_grown (g := gb262) (o := .cells #[.slice A1_0 l1_0.length c1_0] 28 (0, 0)) (by (with_reducible repeat (first | refine blk_drewN ?_ _ | refine blk_drew ?_ | refine blk_alloc ?_ _)); exact BK262.out) hg (Kd.R_ne HO_9.out BK262.out (by decide))); have n2_ := Aside0.mk (IsS74.grown (by repeat (first | (with_reducible first | exact HI0.out | apply IsS74.alloc | apply IsS74.drewN | apply IsS74.drew | apply IsS74.set_1 | apply IsS74.set_2 | refine IsS74.far ?_ NB0_262.out _) | exact HI0.out)) hg (IsS74.own_ne HI0.out HO_9.out (by decide))); have n3_ := Aside0.mk (below_weaken (by repeat (first | (with_reducible first | exact HB.out | apply below_alloc | apply pw_below_drewN | apply below_drew1 | refine below_set ?_ (IsS74.ge HI0.out) | refine below_set ?_ GE262.out) | exact HB.out)) HL.out hb); have n4_ := Aside0.mk (KeepBut.trans (by repeat (first | (with_reducible first | exact HK.out | apply KeepBut.set_ | apply keep_drewN | apply keep_drew | apply keep_alloc | refine keep_far ?_ GW262.out _) | exact HK.out)) (KeepBut.of_grown hg g) (Kd.R_base2 HO_9.out)); have n5_ := Aside0.mk (ho); clear HO_17; clear BK262; clear HI0; clear HB; clear HK; clear HO_9; have HO_17 := n0_; have BK262 := n1_; have HI0 := n2_; have HB := n3_; have HK := n4_; have HO276 := n5_; clear n0_ n1_ n2_ n3_ n4_ n5_; clear ho hb hg hat))
                    go_roundg k1
                    case measure => have := HK1.out; omega
                    case rel => exact ⟨(y274), (wrap64 (x19_1 + 1)), (t269), (t270), (by first | rfl | (simp; done) | (simp [*]; done)), H', ⟨by have := HK1.out; omega⟩, ⟨by (with_reducible repeat (first | apply Kd.R_alloc | apply Kd.R_drewN | apply Kd.R_drew)); exact HO276.out⟩, ⟨by (with_reducible repeat (first | apply Kd.R_alloc | apply Kd.R_drewN | apply Kd.R_drew)); exact Kd.R_mono HO_17.out (fun _ hk => hk.2)⟩, ⟨by (with_reducible repeat (first | refine blk_drewN ?_ _ | refine blk_drew ?_ | refine blk_alloc ?_ _)); exact BK262.out⟩, ⟨by repeat (first | (with_reducible first | exact HI0.out | apply IsS74.alloc | apply IsS74.drewN | apply IsS74.drew | apply IsS74.set_1 | apply IsS74.set_2 | refine IsS74.far ?_ NB0_262.out _) | exact HI0.out)⟩, ⟨by repeat (first | (with_reducible first | exact HK.out | apply KeepBut.set_ | apply keep_drewN | apply keep_drew | apply keep_alloc | refine keep_far ?_ GW262.out _) | exact HK.out)⟩, ⟨by repeat (first | (with_reducible first | exact HB.out | apply below_alloc | apply pw_below_drewN | apply below_drew1 | refine below_set ?_ (IsS74.ge HI0.out) | refine below_set ?_ GE262.out) | exact HB.out)⟩⟩
                  · rw [if_neg c20] at H
                    exact absurd H (by simp)
                · rw [if_neg c19] at H
                  have c19b0 : ((rd t263 x19_1) == 0) = false := beq_eq_false_iff_ne.mpr c19
                  have c19b1 : ((rd t263 x19_1) != 0) = true := bne_iff_ne.mpr c19
                  have H' := Aside0.mk H
                  clear H
                  have p267 : 0 ≤ (x19_1 : Int) := of_decide_eq_true (by first | (with_reducible assumption) | assumption)
                  have q267 : x19_1 < (t263.length : Int) := of_decide_eq_true (by first | (with_reducible assumption) | assumption)
                  obtain ⟨ad267, e267, hx267_0⟩ := Kd.at_int (Kd.R_reads' HO_17.out).2.2 x19_1 p267 q267
                  cases e267
                  replace p267 := eq_true p267
                  replace q267 := eq_true q267
                  go_wp2_with (first | ((with_reducible refine gate_callee (f := 58) rfl ?_); refine goesL_ (some 24) rfl rfl Try.func58 (by kernel_rfl) rfl #[.pointer (some ⟨g, 0, none⟩), .int .i64 3] rfl (by (try simp only [List.map_toArray, List.map_cons, List.map_nil]); first | done | rfl | (simp only [List.length_drop, List.length_take]; rfl)) ?_; (with_reducible refine (spec_l1Cur_one.calls g s0_0 x1001_1 x1002_1 3 false t269 t270 w0 _ ?side1 ?side2 A13.out).mono ?_); (case side1 => repeat (first | (with_reducible first | exact HI0.out | apply IsS74.alloc | apply IsS74.drewN | apply IsS74.drew | apply IsS74.set_1 | apply IsS74.set_2 | refine IsS74.far ?_ NB0_262.out _) | exact HI0.out)); (case side2 => repeat (first | (with_reducible first | exact HB.out | apply below_alloc | apply pw_below_drewN | apply below_drew1 | refine below_set ?_ (IsS74.ge HI0.out) | refine below_set ?_ GE262.out) | exact HB.out)); rintro e w23 ⟨rfl, hi, hb, hk⟩; refine ⟨_, rfl, ?_⟩; have n0_ := Aside0.mk (Kd.R_mono (Kd.R_keep (IsS74.apart (show IsS74 w0 _ g s0_0 x1001_1 x1002_1 from by repeat (first | (with_reducible first | exact HI0.out | apply IsS74.alloc | apply IsS74.drewN | apply IsS74.drew | apply IsS74.set_1 | apply IsS74.set_2 | refine IsS74.far ?_ NB0_262.out _) | exact HI0.out)) (by (with_reducible repeat (first | apply Kd.R_alloc | apply Kd.R_drewN | apply Kd.R_drew)); exact HO_9.out) (by decide)) hk (fun _ h => h.2)) (fun _ h => h.1)); have n1_ := Aside0.mk (Kd.R_mono (Kd.R_keep (IsS74.apart (show IsS74 w0 _ g s0_0 x1001_1 x1002_1 from by repeat (first | (with_reducible first | exact HI0.out | apply IsS74.alloc | apply IsS74.drewN | apply IsS74.drew | apply IsS74.set_1 | apply IsS74.set_2 | refine IsS74.far ?_ NB0_262.out _) | exact HI0.out)) (by (with_reducible repeat (first | apply Kd.R_alloc | apply Kd.R_drewN | apply Kd.R_drew)); exact HO_17.out) (by decide)) hk (fun _ h => h.2)) (fun _ h => h.1)); have n2_ := Aside0.mk (KeepBut.blk hk (g' := gb262) (o := .cells #[.slice A1_0 l1_0.length c1_0] 28 (0, 0)) (by (with_reducible repeat (first | refine blk_drewN ?_ _ | refine blk_drew ?_ | refine blk_alloc ?_ _)); exact BK262.out) NB262_0.out (by simp)); have n3_ := Aside0.mk (KeepBut.trans (by repeat (first | (with_reducible first | exact HK.out | apply KeepBut.set_ | apply keep_drewN | apply keep_drew | apply keep_alloc | refine keep_far ?_ GW262.out _) | exact HK.out)) hk (.inl rfl)); have n4_ := Aside0.mk (hb); have n5_ := Aside0.mk (hi); clear HO_9; clear HO_17; clear BK262; clear HK; clear HB; clear HI0; have HO_9 := n0_; have HO_17 := n1_; have BK262 := n2_; have HK := n3_; have HB := n4_; have HI0 := n5_; clear n0_ n1_ n2_ n3_ n4_ n5_; (try clear hb); (try clear hb2); (try clear hk); (try clear hi)))
                  go_roundg k1
                  case measure => have := HK1.out; omega
                  case rel => exact ⟨(x9_1), (wrap64 (x19_1 + 1)), (t269), (t270), (by first | rfl | (simp; done) | (simp [*]; done)), H', ⟨by have := HK1.out; omega⟩, ⟨by (with_reducible repeat (first | apply Kd.R_alloc | apply Kd.R_drewN | apply Kd.R_drew)); exact HO_9.out⟩, ⟨by (with_reducible repeat (first | apply Kd.R_alloc | apply Kd.R_drewN | apply Kd.R_drew)); exact HO_17.out⟩, ⟨by (with_reducible repeat (first | refine blk_drewN ?_ _ | refine blk_drew ?_ | refine blk_alloc ?_ _)); exact BK262.out⟩, ⟨by repeat (first | (with_reducible first | exact HI0.out | apply IsS74.alloc | apply IsS74.drewN | apply IsS74.drew | apply IsS74.set_1 | apply IsS74.set_2 | refine IsS74.far ?_ NB0_262.out _) | exact HI0.out)⟩, ⟨by repeat (first | (with_reducible first | exact HK.out | apply KeepBut.set_ | apply keep_drewN | apply keep_drew | apply keep_alloc | refine keep_far ?_ GW262.out _) | exact HK.out)⟩, ⟨by repeat (first | (with_reducible first | exact HB.out | apply below_alloc | apply pw_below_drewN | apply below_drew1 | refine below_set ?_ (IsS74.ge HI0.out) | refine below_set ?_ GE262.out) | exact HB.out)⟩⟩
              · replace c18 := Bool.eq_false_iff.mpr c18
                subst c18
                have H1 : (spec_l1Cur_someBlocks.l0 k1 false t266 x9_1 t263 (t263.length : Int) (wrap64 (x19_1 + 1)) s0_0 t269 t270) = some (r1, r2, r3) := by rw [if_neg (show ¬ (false = true) by decide)] at H; exact H
                clear H
                have H := H1
                clear H1
                have H' := Aside0.mk H
                clear H
                have p267 : 0 ≤ (x19_1 : Int) := of_decide_eq_true (by first | (with_reducible assumption) | assumption)
                have q267 : x19_1 < (t263.length : Int) := of_decide_eq_true (by first | (with_reducible assumption) | assumption)
                obtain ⟨ad267, e267, hx267_0⟩ := Kd.at_int (Kd.R_reads' HO_17.out).2.2 x19_1 p267 q267
                cases e267
                replace p267 := eq_true p267
                replace q267 := eq_true q267
                go_wp2_with (first | ((with_reducible refine gate_callee (f := 58) rfl ?_); refine goesL_ (some 24) rfl rfl Try.func58 (by kernel_rfl) rfl #[.pointer (some ⟨g, 0, none⟩), .int .i64 3] rfl (by (try simp only [List.map_toArray, List.map_cons, List.map_nil]); first | done | rfl | (simp only [List.length_drop, List.length_take]; rfl)) ?_; (with_reducible refine (spec_l1Cur_one.calls g s0_0 x1001_1 x1002_1 3 false t269 t270 w0 _ ?side1 ?side2 A13.out).mono ?_); (case side1 => repeat (first | (with_reducible first | exact HI0.out | apply IsS74.alloc | apply IsS74.drewN | apply IsS74.drew | apply IsS74.set_1 | apply IsS74.set_2 | refine IsS74.far ?_ NB0_262.out _) | exact HI0.out)); (case side2 => repeat (first | (with_reducible first | exact HB.out | apply below_alloc | apply pw_below_drewN | apply below_drew1 | refine below_set ?_ (IsS74.ge HI0.out) | refine below_set ?_ GE262.out) | exact HB.out)); rintro e w24 ⟨rfl, hi, hb, hk⟩; refine ⟨_, rfl, ?_⟩; have n0_ := Aside0.mk (Kd.R_mono (Kd.R_keep (IsS74.apart (show IsS74 w0 _ g s0_0 x1001_1 x1002_1 from by repeat (first | (with_reducible first | exact HI0.out | apply IsS74.alloc | apply IsS74.drewN | apply IsS74.drew | apply IsS74.set_1 | apply IsS74.set_2 | refine IsS74.far ?_ NB0_262.out _) | exact HI0.out)) (by (with_reducible repeat (first | apply Kd.R_alloc | apply Kd.R_drewN | apply Kd.R_drew)); exact HO_9.out) (by decide)) hk (fun _ h => h.2)) (fun _ h => h.1)); have n1_ := Aside0.mk (Kd.R_mono (Kd.R_keep (IsS74.apart (show IsS74 w0 _ g s0_0 x1001_1 x1002_1 from by repeat (first | (with_reducible first | exact HI0.out | apply IsS74.alloc | apply IsS74.drewN | apply IsS74.drew | apply IsS74.set_1 | apply IsS74.set_2 | refine IsS74.far ?_ NB0_262.out _) | exact HI0.out)) (by (with_reducible repeat (first | apply Kd.R_alloc | apply Kd.R_drewN | apply Kd.R_drew)); exact HO_17.out) (by decide)) hk (fun _ h => h.2)) (fun _ h => h.1)); have n2_ := Aside0.mk (KeepBut.blk hk (g' := gb262) (o := .cells #[.slice A1_0 l1_0.length c1_0] 28 (0, 0)) (by (with_reducible repeat (first | refine blk_drewN ?_ _ | refine blk_drew ?_ | refine blk_alloc ?_ _)); exact BK262.out) NB262_0.out (by simp)); have n3_ := Aside0.mk (KeepBut.trans (by repeat (first | (with_reducible first | exact HK.out | apply KeepBut.set_ | apply keep_drewN | apply keep_drew | apply keep_alloc | refine keep_far ?_ GW262.out _) | exact HK.out)) hk (.inl rfl)); have n4_ := Aside0.mk (hb); have n5_ := Aside0.mk (hi); clear HO_9; clear HO_17; clear BK262; clear HK; clear HB; clear HI0; have HO_9 := n0_; have HO_17 := n1_; have BK262 := n2_; have HK := n3_; have HB := n4_; have HI0 := n5_; clear n0_ n1_ n2_ n3_ n4_ n5_; (try clear hb); (try clear hb2); (try clear hk); (try clear hi)))
                go_roundg k1
                case measure => have := HK1.out; omega
                case rel => exact ⟨(x9_1), (wrap64 (x19_1 + 1)), (t269), (t270), (by first | rfl | (simp; done) | (simp [*]; done)), H', ⟨by have := HK1.out; omega⟩, ⟨by (with_reducible repeat (first | apply Kd.R_alloc | apply Kd.R_drewN | apply Kd.R_drew)); exact HO_9.out⟩, ⟨by (with_reducible repeat (first | apply Kd.R_alloc | apply Kd.R_drewN | apply Kd.R_drew)); exact HO_17.out⟩, ⟨by (with_reducible repeat (first | refine blk_drewN ?_ _ | refine blk_drew ?_ | refine blk_alloc ?_ _)); exact BK262.out⟩, ⟨by repeat (first | (with_reducible first | exact HI0.out | apply IsS74.alloc | apply IsS74.drewN | apply IsS74.drew | apply IsS74.set_1 | apply IsS74.set_2 | refine IsS74.far ?_ NB0_262.out _) | exact HI0.out)⟩, ⟨by repeat (first | (with_reducible first | exact HK.out | apply KeepBut.set_ | apply keep_drewN | apply keep_drew | apply keep_alloc | refine keep_far ?_ GW262.out _) | exact HK.out)⟩, ⟨by repeat (first | (with_reducible first | exact HB.out | apply below_alloc | apply pw_below_drewN | apply below_drew1 | refine below_set ?_ (IsS74.ge HI0.out) | refine below_set ?_ GE262.out) | exact HB.out)⟩⟩
          · rw [if_neg c12] at H
            exact absurd H (by simp)
        · rw [if_neg c11] at H
          exact absurd H (by simp)
      · rw [if_neg c10] at H
        have c10b0 : decide (x19_1 < (t263.length : Int)) = false := decide_eq_false c10
        clear c10
        by_cases c25 : t266 = true
        · subst c25
          have H1 : ((spec_l1Cur_one.f s0_0 x1001_1 x1002_1 30).bind fun bt277 => (if bt277.1 = true then ((spec_l1Cur_pick.f s0_0 bt277.2.1 bt277.2.2 14).bind fun bt280 => (if x9_1.length < 17592186044416 then (some ((x9_1 ++ [bt280.1]), bt280.2.1, bt280.2.2)) else (none))) else (some (x9_1, bt277.2.1, bt277.2.2)))) = some (r1, r2, r3) := by rw [if_pos rfl] at H; exact H
          clear H
          have H := H1
          clear H1
          replace H := Option.bind_eq_some_iff.mp H
          obtain ⟨⟨t277, t278, t279⟩, A260, H⟩ := H
          replace H : (if t277 = true then ((spec_l1Cur_pick.f s0_0 t278 t279 14).bind fun bt280 => (if x9_1.length < 17592186044416 then (some ((x9_1 ++ [bt280.1]), bt280.2.1, bt280.2.2)) else (none))) else (some (x9_1, t278, t279))) = some (r1, r2, r3) := H
          have A26 := Aside0.mk A260
          clear A260
          by_cases c27 : t277 = true
          · subst c27
            have H1 : ((spec_l1Cur_pick.f s0_0 t278 t279 14).bind fun bt280 => (if x9_1.length < 17592186044416 then (some ((x9_1 ++ [bt280.1]), bt280.2.1, bt280.2.2)) else (none))) = some (r1, r2, r3) := by rw [if_pos rfl] at H; exact H
            clear H
            have H := H1
            clear H1
            replace H := Option.bind_eq_some_iff.mp H
            obtain ⟨⟨t280, t281, t282⟩, A280, H⟩ := H
            replace H : (if x9_1.length < 17592186044416 then (some ((x9_1 ++ [t280]), t281, t282)) else (none)) = some (r1, r2, r3) := H
            have A28 := Aside0.mk A280
            clear A280
            by_cases c29 : x9_1.length < 17592186044416
            · rw [if_pos c29] at H
              have LMc29 := Aside0.mk c29
              clear c29
              obtain ⟨y283, hy283⟩ : ∃ y_ : List Int, y_ = (x9_1 ++ [t280]) := ⟨_, rfl⟩
              replace H : (some (y283, t281, t282)) = some (r1, r2, r3) := by first | (rw [hy283]; with_reducible exact H) | (have H2_ := (Option.bind_some _ _).symm.trans H; rw [hy283]; with_reducible exact H2_) | (have H2_ := (Option.bind_some _ _).symm.trans H; with_reducible exact H2_) | with_reducible exact H | (rw [hy283]; exact H) | exact H
              have Ny283 := Aside0.mk hy283
              clear hy283
              simp only [Option.some.injEq, Prod.mk.injEq] at H
              obtain ⟨rfl, rfl, rfl⟩ := H
              go_wp2_with (first | (go_at_call 58; (with_reducible refine (spec_l1Cur_one.calls g s0_0 x1001_1 x1002_1 30 true t278 t279 w0 _ ?side1 ?side2 A26.out).mono ?_); (case side1 => repeat (first | (with_reducible first | exact HI0.out | apply IsS74.alloc | apply IsS74.drewN | apply IsS74.drew | apply IsS74.set_1 | apply IsS74.set_2 | refine IsS74.far ?_ NB0_262.out _) | exact HI0.out)); (case side2 => repeat (first | (with_reducible first | exact HB.out | apply below_alloc | apply pw_below_drewN | apply below_drew1 | refine below_set ?_ (IsS74.ge HI0.out) | refine below_set ?_ GE262.out) | exact HB.out)); rintro e w30 ⟨rfl, hi, hb, hk⟩; have n0_ := Aside0.mk (Kd.R_mono (Kd.R_keep (IsS74.apart (show IsS74 w0 _ g s0_0 x1001_1 x1002_1 from by repeat (first | (with_reducible first | exact HI0.out | apply IsS74.alloc | apply IsS74.drewN | apply IsS74.drew | apply IsS74.set_1 | apply IsS74.set_2 | refine IsS74.far ?_ NB0_262.out _) | exact HI0.out)) (by (with_reducible repeat (first | apply Kd.R_alloc | apply Kd.R_drewN | apply Kd.R_drew)); exact HO_9.out) (by decide)) hk (fun _ h => h.2)) (fun _ h => h.1)); have n1_ := Aside0.mk (Kd.R_mono (Kd.R_keep (IsS74.apart (show IsS74 w0 _ g s0_0 x1001_1 x1002_1 from by repeat (first | (with_reducible first | exact HI0.out | apply IsS74.alloc | apply IsS74.drewN | apply IsS74.drew | apply IsS74.set_1 | apply IsS74.set_2 | refine IsS74.far ?_ NB0_262.out _) | exact HI0.out)) (by (with_reducible repeat (first | apply Kd.R_alloc | apply Kd.R_drewN | apply Kd.R_drew)); exact HO_17.out) (by decide)) hk (fun _ h => h.2)) (fun _ h => h.1)); have n2_ := Aside0.mk (KeepBut.blk hk (g' := gb262) (o := .cells #[.slice A1_0 l1_0.length c1_0] 28 (0, 0)) (by (with_reducible repeat (first | refine blk_drewN ?_ _ | refine blk_drew ?_ | refine blk_alloc ?_ _)); exact BK262.out) NB262_0.out (by simp)); have n3_ := Aside0.mk (KeepBut.trans (by repeat (first | (with_reducible first | exact HK.out | apply KeepBut.set_ | apply keep_drewN | apply keep_drew | apply keep_alloc | refine keep_far ?_ GW262.out _) | exact HK.out)) hk (.inl rfl)); have n4_ := Aside0.mk (hb); have n5_ := Aside0.mk (hi); clear HO_9; clear HO_17; clear BK262; clear HK; clear HB; clear HI0; have HO_9 := n0_; have HO_17 := n1_; have BK262 := n2_; have HK := n3_; have HB := n4_; have HI0 := n5_; clear n0_ n1_ n2_ n3_ n4_ n5_; (try clear hb); (try clear hb2); (try clear hk); (try clear hi)) | ((with_reducible refine gate_callee (f := 60) rfl ?_); refine goesL_ (some 45) rfl rfl Try.func60 (by kernel_rfl) rfl #[.pointer (some ⟨g, 0, none⟩), .int .i64 14] rfl (by (try simp only [List.map_toArray, List.map_cons, List.map_nil]); first | done | rfl | (simp only [List.length_drop, List.length_take]; rfl)) ?_; (with_reducible refine (spec_l1Cur_pick.calls g s0_0 t278 t279 14 t280 t281 t282 w0 _ ?side1 ?side2 A28.out).mono ?_); (case side1 => repeat (first | (with_reducible first | exact HI0.out | apply IsS74.alloc | apply IsS74.drewN | apply IsS74.drew | apply IsS74.set_1 | apply IsS74.set_2 | refine IsS74.far ?_ NB0_262.out _) | exact HI0.out)); (case side2 => repeat (first | (with_reducible first | exact HB.out | apply below_alloc | apply pw_below_drewN | apply below_drew1 | refine below_set ?_ (IsS74.ge HI0.out) | refine below_set ?_ GE262.out) | exact HB.out)); rintro e w31 ⟨rfl, hi, hb, hk⟩; refine ⟨_, rfl, ?_⟩; have n0_ := Aside0.mk (Kd.R_mono (Kd.R_keep (IsS74.apart (show IsS74 w0 _ g s0_0 t278 t279 from by repeat (first | (with_reducible first | exact HI0.out | apply IsS74.alloc | apply IsS74.drewN | apply IsS74.drew | apply IsS74.set_1 | apply IsS74.set_2 | refine IsS74.far ?_ NB0_262.out _) | exact HI0.out)) (by (with_reducible repeat (first | apply Kd.R_alloc | apply Kd.R_drewN | apply Kd.R_drew)); exact HO_9.out) (by decide)) hk (fun _ h => h.2)) (fun _ h => h.1)); have n1_ := Aside0.mk (Kd.R_mono (Kd.R_keep (IsS74.apart (show IsS74 w0 _ g s0_0 t278 t279 from by repeat (first | (with_reducible first | exact HI0.out | apply IsS74.alloc | apply IsS74.drewN | apply IsS74.drew | apply IsS74.set_1 | apply IsS74.set_2 | refine IsS74.far ?_ NB0_262.out _) | exact HI0.out)) (by (with_reducible repeat (first | apply Kd.R_alloc | apply Kd.R_drewN | apply Kd.R_drew)); exact HO_17.out) (by decide)) hk (fun _ h => h.2)) (fun _ h => h.1)); have n2_ := Aside0.mk (KeepBut.blk hk (g' := gb262) (o := .cells #[.slice A1_0 l1_0.length c1_0] 28 (0, 0)) (by (with_reducible repeat (first | refine blk_drewN ?_ _ | refine blk_drew ?_ | refine blk_alloc ?_ _)); exact BK262.out) NB262_0.out (by simp)); have n3_ := Aside0.mk (KeepBut.trans (by repeat (first | (with_reducible first | exact HK.out | apply KeepBut.set_ | apply keep_drewN | apply keep_drew | apply keep_alloc | refine keep_far ?_ GW262.out _) | exact HK.out)) hk (.inl rfl)); have n4_ := Aside0.mk (hb); have n5_ := Aside0.mk (hi); clear HO_9; clear HO_17; clear BK262; clear HK; clear HB; clear HI0; have HO_9 := n0_; have HO_17 := n1_; have BK262 := n2_; have HK := n3_; have HB := n4_; have HI0 := n5_; clear n0_ n1_ n2_ n3_ n4_ n5_; (try clear hb); (try clear hb2); (try clear hk); (try clear hi)) | ((with_reducible refine gate_builtin (b := .append) (xs := #[.tmp 43, .tmp 46]) rfl ?_); at_builtin; refine Kd.R_append (Kd.int .i64) w.heap.size rfl (.tmp 43) (.tmp 46) 32 3 (.int .i64 0) 8 rfl Try.underlying32 info3 rfl (by decide) (by omega) u9 x9_1 t280 [.int .i64 t280] (fun k_ => some k_ ≠ (.slice Ao9 t263.length co9 : Value).ownBlock) (fun _ => False) rfl rfl ?aP (fun _ hk => hk.elim) ?aF ?aO (Below.refl _ _) ?aS ?aL ?_; (case aP => exact rfl); (case aF => exact (fun k_ hk => Kd.fresh' (Kd.R_lt (by (with_reducible repeat (first | apply Kd.R_alloc | apply Kd.R_drewN | apply Kd.R_drew)); exact HO_17.out)) k_ hk)); (case aO => exact (by (with_reducible repeat (first | apply Kd.R_alloc | apply Kd.R_drewN | apply Kd.R_drew)); exact HO_9.out)); (case aS => exact (keep_size (w := w) (g := g) (row := none) (by repeat (first | (with_reducible first | exact HK.out | apply KeepBut.set_ | apply keep_drewN | apply keep_drew | apply keep_alloc | refine keep_far ?_ GW262.out _) | exact HK.out)))); (case aL => have := LMc29.out; omega); intro v284 w32 ho hb hg hat; rw [← Ny283.out] at ho; have n0_ := Aside0.mk (Kd.R_after (ok := (fun _ => True)) (by (with_reducible repeat (first | apply Kd.R_alloc | apply Kd.R_drewN | apply Kd.R_drew)); exact Kd.R_mono HO_17.out (fun _ hk => ⟨trivial, hk⟩)) hg hat); have n1_ := Aside0.mk (blk_grown (g := gb262) (o := .cells #[.slice A1_0 l1_0.length c1_0] 28 (0, 0)) (by (with_reducible repeat (first | refine blk_drewN ?_ _ | refine blk_drew ?_ | refine blk_alloc ?_ _)); exact BK262.out) hg (Kd.R_ne HO_9.out BK262.out (by decide))); have n2_ := Aside0.mk (IsS74.grown (by repeat (first | (with_reducible first | exact HI0.out | apply IsS74.alloc | apply IsS74.drewN | apply IsS74.drew | apply IsS74.set_1 | apply IsS74.set_2 | refine IsS74.far ?_ NB0_262.out _) | exact HI0.out)) hg (IsS74.own_ne HI0.out HO_9.out (by decide))); have n3_ := Aside0.mk (below_weaken (by repeat (first | (with_reducible first | exact HB.out | apply below_alloc | apply pw_below_drewN | apply below_drew1 | refine below_set ?_ (IsS74.ge HI0.out) | refine below_set ?_ GE262.out) | exact HB.out)) HL.out hb); have n4_ := Aside0.mk (KeepBut.trans (by repeat (first | (with_reducible first | exact HK.out | apply KeepBut.set_ | apply keep_drewN | apply keep_drew | apply keep_alloc | refine keep_far ?_ GW262.out _) | exact HK.out)) (KeepBut.of_grown hg g) (Kd.R_base2 HO_9.out)); have n5_ := Aside0.mk (ho); clear HO_17; clear BK262; clear HI0; clear HB; clear HK; clear HO_9; have HO_17 := n0_; have BK262 := n1_; have HI0 := n2_; have HB := n3_; have HK := n4_; have HO285 := n5_; clear n0_ n1_ n2_ n3_ n4_ n5_; clear ho hb hg hat))
              go_ret
              exact ⟨_, by first | rfl | (simp [errW_none, errW_some] <;> rfl) | (simp [*, errW_none, errW_some] <;> rfl), by (with_reducible repeat (first | apply Kd.R_alloc | apply Kd.R_drewN | apply Kd.R_drew)); exact Kd.R_mono HO285.out (fun _ hk => trivial), by repeat (first | (with_reducible first | exact HI0.out | apply IsS74.alloc | apply IsS74.drewN | apply IsS74.drew | apply IsS74.set_1 | apply IsS74.set_2 | refine IsS74.far ?_ NB0_262.out _) | exact HI0.out), by repeat (first | (with_reducible first | exact HB.out | apply below_alloc | apply pw_below_drewN | apply below_drew1 | refine below_set ?_ (IsS74.ge HI0.out) | refine below_set ?_ GE262.out) | exact HB.out), by repeat (first | (with_reducible first | exact HK.out | apply KeepBut.set_ | apply keep_drewN | apply keep_drew | apply keep_alloc | refine keep_far ?_ GW262.out _) | exact HK.out)⟩
            · rw [if_neg c29] at H
              exact absurd H (by simp)
          · replace c27 := Bool.eq_false_iff.mpr c27
            subst c27
            have H1 : (some (x9_1, t278, t279)) = some (r1, r2, r3) := by rw [if_neg (show ¬ (false = true) by decide)] at H; exact H
            clear H
            have H := H1
            clear H1
            simp only [Option.some.injEq, Prod.mk.injEq] at H
            obtain ⟨rfl, rfl, rfl⟩ := H
            go_wp2_with (first | (go_at_call 58; (with_reducible refine (spec_l1Cur_one.calls g s0_0 x1001_1 x1002_1 30 false t278 t279 w0 _ ?side1 ?side2 A26.out).mono ?_); (case side1 => repeat (first | (with_reducible first | exact HI0.out | apply IsS74.alloc | apply IsS74.drewN | apply IsS74.drew | apply IsS74.set_1 | apply IsS74.set_2 | refine IsS74.far ?_ NB0_262.out _) | exact HI0.out)); (case side2 => repeat (first | (with_reducible first | exact HB.out | apply below_alloc | apply pw_below_drewN | apply below_drew1 | refine below_set ?_ (IsS74.ge HI0.out) | refine below_set ?_ GE262.out) | exact HB.out)); rintro e w33 ⟨rfl, hi, hb, hk⟩; have n0_ := Aside0.mk (Kd.R_mono (Kd.R_keep (IsS74.apart (show IsS74 w0 _ g s0_0 x1001_1 x1002_1 from by repeat (first | (with_reducible first | exact HI0.out | apply IsS74.alloc | apply IsS74.drewN | apply IsS74.drew | apply IsS74.set_1 | apply IsS74.set_2 | refine IsS74.far ?_ NB0_262.out _) | exact HI0.out)) (by (with_reducible repeat (first | apply Kd.R_alloc | apply Kd.R_drewN | apply Kd.R_drew)); exact HO_9.out) (by decide)) hk (fun _ h => h.2)) (fun _ h => h.1)); have n1_ := Aside0.mk (Kd.R_mono (Kd.R_keep (IsS74.apart (show IsS74 w0 _ g s0_0 x1001_1 x1002_1 from by repeat (first | (with_reducible first | exact HI0.out | apply IsS74.alloc | apply IsS74.drewN | apply IsS74.drew | apply IsS74.set_1 | apply IsS74.set_2 | refine IsS74.far ?_ NB0_262.out _) | exact HI0.out)) (by (with_reducible repeat (first | apply Kd.R_alloc | apply Kd.R_drewN | apply Kd.R_drew)); exact HO_17.out) (by decide)) hk (fun _ h => h.2)) (fun _ h => h.1)); have n2_ := Aside0.mk (KeepBut.blk hk (g' := gb262) (o := .cells #[.slice A1_0 l1_0.length c1_0] 28 (0, 0)) (by (with_reducible repeat (first | refine blk_drewN ?_ _ | refine blk_drew ?_ | refine blk_alloc ?_ _)); exact BK262.out) NB262_0.out (by simp)); have n3_ := Aside0.mk (KeepBut.trans (by repeat (first | (with_reducible first | exact HK.out | apply KeepBut.set_ | apply keep_drewN | apply keep_drew | apply keep_alloc | refine keep_far ?_ GW262.out _) | exact HK.out)) hk (.inl rfl)); have n4_ := Aside0.mk (hb); have n5_ := Aside0.mk (hi); clear HO_9; clear HO_17; clear BK262; clear HK; clear HB; clear HI0; have HO_9 := n0_; have HO_17 := n1_; have BK262 := n2_; have HK := n3_; have HB := n4_; have HI0 := n5_; clear n0_ n1_ n2_ n3_ n4_ n5_; (try clear hb); (try clear hb2); (try clear hk); (try clear hi)))
            go_ret
            exact ⟨_, by first | rfl | (simp [errW_none, errW_some] <;> rfl) | (simp [*, errW_none, errW_some] <;> rfl), by (with_reducible repeat (first | apply Kd.R_alloc | apply Kd.R_drewN | apply Kd.R_drew)); exact Kd.R_mono HO_9.out (fun _ hk => trivial), by repeat (first | (with_reducible first | exact HI0.out | apply IsS74.alloc | apply IsS74.drewN | apply IsS74.drew | apply IsS74.set_1 | apply IsS74.set_2 | refine IsS74.far ?_ NB0_262.out _) | exact HI0.out), by repeat (first | (with_reducible first | exact HB.out | apply below_alloc | apply pw_below_drewN | apply below_drew1 | refine below_set ?_ (IsS74.ge HI0.out) | refine below_set ?_ GE262.out) | exact HB.out), by repeat (first | (with_reducible first | exact HK.out | apply KeepBut.set_ | apply keep_drewN | apply keep_drew | apply keep_alloc | refine keep_far ?_ GW262.out _) | exact HK.out)⟩
        · replace c25 := Bool.eq_false_iff.mpr c25
          subst c25
          have H1 : ((spec_l1Cur_pick.f s0_0 x1001_1 x1002_1 14).bind fun bt286 => (if x9_1.length < 17592186044416 then (some ((x9_1 ++ [bt286.1]), bt286.2.1, bt286.2.2)) else (none))) = some (r1, r2, r3) := by rw [if_neg (show ¬ (false = true) by decide)] at H; exact H
          clear H
          have H := H1
          clear H1
          replace H := Option.bind_eq_some_iff.mp H
          obtain ⟨⟨t286, t287, t288⟩, A340, H⟩ := H
          replace H : (if x9_1.length < 17592186044416 then (some ((x9_1 ++ [t286]), t287, t288)) else (none)) = some (r1, r2, r3) := H
          have A34 := Aside0.mk A340
          clear A340
          by_cases c35 : x9_1.length < 17592186044416
          · rw [if_pos c35] at H
            have LMc35 := Aside0.mk c35
            clear c35
            obtain ⟨y289, hy289⟩ : ∃ y_ : List Int, y_ = (x9_1 ++ [t286]) := ⟨_, rfl⟩
            replace H : (some (y289, t287, t288)) = some (r1, r2, r3) := by first | (rw [hy289]; with_reducible exact H) | (have H2_ := (Option.bind_some _ _).symm.trans H; rw [hy289]; with_reducible exact H2_) | (have H2_ := (Option.bind_some _ _).symm.trans H; with_reducible exact H2_) | with_reducible exact H | (rw [hy289]; exact H) | exact H
            have Ny289 := Aside0.mk hy289
            clear hy289
            simp only [Option.some.injEq, Prod.mk.injEq] at H
            obtain ⟨rfl, rfl, rfl⟩ := H
            go_wp2_with (first | ((with_reducible refine gate_callee (f := 60) rfl ?_); refine goesL_ (some 45) rfl rfl Try.func60 (by kernel_rfl) rfl #[.pointer (some ⟨g, 0, none⟩), .int .i64 14] rfl (by (try simp only [List.map_toArray, List.map_cons, List.map_nil]); first | done | rfl | (simp only [List.length_drop, List.length_take]; rfl)) ?_; (with_reducible refine (spec_l1Cur_pick.calls g s0_0 x1001_1 x1002_1 14 t286 t287 t288 w0 _ ?side1 ?side2 A34.out).mono ?_); (case side1 => repeat (first | (with_reducible first | exact HI0.out | apply IsS74.alloc | apply IsS74.drewN | apply IsS74.drew | apply IsS74.set_1 | apply IsS74.set_2 | refine IsS74.far ?_ NB0_262.out _) | exact HI0.out)); (case side2 => repeat (first | (with_reducible first | exact HB.out | apply below_alloc | apply pw_below_drewN | apply below_drew1 | refine below_set ?_ (IsS74.ge HI0.out) | refine below_set ?_ GE262.out) | exact HB.out)); rintro e w36 ⟨rfl, hi, hb, hk⟩; refine ⟨_, rfl, ?_⟩; have n0_ := Aside0.mk (Kd.R_mono (Kd.R_keep (IsS74.apart (show IsS74 w0 _ g s0_0 x1001_1 x1002_1 from by repeat (first | (with_reducible first | exact HI0.out | apply IsS74.alloc | apply IsS74.drewN | apply IsS74.drew | apply IsS74.set_1 | apply IsS74.set_2 | refine IsS74.far ?_ NB0_262.out _) | exact HI0.out)) (by (with_reducible repeat (first | apply Kd.R_alloc | apply Kd.R_drewN | apply Kd.R_drew)); exact HO_9.out) (by decide)) hk (fun _ h => h.2)) (fun _ h => h.1)); have n1_ := Aside0.mk (Kd.R_mono (Kd.R_keep (IsS74.apart (show IsS74 w0 _ g s0_0 x1001_1 x1002_1 from by repeat (first | (with_reducible first | exact HI0.out | apply IsS74.alloc | apply IsS74.drewN | apply IsS74.drew | apply IsS74.set_1 | apply IsS74.set_2 | refine IsS74.far ?_ NB0_262.out _) | exact HI0.out)) (by (with_reducible repeat (first | apply Kd.R_alloc | apply Kd.R_drewN | apply Kd.R_drew)); exact HO_17.out) (by decide)) hk (fun _ h => h.2)) (fun _ h => h.1)); have n2_ := Aside0.mk (KeepBut.blk hk (g' := gb262) (o := .cells #[.slice A1_0 l1_0.length c1_0] 28 (0, 0)) (by (with_reducible repeat (first | refine blk_drewN ?_ _ | refine blk_drew ?_ | refine blk_alloc ?_ _)); exact BK262.out) NB262_0.out (by simp)); have n3_ := Aside0.mk (KeepBut.trans (by repeat (first | (with_reducible first | exact HK.out | apply KeepBut.set_ | apply keep_drewN | apply keep_drew | apply keep_alloc | refine keep_far ?_ GW262.out _) | exact HK.out)) hk (.inl rfl)); have n4_ := Aside0.mk (hb); have n5_ := Aside0.mk (hi); clear HO_9; clear HO_17; clear BK262; clear HK; clear HB; clear HI0; have HO_9 := n0_; have HO_17 := n1_; have BK262 := n2_; have HK := n3_; have HB := n4_; have HI0 := n5_; clear n0_ n1_ n2_ n3_ n4_ n5_; (try clear hb); (try clear hb2); (try clear hk); (try clear hi)) | ((with_reducible refine gate_builtin (b := .append) (xs := #[.tmp 43, .tmp 46]) rfl ?_); at_builtin; refine Kd.R_append (Kd.int .i64) w.heap.size rfl (.tmp 43) (.tmp 46) 32 3 (.int .i64 0) 8 rfl Try.underlying32 info3 rfl (by decide) (by omega) u9 x9_1 t286 [.int .i64 t286] (fun k_ => some k_ ≠ (.slice Ao9 t263.length co9 : Value).ownBlock) (fun _ => False) rfl rfl ?aP (fun _ hk => hk.elim) ?aF ?aO (Below.refl _ _) ?aS ?aL ?_; (case aP => exact rfl); (case aF => exact (fun k_ hk => Kd.fresh' (Kd.R_lt (by (with_reducible repeat (first | apply Kd.R_alloc | apply Kd.R_drewN | apply Kd.R_drew)); exact HO_17.out)) k_ hk)); (case aO => exact (by (with_reducible repeat (first | apply Kd.R_alloc | apply Kd.R_drewN | apply Kd.R_drew)); exact HO_9.out)); (case aS => exact (keep_size (w := w) (g := g) (row := none) (by repeat (first | (with_reducible first | exact HK.out | apply KeepBut.set_ | apply keep_drewN | apply keep_drew | apply keep_alloc | refine keep_far ?_ GW262.out _) | exact HK.out)))); (case aL => have := LMc35.out; omega); intro v290 w37 ho hb hg hat; rw [← Ny289.out] at ho; have n0_ := Aside0.mk (Kd.R_after (ok := (fun _ => True)) (by (with_reducible repeat (first | apply Kd.R_alloc | apply Kd.R_drewN | apply Kd.R_drew)); exact Kd.R_mono HO_17.out (fun _ hk => ⟨trivial, hk⟩)) hg hat); have n1_ := Aside0.mk (blk_grown (g := gb262) (o := .cells #[.slice A1_0 l1_0.length c1_0] 28 (0, 0)) (by (with_reducible repeat (first | refine blk_drewN ?_ _ | refine blk_drew ?_ | refine blk_alloc ?_ _)); exact BK262.out) hg (Kd.R_ne HO_9.out BK262.out (by decide))); have n2_ := Aside0.mk (IsS74.grown (by repeat (first | (with_reducible first | exact HI0.out | apply IsS74.alloc | apply IsS74.drewN | apply IsS74.drew | apply IsS74.set_1 | apply IsS74.set_2 | refine IsS74.far ?_ NB0_262.out _) | exact HI0.out)) hg (IsS74.own_ne HI0.out HO_9.out (by decide))); have n3_ := Aside0.mk (below_weaken (by repeat (first | (with_reducible first | exact HB.out | apply below_alloc | apply pw_below_drewN | apply below_drew1 | refine below_set ?_ (IsS74.ge HI0.out) | refine below_set ?_ GE262.out) | exact HB.out)) HL.out hb); have n4_ := Aside0.mk (KeepBut.trans (by repeat (first | (with_reducible first | exact HK.out | apply KeepBut.set_ | apply keep_drewN | apply keep_drew | apply keep_alloc | refine keep_far ?_ GW262.out _) | exact HK.out)) (KeepBut.of_grown hg g) (Kd.R_base2 HO_9.out)); have n5_ := Aside0.mk (ho); clear HO_17; clear BK262; clear HI0; clear HB; clear HK; clear HO_9; have HO_17 := n0_; have BK262 := n1_; have HI0 := n2_; have HB := n3_; have HK := n4_; have HO291 := n5_; clear n0_ n1_ n2_ n3_ n4_ n5_; clear ho hb hg hat))
            go_ret
            exact ⟨_, by first | rfl | (simp [errW_none, errW_some] <;> rfl) | (simp [*, errW_none, errW_some] <;> rfl), by (with_reducible repeat (first | apply Kd.R_alloc | apply Kd.R_drewN | apply Kd.R_drew)); exact Kd.R_mono HO291.out (fun _ hk => trivial), by repeat (first | (with_reducible first | exact HI0.out | apply IsS74.alloc | apply IsS74.drewN | apply IsS74.drew | apply IsS74.set_1 | apply IsS74.set_2 | refine IsS74.far ?_ NB0_262.out _) | exact HI0.out), by repeat (first | (with_reducible first | exact HB.out | apply below_alloc | apply pw_below_drewN | apply below_drew1 | refine below_set ?_ (IsS74.ge HI0.out) | refine below_set ?_ GE262.out) | exact HB.out), by repeat (first | (with_reducible first | exact HK.out | apply KeepBut.set_ | apply keep_drewN | apply keep_drew | apply keep_alloc | refine keep_far ?_ GW262.out _) | exact HK.out)⟩
          · rw [if_neg c35] at H
            exact absurd H (by simp)
end Go.Proofs.Ytndkblahnihhjaa.P

namespace Go.Proofs.Ytndkblahnihhjaa.P
open Go.RowKit Go.Proofs.YtndkblahnihhjaaW.PrintWords Go.Proofs.YtndkblahnihhjaaW.PrintLast Go.Proofs.YtndkblahnihhjaaW.PrintMore
attribute [local go_sem] max2_int min2_int max_two min_two max_three min_three max_four min_four
def spec_DrawJoinsOf.f (k : Nat) (l0 : List Int) : Option (List (List Int) × List Int) := (spec_l1Cur_graph.f k l0 0 0).bind fun g => (spec_l1Cur_one.f l0 g.2.1 g.2.2 12).bind fun b => (spec_l1Cur_someBlocks.f k l0 b.2.1 b.2.2 g.1 (!b.1)).map fun s => (g.1, s.1)
set_option maxHeartbeats 8000000 in
set_option maxRecDepth 100000 in
theorem spec_DrawJoinsOf.calls (k : Nat) (A0 : Option Addr) (c0 : Nat) (l0 : List Int) (q1 : List (List Int)) (q2 : List Int) (w : World) (hr0 : Kd.C (Kd.int .u8) w A0 l0.length l0) (hc0 : l0.length ≤ c0) (h : spec_DrawJoinsOf.f k l0 = some (q1, q2)) :
    Calls Try.prog 22 #[.slice A0 l0.length c0] w fun e w' => ∃ v0_ v1_ : Value, e = .returned (.tuple #[.agg #[v0_], v1_]) ∧ Kd.S (Kd.slice 3 (Kd.int .i64)) 32 w' w.heap.size (fun k_ => some k_ ≠ (v1_ : Value).ownBlock) v0_ q1 ∧ (Kd.int .i64).R 3 w' w.heap.size (fun _ => True) v1_ q2 ∧ Below w.heap.size w w' := by
  unfold spec_DrawJoinsOf.f at h
  obtain ⟨⟨r1, n2, n3⟩, h1, h⟩ := Option.bind_eq_some_iff.1 h
  obtain ⟨⟨b1, o2, o3⟩, h2, h⟩ := Option.bind_eq_some_iff.1 h
  obtain ⟨⟨r2, m2, m3⟩, h3, h⟩ := Option.map_eq_some_iff.1 h
  simp only [Prod.mk.injEq] at h
  obtain ⟨e1, e2⟩ := h
  subst e1 e2
  have H1 := Aside0.mk h1
  have H2 := Aside0.mk h2
  have H3 := Aside0.mk h3
  clear h1 h2 h3
  have HR0 := Aside0.mk hr0
  have HO := Aside0.mk (H.Own.nil w)
  clear hr0
  go_enter Try.func22, Try.ntmps22
  go_wp2_with (first | ((with_reducible refine gate_dst (N := 2) rfl ?_); refine H.own_box HO.out ?bxg (N := 2) ?bxd (cs := #[Value.slice none 0 0]) (t := 28) ?bxr ?_; (case bxd => rfl); (case bxg => rfl); (case bxr => first | (go_simp; done) | (go_simp; rfl)); intro ga w_ ho_ hb_; replace HO := Aside0.mk ho_; clear ho_ hb_) | ((with_reducible refine gate_dst (N := 8) rfl ?_); refine H.own_box HO.out ?bxg (N := 8) ?bxd (cs := #[Value.slice A0 l0.length c0, Value.int .i64 0, Value.int .u64 0]) (t := 74) ?bxr ?_; (case bxd => rfl); (case bxg => rfl); (case bxr => first | (go_simp; done) | (go_simp; rfl)); intro gc w_ ho_ hb_; replace HO := Aside0.mk ho_; clear ho_ hb_) | (go_at_call 56; refine (spec_l1Cur_graph.calls k gc l0 0 0 r1 n2 n3 w _ ⟨A0, c0, HO.out.get 1 rfl, HO.out.ge 1 rfl, HR0.out⟩ HO.out.below H1.out).mono ?_; rintro e w' ⟨v0, rfl, hv, hi, hb, hk⟩; have HV := Aside0.mk (IsS74.apartS hi (Kd.S_lower hv HO.out.size) (by decide)); have HCI := Aside0.mk hi; replace HO := Aside0.mk ((HO.out.take (L := [(ga, #[Value.slice none 0 0], 28)]) (by simp)).cursor (HO.out.get 1 rfl) (by simp) hk hb); obtain ⟨AV, cV, eV, _, _⟩ := Kd.S_reads HV.out; subst eV; clear hv hi hb hk) | ((with_reducible refine gate_dst (N := 5) rfl ?_); refine H.own_box HO.out ?bxg (N := 5) ?bxd (cs := #[Value.slice none 0 0]) (t := 28) ?bxr ?_; (case bxd => rfl); (case bxg => rfl); (case bxr => first | (go_simp; done) | (go_simp; rfl)); intro gg w_ ho_ hb_; replace HV := Aside0.mk (Kd.S_below HV.out hb_); replace HCI := Aside0.mk (HCI.out.below hb_); replace HO := Aside0.mk ho_; clear ho_ hb_) | ((with_reducible refine gate_store (t := 28) (p := 5) rfl ?_); refine H.own_store HO.out 1 (cs' := #[Value.slice AV r1.length cV]) rfl rfl rfl rfl rfl (u := .agg #[Value.slice AV r1.length cV]) (seg := [Value.slice AV r1.length cV]) rfl rfl (by kernel_rfl) (by simp [Value.oneCell']) (by simp) (by simp) ?_; intro w_ ho_ hg_; replace HV := Aside0.mk (HO.out.keepS 1 rfl HV.out hg_ (by decide)); replace HCI := Aside0.mk (HCI.out.grown hg_ (by have := HCI.out.ne_blk (HO.out.get 1 rfl) (by decide); simpa using this)); replace HO := Aside0.mk ho_; clear ho_ hg_))
  replace HO := Aside0.mk HO.out.drew
  replace HV := Aside0.mk (Kd.S_drew HV.out)
  replace HCI := Aside0.mk HCI.out.drew
  refine start_ (n := 9) (S := fun w' => w'.rangeAt gg 0 [Value.slice AV r1.length cV]) (ds := []) #[false, false, false, false, false, false, false, false, false] (by kernel_rfl) rfl rfl ((HO.out.range 1 rfl)) (fun hHeld => ?_)
  refine pure_ (i := 1) (N := some 12) (v := ?_) (a' := ?_) #[false, true, false, false, false, false, false, false, false] rfl rfl (by kernel_rfl) (fun _ _ _ h => h) (Or.inl ⟨by rfl, ?_⟩) ?_ ?_
  rotate_left
  · intro w'
    go_simp
    with_reducible rfl
  rotate_left
  · simp only [Act.put, List.setIfInBounds_toArray, List.set_cons_zero, List.set_cons_succ, i64_w, i32_w]
    rfl
  refine pure_ (i := 3) (N := some 14) (v := ?_) (a' := ?_) #[false, true, false, true, false, false, false, false, false] rfl rfl (by kernel_rfl) (fun _ _ _ h => h) (Or.inl ⟨by rfl, ?_⟩) ?_ ?_
  rotate_left
  · intro w'
    go_simp
    with_reducible rfl
  rotate_left
  · simp only [Act.put, List.setIfInBounds_toArray, List.set_cons_zero, List.set_cons_succ, i64_w, i32_w]
    rfl
  refine take_ (i := 0) (N := some 11) (v := .agg #[Value.slice AV r1.length cV]) (a' := ?_) #[true, true, false, true, false, false, false, false, false] rfl rfl (by kernel_rfl) (fun _ _ _ h => h) (yieldsIf_load_mid (by rfl) 28 (.tmp 5) rfl gg 0 rfl [Value.slice AV r1.length cV] _ (fun W h => h) Try.underlying28 rfl (by kernel_rfl)) hHeld ?_ ?_
  rotate_left
  · simp only [Act.put, List.setIfInBounds_toArray, List.set_cons_zero, List.set_cons_succ, i64_w, i32_w]
    rfl
  refine take_ (i := 2) (N := some 13) (v := .agg #[Value.slice AV r1.length cV]) (a' := ?_) #[true, true, true, true, false, false, false, false, false] rfl rfl (by kernel_rfl) (fun _ _ _ h => h) (yieldsIf_load_mid (by rfl) 28 (.tmp 5) rfl gg 0 rfl [Value.slice AV r1.length cV] _ (fun W h => h) Try.underlying28 rfl (by kernel_rfl)) hHeld ?_ ?_
  rotate_left
  · simp only [Act.put, List.setIfInBounds_toArray, List.set_cons_zero, List.set_cons_succ, i64_w, i32_w]
    rfl
  refine one_ (i := 4) (N := some 15) #[true, true, true, true, true, false, false, false, false] rfl rfl (by kernel_rfl) (by decide) (fun K hK => ?_)
  refine goes_ Try.func58 (by kernel_rfl) rfl #[.pointer (some ⟨gc, 0, none⟩), .int .i64 12] (by rfl) rfl rfl (by simp only [List.map_toArray, List.map_cons, List.map_nil]; rfl) ?_
  with_reducible refine (spec_l1Cur_one.calls gc l0 _ _ 12 b1 o2 o3 w _ HCI.out HO.out.below H2.out).mono ?_
  rintro e w_ ⟨rfl, hi, hb, hk⟩
  refine ⟨_, rfl, ?_⟩
  replace HV := Aside0.mk (H.S_cursor HV.out hk)
  obtain ⟨A_, c_, hgc, _, _⟩ := HCI.out
  replace HO := Aside0.mk (HO.out.cursor hgc (by simp) hk hb)
  replace HCI := Aside0.mk hi
  clear hi hb hk hgc
  refine hK.out _ _ ((HO.out.range 1 rfl)) (fun hHeld => ?_)
  clear hK K
  refine norm_ (a' := ?_) ?_ ?_
  rotate_left
  · show Act.put _ (some 15) _ = _
    simp only [Act.put, List.setIfInBounds_toArray, List.set_cons_zero, List.set_cons_succ, i64_w, i32_w]
    rfl
  refine pure_ (i := 5) (N := some 16) (v := ?_) (a' := ?_) #[true, true, true, true, true, true, false, false, false] rfl rfl (by kernel_rfl) (fun _ _ _ h => h) (Or.inl ⟨by rfl, ?_⟩) ?_ ?_
  rotate_left
  · intro w'
    go_simp
    with_reducible rfl
  rotate_left
  · simp only [Act.put, List.setIfInBounds_toArray, List.set_cons_zero, List.set_cons_succ, i64_w, i32_w]
    rfl
  refine one_ (i := 6) (N := some 17) #[true, true, true, true, true, true, true, false, false] rfl rfl (by kernel_rfl) (by decide) (fun K hK => ?_)
  refine goes_ Try.func57 (by kernel_rfl) rfl #[.pointer (some ⟨gc, 0, none⟩), .agg #[.slice AV r1.length cV], .bool (!b1)] (by rfl) rfl rfl (by simp only [List.map_toArray, List.map_cons, List.map_nil]; rfl) ?_
  with_reducible refine (spec_l1Cur_someBlocks.calls k gc l0 _ _ AV cV r1 (!b1) r2 m2 m3 w _ HCI.out HO.out.below (fun W_ hk => (Kd.S_reads' (H.S_cursor HV.out hk)).2.2) (Kd.S_reads' HV.out).2.1 H3.out).mono ?_
  rintro e w_ ⟨v1, rfl, hv1, hi, hb, hk⟩
  refine ⟨_, rfl, ?_⟩
  have hvb := Kd.S_bound HV.out
  replace HV := Aside0.mk (Kd.S_mono (ok' := fun k_ => (True ∧ k_ ≠ gc) ∧ some k_ ≠ (v1 : Value).ownBlock) (Kd.S_step hvb (fun k hok hlt => hk.2 k hlt hok.1.2 (by simp))) (fun k hk' => ⟨hk'.1, fun e => by have := Kd.R_base hv1 k e.symm; have := hk'.2.2; omega⟩))
  have HV1 := Aside0.mk (Kd.R_lower hv1 HO.out.size)
  obtain ⟨A_, c_, hgc, _, _⟩ := HCI.out
  replace HO := Aside0.mk (HO.out.cursor hgc (by simp) hk hb)
  replace HCI := Aside0.mk hi
  clear hi hb hk hgc hvb hv1
  refine hK.out _ _ ((HO.out.range 1 rfl)) (fun hHeld => ?_)
  clear hK K
  refine norm_ (a' := ?_) ?_ ?_
  rotate_left
  · show Act.put _ (some 17) _ = _
    simp only [Act.put, List.setIfInBounds_toArray, List.set_cons_zero, List.set_cons_succ, i64_w, i32_w]
    rfl
  refine one_ (i := 7) (N := none) #[true, true, true, true, true, true, true, true, false] rfl rfl (by kernel_rfl) (by decide) (fun K hK => ?_)
  refine H.own_store_step HO.out (by rfl) 0 (cs' := #[Value.slice AV r1.length cV]) rfl rfl rfl rfl (u := .agg #[Value.slice AV r1.length cV]) (seg := [Value.slice AV r1.length cV]) rfl rfl (by kernel_rfl) (by simp [Value.oneCell']) (by simp) (by simp) ?_
  intro w_ ho_ hg_
  replace HV := Aside0.mk (HO.out.keepS 0 rfl HV.out hg_ (by decide))
  replace HV1 := Aside0.mk (HO.out.keep 0 rfl HV1.out hg_ (by decide))
  replace HO := Aside0.mk ho_
  clear ho_ hg_
  refine hK.out _ _ ((HO.out.range 1 rfl)) (fun hHeld => ?_)
  clear hK K
  refine pure_ (i := 8) (N := some 3) (v := ?_) (a' := ?_) #[true, true, true, true, true, true, true, true, true] rfl rfl (by kernel_rfl) (fun _ _ _ h => h) (Or.inl ⟨by rfl, ?_⟩) ?_ ?_
  rotate_left
  · intro w'
    go_simp
    with_reducible rfl
  rotate_left
  · simp only [Act.put, List.setIfInBounds_toArray, List.set_cons_zero, List.set_cons_succ, i64_w, i32_w]
    rfl
  refine done_ (by kernel_rfl) ?_
  (try simp only [Exit.inBlock, Exit.then])
  go_wp2
  (try simp only [Exit.inBlock, Exit.then])
  refine bodyPost_ret (results_ct rfl _ _ ga _ #[Value.slice AV r1.length cV] (0, 0) _ rfl (HO.out.get 0 rfl) Try.underlying28 rfl (by kernel_rfl)) rfl ?_
  exact ⟨_, _, rfl, Kd.S_mono HV.out (fun k hk => hk.2), HV1.out, HO.out.below⟩
end Go.Proofs.Ytndkblahnihhjaa.P

namespace Go.Proofs.Ytndkblahnihhjaa.P
open Go.RowKit Go.Proofs.YtndkblahnihhjaaW.PrintWords Go.Proofs.YtndkblahnihhjaaW.PrintLast Go.Proofs.YtndkblahnihhjaaW.PrintMore
attribute [local go_sem] max2_int min2_int max_two min_two max_three min_three max_four min_four
def impl_FrontierOf.f (l0_0 : List (List Int)) : Option (List (List Int) × Bool) := some (if H.goodG l0_0 then ((H.froF l0_0).map (fun r => listTo r 12), true) else ([], false))
set_option maxHeartbeats 8000000 in
set_option maxRecDepth 100000 in
theorem impl_FrontierOf.calls (A0_0 : Option Addr) (c0_0 : Nat) (l0_0 : List (List Int)) (r1 : List (List Int)) (r2 : Bool) (w : World) (hr0_0 : Kd.C (Kd.slice 3 (Kd.int .i64)) w A0_0 l0_0.length l0_0) (hc0_0 : l0_0.length ≤ c0_0) (h : impl_FrontierOf.f l0_0 = some (r1, r2)) :
    Calls Try.prog 23 #[.agg #[.slice A0_0 l0_0.length c0_0]] w fun e w' => ∃ v0_ : Value, e = .returned (.tuple #[v0_, .bool r2]) ∧ Kd.S (Kd.slice 3 (Kd.int .i64)) 32 w' w.heap.size (fun _ => True) v0_ r1 ∧ Below w.heap.size w w' := by
  replace h := Option.some.inj h
  have HR0 := Aside0.mk hr0_0
  have HC0 := Aside0.mk hc0_0
  clear hr0_0 hc0_0
  have HO := Aside0.mk (H.Own.nil w)
  have HK := Aside0.mk (fun (W : World) (hb : Below w.heap.size w W) => impl_GoodGraph.calls A0_0 c0_0 l0_0 _ W (Kd.C_below HR0.out hb) HC0.out rfl)
  cases hg : H.goodG l0_0 with
  | false =>
    rw [hg, if_neg (by simp), Prod.mk.injEq] at h
    obtain ⟨rfl, rfl⟩ := h
    rw [hg] at HK
    clear hg
    go_enter Try.func23, Try.ntmps23
    go_wp2_with (first | ((with_reducible refine gate_dst (N := 1) rfl ?_); refine H.own_box HO.out ?bxg (N := 1) ?bxd (cs := #[Value.slice A0_0 l0_0.length c0_0]) (t := 28) ?bxr ?_; (case bxd => rfl); (case bxg => rfl); (case bxr => first | (go_simp; done) | (go_simp; rfl)); intro gp w_ ho_ hb_; replace HO := Aside0.mk ho_; clear ho_ hb_) | ((with_reducible refine gate_dst (N := 7) rfl ?_); refine wpList_load_row rfl 28 (.tmp 1) rfl _ rfl 28 _ (0, 0) _ (HO.out.get 0 rfl) Try.underlying28 rfl (by kernel_rfl) ?_) | (go_at_call 45; refine (HK.out _ HO.out.below).mono ?_; rintro e w' ⟨rfl, hb⟩; replace HO := Aside0.mk (HO.out.step hb); clear hb))
    go_ret2
    exact ⟨_, rfl, Kd.S_nil _ _ _ _ _, HO.out.below⟩
  | true =>
    rw [hg, if_pos rfl, Prod.mk.injEq] at h
    obtain ⟨rfl, rfl⟩ := h
    rw [hg] at HK
    have hr := H.goodG_rows hg
    have hn1 : 1 ≤ l0_0.length := hr.1.1
    have hn2 : l0_0.length ≤ 12 := hr.1.2
    have HG := Aside0.mk hg
    clear hg hr
    have HI := Aside0.mk (show (Try.prog.info? 63).map (·.size) = some 12 by kernel_rfl)
    have hml := H.matF_len (H.froV l0_0) l0_0.length
    have hmm := H.matF_mat (H.froV l0_0) l0_0.length
    have HMM : Aside0 (H.Mat 12 (H.froF l0_0)) := ⟨hmm⟩
    have HML : Aside0 ((H.froF l0_0).length = l0_0.length) := ⟨hml⟩
    clear hml hmm
    obtain ⟨M, hMD⟩ : ∃ M, H.froF l0_0 = M := ⟨_, rfl⟩
    rw [hMD] at HMM HML ⊢
    have HMD := Aside0.mk hMD
    clear hMD
    go_enter Try.func23, Try.ntmps23
    go_wp2_with (first | ((with_reducible refine gate_dst (N := 1) rfl ?_); refine H.own_box HO.out ?bxg (N := 1) ?bxd (cs := #[Value.slice A0_0 l0_0.length c0_0]) (t := 28) ?bxr ?_; (case bxd => rfl); (case bxg => rfl); (case bxr => first | (go_simp; done) | (go_simp; rfl)); intro gp w_ ho_ hb_; replace HO := Aside0.mk ho_; clear ho_ hb_) | ((with_reducible refine gate_dst (N := 7) rfl ?_); refine wpList_load_row rfl 28 (.tmp 1) rfl _ rfl 28 _ (0, 0) _ (HO.out.get 0 rfl) Try.underlying28 rfl (by kernel_rfl) ?_) | (go_at_call 45; refine (HK.out _ HO.out.below).mono ?_; rintro e w' ⟨rfl, hb⟩; replace HO := Aside0.mk (HO.out.step hb); have hx1 := HO.out.cell 0 rfl 0; clear hb) | ((with_reducible refine gate_dst (N := 13) rfl ?_); refine Kd.S_make (Kd.slice 3 (Kd.int .i64)) (w0 := w) w.heap.size 32 rfl (N := 13) rfl 22 _ _ rfl (l0_0.length : Int) rfl rfl Try.underlying22 (.slice none 0 0) 24 info32 rfl (by decide) (by omega) [] (ok := fun _ => True) (okp := fun _ => True) ⟨_, rfl, Kd.R_nil _ _ _ _ _⟩ (fun _ hk => hk) trivial (by omega) (by simp only [Int.toNat_natCast]; omega) HO.out.below HO.out.size ?_; intro vs w_ ho_ hb_ hg_ hnew_; clear hx1; replace HO := Aside0.mk (HO.out.grown hg_ (fun k hk => by cases hk)); have HS := Aside0.mk ho_; clear ho_ hb_ hg_ hnew_) | (go_at_call 59; refine (impl_frontiers.calls ⟨gp, 0, none⟩ A0_0 c0_0 l0_0 _ (HO.out.cell 0 rfl 0) (Kd.C_below HR0.out HO.out.below) HG.out).mono ?_; rintro e w' ⟨gm, rfl, ho⟩; replace HS := Aside0.mk (Kd.S_below HS.out ho.below); replace HO := Aside0.mk (HO.out.join ho); clear ho))
    rw [HMD.out] at HO
    rw [Int.toNat_natCast] at HS
    obtain ⟨gs, cs, rfl, _, _, _⟩ := Kd.S_form HS.out (by simp; omega)
    rw [List.length_replicate] at HS ⊢
    have HML2 := Aside0.mk (show l0_0.length = M.length from HML.out.symm)
    go_loopw [16] (fun vc wr => ∃ i : Nat, vc = .int .i64 i ∧ i ≤ l0_0.length ∧ Aside0 (Kd.S (Kd.slice 3 (Kd.int .i64)) 32 wr w.heap.size (fun _ => True) (.slice (some ⟨gs, 0, none⟩) l0_0.length cs) (H.fillP (fun r => listTo r 12) [] M i)) ∧ Aside0 (H.Own w wr [(gp, #[Value.slice A0_0 l0_0.length c0_0], 28), (gm, H.bcells M.flatten, 63)])) (fun vc _ => l0_0.length - (intOf vc).toNat)
    case atStart => exact ⟨0, rfl, Nat.zero_le _, ⟨by rw [H.fillP_zero, HML.out]; exact HS.out⟩, HO⟩
    case round =>
      clear HO HS
      obtain ⟨i, rfl, hi, HS, HO⟩ := hrel
      by_cases hlt : i < l0_0.length
      · have HIL := Aside0.mk hlt
        have HIM := Aside0.mk (show i < M.length by rw [HML.out]; exact hlt)
        have HST := Aside0.mk (H.fillP_step (f := fun r => listTo r 12) (d := []) [] HIM.out)
        have hil : (i : Int) < (l0_0.length : Int) := by omega
        have HRW := Aside0.mk (HMM.out.row HIM.out)
        obtain ⟨row, hrow⟩ : ∃ row, M.getD i [] = row := ⟨_, rfl⟩
        rw [hrow] at HRW HST
        have HROW := Aside0.mk hrow
        clear hrow
        go_wp2_with (first | ((with_reducible refine gate_dst (N := 20) rfl ?_); refine wpList_load_mid rfl 63 (.tmp 19) rfl gm (i * 12) rfl (row.map Value.bool) _ (by rw [← HROW.out]; exact HO.out.mrange 1 (n := 12) rfl HMM.out HIM.out) Try.underlying63 rfl (by rw [List.length_map, HRW.out]; exact HI.out) ?_) | ((with_reducible refine gate_dst (N := 6) rfl ?_); refine H.own_box HO.out ?bxg (N := 6) ?bxd (cs := H.bcells H.none12) (t := 63) ?bxr ?_; (case bxd => rfl); (case bxg => rfl); (case bxr => first | (go_simp; done) | (go_simp; rfl)); intro gx w_ ho_ hb_; replace HS := Aside0.mk (Kd.S_below HS.out hb_); replace HO := Aside0.mk ho_; clear ho_ hb_) | ((with_reducible refine gate_store (t := 63) (p := 6) rfl ?_); refine H.own_ball HO.out 2 (bs' := row) rfl rfl rfl rfl rfl rfl HI.out HRW.out ?_; intro w_ ho_ hg_; replace HS := Aside0.mk (HO.out.keepS 2 rfl HS.out hg_ (by decide)); replace HO := Aside0.mk ho_; clear ho_ hg_) | (go_at_call 51; refine (impl_list.calls gx 0 row _ (HO.out.brange 2 rfl) HRW.out).mono ?_; rintro e w' ⟨v0, rfl, hv, hb⟩; have HV := Aside0.mk (Kd.R_lower hv HO.out.size); replace HS := Aside0.mk (Kd.S_mono (ok' := fun k => some k ≠ v0.ownBlock) (Kd.S_elder' HS.out (Kd.R_base hv) hb) (fun _ hk => hk.2)); replace HO := Aside0.mk (HO.out.step hb); clear hv hb) | ((with_reducible refine gate_store (t := 32) (p := 24) rfl ?_); refine H.own_rowput HO.out HS.out HV.out (Nat.le_refl _) rfl rfl rfl rfl rfl (by kernel_rfl) HIL.out (by simp) ?_; intro w_ ho_ hs_ hg_; replace HO := Aside0.mk ho_; replace HS := Aside0.mk hs_; clear HV ho_ hs_ hg_))
        go_roundw
        case rel => exact ⟨i + 1, by go_num, by omega, ⟨by rw [← HST.out]; exact HS.out⟩, ⟨HO.out.take (by simp)⟩⟩
        case measure => simp [intOf]; omega
      · have hE : i = l0_0.length := by omega
        subst hE
        go_wp2
        go_ret2
        exact ⟨_, rfl, by have := HS.out; rw [show l0_0.length = M.length from HML2.out, H.fillP_end] at this; rw [HML2.out]; exact this, HO.out.below⟩
end Go.Proofs.Ytndkblahnihhjaa.P

namespace Go.Proofs.Ytndkblahnihhjaa.P
open Go.RowKit Go.Proofs.YtndkblahnihhjaaW.PrintWords Go.Proofs.YtndkblahnihhjaaW.PrintLast Go.Proofs.YtndkblahnihhjaaW.PrintMore
attribute [local go_sem] max2_int min2_int max_two min_two max_three min_three max_four min_four
def impl_DominatorsOf.f (l0_0 : List (List Int)) : Option (List (List Int) × Bool) := some (if H.goodG l0_0 then ((H.domF l0_0).map (fun r => listTo r 12), true) else ([], false))
set_option maxHeartbeats 8000000 in
set_option maxRecDepth 100000 in
theorem impl_DominatorsOf.calls (A0_0 : Option Addr) (c0_0 : Nat) (l0_0 : List (List Int)) (r1 : List (List Int)) (r2 : Bool) (w : World) (hr0_0 : Kd.C (Kd.slice 3 (Kd.int .i64)) w A0_0 l0_0.length l0_0) (hc0_0 : l0_0.length ≤ c0_0) (h : impl_DominatorsOf.f l0_0 = some (r1, r2)) :
    Calls Try.prog 24 #[.agg #[.slice A0_0 l0_0.length c0_0]] w fun e w' => ∃ v0_ : Value, e = .returned (.tuple #[v0_, .bool r2]) ∧ Kd.S (Kd.slice 3 (Kd.int .i64)) 32 w' w.heap.size (fun _ => True) v0_ r1 ∧ Below w.heap.size w w' := by
  replace h := Option.some.inj h
  have HR0 := Aside0.mk hr0_0
  have HC0 := Aside0.mk hc0_0
  clear hr0_0 hc0_0
  have HO := Aside0.mk (H.Own.nil w)
  have HK := Aside0.mk (fun (W : World) (hb : Below w.heap.size w W) => impl_GoodGraph.calls A0_0 c0_0 l0_0 _ W (Kd.C_below HR0.out hb) HC0.out rfl)
  cases hg : H.goodG l0_0 with
  | false =>
    rw [hg, if_neg (by simp), Prod.mk.injEq] at h
    obtain ⟨rfl, rfl⟩ := h
    rw [hg] at HK
    clear hg
    go_enter Try.func24, Try.ntmps24
    go_wp2_with (first | ((with_reducible refine gate_dst (N := 1) rfl ?_); refine H.own_box HO.out ?bxg (N := 1) ?bxd (cs := #[Value.slice A0_0 l0_0.length c0_0]) (t := 28) ?bxr ?_; (case bxd => rfl); (case bxg => rfl); (case bxr => first | (go_simp; done) | (go_simp; rfl)); intro gp w_ ho_ hb_; replace HO := Aside0.mk ho_; clear ho_ hb_) | ((with_reducible refine gate_dst (N := 7) rfl ?_); refine wpList_load_row rfl 28 (.tmp 1) rfl _ rfl 28 _ (0, 0) _ (HO.out.get 0 rfl) Try.underlying28 rfl (by kernel_rfl) ?_) | (go_at_call 45; refine (HK.out _ HO.out.below).mono ?_; rintro e w' ⟨rfl, hb⟩; replace HO := Aside0.mk (HO.out.step hb); clear hb))
    go_ret2
    exact ⟨_, rfl, Kd.S_nil _ _ _ _ _, HO.out.below⟩
  | true =>
    rw [hg, if_pos rfl, Prod.mk.injEq] at h
    obtain ⟨rfl, rfl⟩ := h
    rw [hg] at HK
    have hr := H.goodG_rows hg
    have hn1 : 1 ≤ l0_0.length := hr.1.1
    have hn2 : l0_0.length ≤ 12 := hr.1.2
    have HG := Aside0.mk hg
    clear hg hr
    have HI := Aside0.mk (show (Try.prog.info? 63).map (·.size) = some 12 by kernel_rfl)
    have hml := H.matF_len (fun b j => decide (j < l0_0.length) && H.domV l0_0 b j) l0_0.length
    have hmm := H.matF_mat (fun b j => decide (j < l0_0.length) && H.domV l0_0 b j) l0_0.length
    have HMM : Aside0 (H.Mat 12 (H.domF l0_0)) := ⟨hmm⟩
    have HML : Aside0 ((H.domF l0_0).length = l0_0.length) := ⟨hml⟩
    clear hml hmm
    obtain ⟨M, hMD⟩ : ∃ M, H.domF l0_0 = M := ⟨_, rfl⟩
    rw [hMD] at HMM HML ⊢
    have HMD := Aside0.mk hMD
    clear hMD
    go_enter Try.func24, Try.ntmps24
    go_wp2_with (first | ((with_reducible refine gate_dst (N := 1) rfl ?_); refine H.own_box HO.out ?bxg (N := 1) ?bxd (cs := #[Value.slice A0_0 l0_0.length c0_0]) (t := 28) ?bxr ?_; (case bxd => rfl); (case bxg => rfl); (case bxr => first | (go_simp; done) | (go_simp; rfl)); intro gp w_ ho_ hb_; replace HO := Aside0.mk ho_; clear ho_ hb_) | ((with_reducible refine gate_dst (N := 7) rfl ?_); refine wpList_load_row rfl 28 (.tmp 1) rfl _ rfl 28 _ (0, 0) _ (HO.out.get 0 rfl) Try.underlying28 rfl (by kernel_rfl) ?_) | (go_at_call 45; refine (HK.out _ HO.out.below).mono ?_; rintro e w' ⟨rfl, hb⟩; replace HO := Aside0.mk (HO.out.step hb); have hx1 := HO.out.cell 0 rfl 0; clear hb) | ((with_reducible refine gate_dst (N := 13) rfl ?_); refine Kd.S_make (Kd.slice 3 (Kd.int .i64)) (w0 := w) w.heap.size 32 rfl (N := 13) rfl 22 _ _ rfl (l0_0.length : Int) rfl rfl Try.underlying22 (.slice none 0 0) 24 info32 rfl (by decide) (by omega) [] (ok := fun _ => True) (okp := fun _ => True) ⟨_, rfl, Kd.R_nil _ _ _ _ _⟩ (fun _ hk => hk) trivial (by omega) (by simp only [Int.toNat_natCast]; omega) HO.out.below HO.out.size ?_; intro vs w_ ho_ hb_ hg_ hnew_; clear hx1; replace HO := Aside0.mk (HO.out.grown hg_ (fun k hk => by cases hk)); have HS := Aside0.mk ho_; clear ho_ hb_ hg_ hnew_) | (go_at_call 54; refine (impl_dominators.calls ⟨gp, 0, none⟩ A0_0 c0_0 l0_0 _ (HO.out.cell 0 rfl 0) (Kd.C_below HR0.out HO.out.below) HG.out).mono ?_; rintro e w' ⟨gm, rfl, ho⟩; replace HS := Aside0.mk (Kd.S_below HS.out ho.below); replace HO := Aside0.mk (HO.out.join ho); clear ho))
    rw [HMD.out] at HO
    rw [Int.toNat_natCast] at HS
    obtain ⟨gs, cs, rfl, _, _, _⟩ := Kd.S_form HS.out (by simp; omega)
    rw [List.length_replicate] at HS ⊢
    have HML2 := Aside0.mk (show l0_0.length = M.length from HML.out.symm)
    go_loopw [16] (fun vc wr => ∃ i : Nat, vc = .int .i64 i ∧ i ≤ l0_0.length ∧ Aside0 (Kd.S (Kd.slice 3 (Kd.int .i64)) 32 wr w.heap.size (fun _ => True) (.slice (some ⟨gs, 0, none⟩) l0_0.length cs) (H.fillP (fun r => listTo r 12) [] M i)) ∧ Aside0 (H.Own w wr [(gp, #[Value.slice A0_0 l0_0.length c0_0], 28), (gm, H.bcells M.flatten, 63)])) (fun vc _ => l0_0.length - (intOf vc).toNat)
    case atStart => exact ⟨0, rfl, Nat.zero_le _, ⟨by rw [H.fillP_zero, HML.out]; exact HS.out⟩, HO⟩
    case round =>
      clear HO HS
      obtain ⟨i, rfl, hi, HS, HO⟩ := hrel
      by_cases hlt : i < l0_0.length
      · have HIL := Aside0.mk hlt
        have HIM := Aside0.mk (show i < M.length by rw [HML.out]; exact hlt)
        have HST := Aside0.mk (H.fillP_step (f := fun r => listTo r 12) (d := []) [] HIM.out)
        have hil : (i : Int) < (l0_0.length : Int) := by omega
        have HRW := Aside0.mk (HMM.out.row HIM.out)
        obtain ⟨row, hrow⟩ : ∃ row, M.getD i [] = row := ⟨_, rfl⟩
        rw [hrow] at HRW HST
        have HROW := Aside0.mk hrow
        clear hrow
        go_wp2_with (first | ((with_reducible refine gate_dst (N := 20) rfl ?_); refine wpList_load_mid rfl 63 (.tmp 19) rfl gm (i * 12) rfl (row.map Value.bool) _ (by rw [← HROW.out]; exact HO.out.mrange 1 (n := 12) rfl HMM.out HIM.out) Try.underlying63 rfl (by rw [List.length_map, HRW.out]; exact HI.out) ?_) | ((with_reducible refine gate_dst (N := 6) rfl ?_); refine H.own_box HO.out ?bxg (N := 6) ?bxd (cs := H.bcells H.none12) (t := 63) ?bxr ?_; (case bxd => rfl); (case bxg => rfl); (case bxr => first | (go_simp; done) | (go_simp; rfl)); intro gx w_ ho_ hb_; replace HS := Aside0.mk (Kd.S_below HS.out hb_); replace HO := Aside0.mk ho_; clear ho_ hb_) | ((with_reducible refine gate_store (t := 63) (p := 6) rfl ?_); refine H.own_ball HO.out 2 (bs' := row) rfl rfl rfl rfl rfl rfl HI.out HRW.out ?_; intro w_ ho_ hg_; replace HS := Aside0.mk (HO.out.keepS 2 rfl HS.out hg_ (by decide)); replace HO := Aside0.mk ho_; clear ho_ hg_) | (go_at_call 51; refine (impl_list.calls gx 0 row _ (HO.out.brange 2 rfl) HRW.out).mono ?_; rintro e w' ⟨v0, rfl, hv, hb⟩; have HV := Aside0.mk (Kd.R_lower hv HO.out.size); replace HS := Aside0.mk (Kd.S_mono (ok' := fun k => some k ≠ v0.ownBlock) (Kd.S_elder' HS.out (Kd.R_base hv) hb) (fun _ hk => hk.2)); replace HO := Aside0.mk (HO.out.step hb); clear hv hb) | ((with_reducible refine gate_store (t := 32) (p := 24) rfl ?_); refine H.own_rowput HO.out HS.out HV.out (Nat.le_refl _) rfl rfl rfl rfl rfl (by kernel_rfl) HIL.out (by simp) ?_; intro w_ ho_ hs_ hg_; replace HO := Aside0.mk ho_; replace HS := Aside0.mk hs_; clear HV ho_ hs_ hg_))
        go_roundw
        case rel => exact ⟨i + 1, by go_num, by omega, ⟨by rw [← HST.out]; exact HS.out⟩, ⟨HO.out.take (by simp)⟩⟩
        case measure => simp [intOf]; omega
      · have hE : i = l0_0.length := by omega
        subst hE
        go_wp2
        go_ret2
        exact ⟨_, rfl, by have := HS.out; rw [show l0_0.length = M.length from HML2.out, H.fillP_end] at this; rw [HML2.out]; exact this, HO.out.below⟩
end Go.Proofs.Ytndkblahnihhjaa.P

namespace Go.Proofs.Ytndkblahnihhjaa.P
open Go.RowKit Go.Proofs.YtndkblahnihhjaaW.PrintWords Go.Proofs.YtndkblahnihhjaaW.PrintLast Go.Proofs.YtndkblahnihhjaaW.PrintMore
attribute [local go_sem] max2_int min2_int max_two min_two max_three min_three max_four min_four
def laws_sameInts.l0 : Nat → List Int → List Int → Int → Int → Option (Bool)
  | 0, _, _, _, _ => none
  | k + 1, x0, x1, x12, x13 => if x13 < x12 then (if 0 ≤ x13 then (if x13 < (x0.length : Int) then (if x13 < (x1.length : Int) then (if (rd x0 x13) = (rd x1 x13) then (laws_sameInts.l0 k x0 x1 x12 (wrap64 (x13 + 1))) else (some false)) else (none)) else (none)) else (none)) else (some true)
def laws_sameInts.f (k : Nat) (l0 : List Int) (l1 : List Int) : Option (Bool) := if (l0.length : Int) = (l1.length : Int) then (laws_sameInts.l0 k l0 l1 (l0.length : Int) 0) else (some false)
set_option maxHeartbeats 8000000 in
set_option maxRecDepth 100000 in
theorem laws_sameInts.calls (k : Nat) (A0 : Option Addr) (c0 : Nat) (l0 : List Int) (A1 : Option Addr) (c1 : Nat) (l1 : List Int) (r : Bool) (w : World) (hr0 : Kd.C (Kd.int .i64) w A0 l0.length l0) (hc0 : l0.length ≤ c0) (hr1 : Kd.C (Kd.int .i64) w A1 l1.length l1) (hc1 : l1.length ≤ c1) (h : laws_sameInts.f k l0 l1 = some r) :
    Calls Try.prog 25 #[.slice A0 l0.length c0, .slice A1 l1.length c1] w fun e w' => e = .returned (.bool r) ∧ Drawn0 w w' := by
  have HR0 := Aside0.mk hr0
  have HC0 := Aside0.mk hc0
  clear hr0 hc0
  have HR1 := Aside0.mk hr1
  have HC1 := Aside0.mk hc1
  clear hr1 hc1
  have H : (if (l0.length : Int) = (l1.length : Int) then (laws_sameInts.l0 k l0 l1 (l0.length : Int) 0) else (some false)) = some r := h
  clear h
  by_cases c3 : (l0.length : Int) = (l1.length : Int)
  · rw [if_pos c3] at H
    have c3b0 : ((l0.length : Int) == (l1.length : Int)) = true := beq_iff_eq.mpr c3
    have c3b1 : ((l0.length : Int) != (l1.length : Int)) = false := bne_eq_false_iff_eq.mpr c3
    have c3b2 : (l0.length == l1.length) = true := by first | simpa using c3 | (simp at c3 ⊢; omega)
    clear c3
    have H' := Aside0.mk H
    clear H
    go_enter Try.func25, Try.ntmps25
    go_wp2
    repeat (go_quiet (fail); try go_wp2)
    go_loopg [13] k (fun kq v13 w' => ∃ (x13_1 : Int), v13 = .int .i64 x13_1 ∧ Aside0 (laws_sameInts.l0 kq l0 l1 (l0.length : Int) x13_1 = some r) ∧ Aside0 (kq ≤ k) ∧ Drawn0 w w')
    case atStart => exact ⟨(0), (by first | rfl | (simp; done) | (simp [*]; done)), H', ⟨Nat.le_refl _⟩, by repeat (first | exact Drawn0.refl _ | apply Drawn0.step)⟩
    case round =>
      clear H'
      try clear c1
      try clear c2
      try clear p2
      try clear c3
      try clear c3b0
      try clear c3b1
      try clear c3b2
      obtain ⟨x13_1, rfl, HA, HK1, ⟨m1, rfl⟩⟩ := hrel
      cases gk with
      | zero => exact absurd HA.out (by simp [laws_sameInts.l0])
      | succ k1 =>
        have H := HA.out
        clear HA
        simp only [laws_sameInts.l0] at H
        by_cases c4 : x13_1 < (l0.length : Int)
        · rw [if_pos c4] at H
          have c4b0 : decide (x13_1 < (l0.length : Int)) = true := decide_eq_true c4
          clear c4
          by_cases c5 : 0 ≤ x13_1
          · rw [if_pos c5] at H
            have c5b0 : decide (0 ≤ x13_1) = true := decide_eq_true c5
            clear c5
            by_cases c6 : x13_1 < (l0.length : Int)
            · rw [if_pos c6] at H
              have c6b0 : decide (x13_1 < (l0.length : Int)) = true := decide_eq_true c6
              clear c6
              by_cases c7 : x13_1 < (l1.length : Int)
              · rw [if_pos c7] at H
                have c7b0 : decide (x13_1 < (l1.length : Int)) = true := decide_eq_true c7
                clear c7
                by_cases c8 : (rd l0 x13_1) = (rd l1 x13_1)
                · rw [if_pos c8] at H
                  have c8b0 : ((rd l0 x13_1) == (rd l1 x13_1)) = true := beq_iff_eq.mpr c8
                  have c8b1 : ((rd l0 x13_1) != (rd l1 x13_1)) = false := bne_eq_false_iff_eq.mpr c8
                  clear c8
                  have H' := Aside0.mk H
                  clear H
                  have p292 : 0 ≤ (x13_1 : Int) := of_decide_eq_true (by first | (with_reducible assumption) | assumption)
                  have q292 : x13_1 < (l0.length : Int) := of_decide_eq_true (by first | (with_reducible assumption) | assumption)
                  obtain ⟨ad292, e292, hx292_0⟩ := Kd.at_int HR0.out x13_1 p292 q292
                  cases e292
                  replace p292 := eq_true p292
                  replace q292 := eq_true q292
                  have p293 : 0 ≤ (x13_1 : Int) := of_decide_eq_true (by first | (with_reducible assumption) | assumption)
                  have q293 : x13_1 < (l1.length : Int) := of_decide_eq_true (by first | (with_reducible assumption) | assumption)
                  obtain ⟨ad293, e293, hx293_0⟩ := Kd.at_int HR1.out x13_1 p293 q293
                  cases e293
                  replace p293 := eq_true p293
                  replace q293 := eq_true q293
                  go_wp2
                  repeat (go_quiet (fail); try go_wp2)
                  go_roundg k1
                  case measure => have := HK1.out; omega
                  case rel => exact ⟨(wrap64 (x13_1 + 1)), (by first | rfl | (simp; done) | (simp [*]; done)), H', ⟨by have := HK1.out; omega⟩, by repeat (first | exact Drawn0.refl _ | apply Drawn0.step)⟩
                · rw [if_neg c8] at H
                  have c8b0 : ((rd l0 x13_1) == (rd l1 x13_1)) = false := beq_eq_false_iff_ne.mpr c8
                  have c8b1 : ((rd l0 x13_1) != (rd l1 x13_1)) = true := bne_iff_ne.mpr c8
                  obtain rfl := Option.some.inj H
                  have p292 : 0 ≤ (x13_1 : Int) := of_decide_eq_true (by first | (with_reducible assumption) | assumption)
                  have q292 : x13_1 < (l0.length : Int) := of_decide_eq_true (by first | (with_reducible assumption) | assumption)
                  obtain ⟨ad292, e292, hx292_0⟩ := Kd.at_int HR0.out x13_1 p292 q292
                  cases e292
                  replace p292 := eq_true p292
                  replace q292 := eq_true q292
                  have p293 : 0 ≤ (x13_1 : Int) := of_decide_eq_true (by first | (with_reducible assumption) | assumption)
                  have q293 : x13_1 < (l1.length : Int) := of_decide_eq_true (by first | (with_reducible assumption) | assumption)
                  obtain ⟨ad293, e293, hx293_0⟩ := Kd.at_int HR1.out x13_1 p293 q293
                  cases e293
                  replace p293 := eq_true p293
                  replace q293 := eq_true q293
                  go_wp2
                  repeat (go_quiet (fail); try go_wp2)
                  go_ret
                  exact ⟨by first | rfl | (simp; done) | (simp [*]; done), by repeat (first | exact Drawn0.refl _ | apply Drawn0.step)⟩
              · rw [if_neg c7] at H
                exact absurd H (by simp)
            · rw [if_neg c6] at H
              exact absurd H (by simp)
          · rw [if_neg c5] at H
            exact absurd H (by simp)
        · rw [if_neg c4] at H
          have c4b0 : decide (x13_1 < (l0.length : Int)) = false := decide_eq_false c4
          clear c4
          obtain rfl := Option.some.inj H
          go_wp2
          repeat (go_quiet (fail); try go_wp2)
          go_ret
          exact ⟨by first | rfl | (simp; done) | (simp [*]; done), by repeat (first | exact Drawn0.refl _ | apply Drawn0.step)⟩
  · rw [if_neg c3] at H
    have c3b0 : ((l0.length : Int) == (l1.length : Int)) = false := beq_eq_false_iff_ne.mpr c3
    have c3b1 : ((l0.length : Int) != (l1.length : Int)) = true := bne_iff_ne.mpr c3
    have c3b2 : (l0.length == l1.length) = false := by first | simpa using c3 | (simp at c3 ⊢; omega)
    obtain rfl := Option.some.inj H
    go_enter Try.func25, Try.ntmps25
    go_wp2
    repeat (go_quiet (fail); try go_wp2)
    go_ret
    exact ⟨by first | rfl | (simp; done) | (simp [*]; done), by repeat (first | exact Drawn0.refl _ | apply Drawn0.step)⟩
end Go.Proofs.Ytndkblahnihhjaa.P

namespace Go.Proofs.Ytndkblahnihhjaa.P
open Go.RowKit Go.Proofs.YtndkblahnihhjaaW.PrintWords Go.Proofs.YtndkblahnihhjaaW.PrintLast Go.Proofs.YtndkblahnihhjaaW.PrintMore
attribute [local go_sem] max2_int min2_int max_two min_two max_three min_three max_four min_four
def laws_has.l0 : Nat → Int → List Int → Int → Int → Option (Bool)
  | 0, _, _, _, _ => none
  | k + 1, x1, x7, x8, x9 => if x9 < x8 then (if 0 ≤ x9 then (if x9 < (x7.length : Int) then (if (rd x7 x9) = x1 then (some true) else (laws_has.l0 k x1 x7 x8 (wrap64 (x9 + 1)))) else (none)) else (none)) else (some false)
def laws_has.f (k : Nat) (l0 : List Int) (a1 : Int) : Option (Bool) := laws_has.l0 k a1 l0 (l0.length : Int) 0
set_option maxHeartbeats 8000000 in
set_option maxRecDepth 100000 in
theorem laws_has.calls (k : Nat) (A0 : Option Addr) (c0 : Nat) (l0 : List Int) (a1 : Int) (r : Bool) (w : World) (hr0 : Kd.C (Kd.int .i64) w A0 l0.length l0) (hc0 : l0.length ≤ c0) (h : laws_has.f k l0 a1 = some r) :
    Calls Try.prog 26 #[.slice A0 l0.length c0, .int .i64 a1] w fun e w' => e = .returned (.bool r) ∧ Drawn0 w w' := by
  have HR0 := Aside0.mk hr0
  have HC0 := Aside0.mk hc0
  clear hr0 hc0
  have H : (laws_has.l0 k a1 l0 (l0.length : Int) 0) = some r := h
  clear h
  have H' := Aside0.mk H
  clear H
  go_enter Try.func26, Try.ntmps26
  go_wp2
  go_loopg [9] k (fun kq v9 w' => ∃ (x9_1 : Int), v9 = .int .i64 x9_1 ∧ Aside0 (laws_has.l0 kq a1 l0 (l0.length : Int) x9_1 = some r) ∧ Aside0 (kq ≤ k) ∧ Drawn0 w w')
  case atStart => exact ⟨(0), (by first | rfl | (simp; done) | (simp [*]; done)), H', ⟨Nat.le_refl _⟩, by repeat (first | exact Drawn0.refl _ | apply Drawn0.step)⟩
  case round =>
    clear H'
    try clear c2
    try clear p2
    obtain ⟨x9_1, rfl, HA, HK1, ⟨m1, rfl⟩⟩ := hrel
    cases gk with
    | zero => exact absurd HA.out (by simp [laws_has.l0])
    | succ k1 =>
      have H := HA.out
      clear HA
      simp only [laws_has.l0] at H
      by_cases c3 : x9_1 < (l0.length : Int)
      · rw [if_pos c3] at H
        have c3b0 : decide (x9_1 < (l0.length : Int)) = true := decide_eq_true c3
        clear c3
        by_cases c4 : 0 ≤ x9_1
        · rw [if_pos c4] at H
          have c4b0 : decide (0 ≤ x9_1) = true := decide_eq_true c4
          clear c4
          by_cases c5 : x9_1 < (l0.length : Int)
          · rw [if_pos c5] at H
            have c5b0 : decide (x9_1 < (l0.length : Int)) = true := decide_eq_true c5
            clear c5
            by_cases c6 : (rd l0 x9_1) = a1
            · rw [if_pos c6] at H
              have c6b0 : ((rd l0 x9_1) == a1) = true := beq_iff_eq.mpr c6
              have c6b1 : ((rd l0 x9_1) != a1) = false := bne_eq_false_iff_eq.mpr c6
              clear c6
              obtain rfl := Option.some.inj H
              have p294 : 0 ≤ (x9_1 : Int) := of_decide_eq_true (by first | (with_reducible assumption) | assumption)
              have q294 : x9_1 < (l0.length : Int) := of_decide_eq_true (by first | (with_reducible assumption) | assumption)
              obtain ⟨ad294, e294, hx294_0⟩ := Kd.at_int HR0.out x9_1 p294 q294
              cases e294
              replace p294 := eq_true p294
              replace q294 := eq_true q294
              go_wp2
              go_ret
              exact ⟨by first | rfl | (simp; done) | (simp [*]; done), by repeat (first | exact Drawn0.refl _ | apply Drawn0.step)⟩
            · rw [if_neg c6] at H
              have c6b0 : ((rd l0 x9_1) == a1) = false := beq_eq_false_iff_ne.mpr c6
              have c6b1 : ((rd l0 x9_1) != a1) = true := bne_iff_ne.mpr c6
              have H' := Aside0.mk H
              clear H
              have p294 : 0 ≤ (x9_1 : Int) := of_decide_eq_true (by first | (with_reducible assumption) | assumption)
              have q294 : x9_1 < (l0.length : Int) := of_decide_eq_true (by first | (with_reducible assumption) | assumption)
              obtain ⟨ad294, e294, hx294_0⟩ := Kd.at_int HR0.out x9_1 p294 q294
              cases e294
              replace p294 := eq_true p294
              replace q294 := eq_true q294
              go_wp2
              go_roundg k1
              case measure => have := HK1.out; omega
              case rel => exact ⟨(wrap64 (x9_1 + 1)), (by first | rfl | (simp; done) | (simp [*]; done)), H', ⟨by have := HK1.out; omega⟩, by repeat (first | exact Drawn0.refl _ | apply Drawn0.step)⟩
          · rw [if_neg c5] at H
            exact absurd H (by simp)
        · rw [if_neg c4] at H
          exact absurd H (by simp)
      · rw [if_neg c3] at H
        have c3b0 : decide (x9_1 < (l0.length : Int)) = false := decide_eq_false c3
        clear c3
        obtain rfl := Option.some.inj H
        go_wp2
        go_ret
        exact ⟨by first | rfl | (simp; done) | (simp [*]; done), by repeat (first | exact Drawn0.refl _ | apply Drawn0.step)⟩
end Go.Proofs.Ytndkblahnihhjaa.P

namespace Go.Proofs.Ytndkblahnihhjaa.P
open Go.RowKit Go.Proofs.YtndkblahnihhjaaW.PrintWords Go.Proofs.YtndkblahnihhjaaW.PrintLast Go.Proofs.YtndkblahnihhjaaW.PrintMore
attribute [local go_sem] max2_int min2_int max_two min_two max_three min_three max_four min_four
def spec_DrawMeetingOf.f (k : Nat) (l0 : List Int) : Option (List (List Int) × Int × Int) := (spec_l1Cur_graph.f k l0 0 0).bind fun g => (spec_l1Cur_pick.f l0 g.2.1 g.2.2 (wrap64 ((g.1.length : Int) + 1))).bind fun b => (spec_l1Cur_pick.f l0 b.2.1 b.2.2 (g.1.length : Int)).map fun s => (g.1, b.1, s.1)
set_option maxHeartbeats 8000000 in
set_option maxRecDepth 100000 in
theorem spec_DrawMeetingOf.calls (k : Nat) (A0 : Option Addr) (c0 : Nat) (l0 : List Int) (q1 : List (List Int)) (q2 : Int) (q3 : Int) (w : World) (hr0 : Kd.C (Kd.int .u8) w A0 l0.length l0) (hc0 : l0.length ≤ c0) (h : spec_DrawMeetingOf.f k l0 = some (q1, q2, q3)) :
    Calls Try.prog 27 #[.slice A0 l0.length c0] w fun e w' => ∃ v0_ : Value, e = .returned (.tuple #[.agg #[v0_], .int .i64 q2, .int .i64 q3]) ∧ Kd.S (Kd.slice 3 (Kd.int .i64)) 32 w' w.heap.size (fun _ => True) v0_ q1 ∧ Below w.heap.size w w' := by
  unfold spec_DrawMeetingOf.f at h
  obtain ⟨⟨r1, n2, n3⟩, h1, h⟩ := Option.bind_eq_some_iff.1 h
  obtain ⟨⟨b1, o2, o3⟩, h2, h⟩ := Option.bind_eq_some_iff.1 h
  obtain ⟨⟨b2, m2, m3⟩, h3, h⟩ := Option.map_eq_some_iff.1 h
  simp only [Prod.mk.injEq] at h
  obtain ⟨e1, e2, e3⟩ := h
  subst e1 e2 e3
  have H1 := Aside0.mk h1
  have H2 := Aside0.mk h2
  have H3 := Aside0.mk h3
  clear h1 h2 h3
  have HR0 := Aside0.mk hr0
  have HO := Aside0.mk (H.Own.nil w)
  clear hr0
  go_enter Try.func27, Try.ntmps27
  go_wp2_with (first | ((with_reducible refine gate_dst (N := 2) rfl ?_); refine H.own_box HO.out ?bxg (N := 2) ?bxd (cs := #[Value.slice none 0 0]) (t := 28) ?bxr ?_; (case bxd => rfl); (case bxg => rfl); (case bxr => first | (go_simp; done) | (go_simp; rfl)); intro ga w_ ho_ hb_; replace HO := Aside0.mk ho_; clear ho_ hb_) | ((with_reducible refine gate_dst (N := 9) rfl ?_); refine H.own_box HO.out ?bxg (N := 9) ?bxd (cs := #[Value.slice A0 l0.length c0, Value.int .i64 0, Value.int .u64 0]) (t := 74) ?bxr ?_; (case bxd => rfl); (case bxg => rfl); (case bxr => first | (go_simp; done) | (go_simp; rfl)); intro gc w_ ho_ hb_; replace HO := Aside0.mk ho_; clear ho_ hb_) | (go_at_call 56; refine (spec_l1Cur_graph.calls k gc l0 0 0 r1 n2 n3 w _ ⟨A0, c0, HO.out.get 1 rfl, HO.out.ge 1 rfl, HR0.out⟩ HO.out.below H1.out).mono ?_; rintro e w' ⟨v0, rfl, hv, hi, hb, hk⟩; have HV := Aside0.mk (IsS74.apartS hi (Kd.S_lower hv HO.out.size) (by decide)); have HCI := Aside0.mk hi; replace HO := Aside0.mk ((HO.out.take (L := [(ga, #[Value.slice none 0 0], 28)]) (by simp)).cursor (HO.out.get 1 rfl) (by simp) hk hb); obtain ⟨AV, cV, eV, _, _⟩ := Kd.S_reads HV.out; subst eV; clear hv hi hb hk) | ((with_reducible refine gate_dst (N := 6) rfl ?_); refine H.own_box HO.out ?bxg (N := 6) ?bxd (cs := #[Value.slice none 0 0]) (t := 28) ?bxr ?_; (case bxd => rfl); (case bxg => rfl); (case bxr => first | (go_simp; done) | (go_simp; rfl)); intro gg w_ ho_ hb_; replace HV := Aside0.mk (Kd.S_below HV.out hb_); replace HCI := Aside0.mk (HCI.out.below hb_); replace HO := Aside0.mk ho_; clear ho_ hb_) | ((with_reducible refine gate_store (t := 28) (p := 6) rfl ?_); refine H.own_store HO.out 1 (cs' := #[Value.slice AV r1.length cV]) rfl rfl rfl rfl rfl (u := .agg #[Value.slice AV r1.length cV]) (seg := [Value.slice AV r1.length cV]) rfl rfl (by kernel_rfl) (by simp [Value.oneCell']) (by simp) (by simp) ?_; intro w_ ho_ hg_; replace HV := Aside0.mk (HO.out.keepS 1 rfl HV.out hg_ (by decide)); replace HCI := Aside0.mk (HCI.out.grown hg_ (by have := HCI.out.ne_blk (HO.out.get 1 rfl) (by decide); simpa using this)); replace HO := Aside0.mk ho_; clear ho_ hg_))
  replace HO := Aside0.mk HO.out.drew
  replace HV := Aside0.mk (Kd.S_drew HV.out)
  replace HCI := Aside0.mk HCI.out.drew
  refine start_ (n := 15) (S := fun w' => w'.rangeAt gg 0 [Value.slice AV r1.length cV] ∧ w'.cell? ⟨gg, 0, none⟩ = some (Value.slice AV r1.length cV)) (ds := []) #[false, false, false, false, false, false, false, false, false, false, false, false, false, false, false] (by kernel_rfl) rfl rfl ⟨(HO.out.range 1 rfl), (HO.out.cell 1 rfl 0)⟩ (fun hHeld => ?_)
  refine pure_ (i := 1) (N := some 13) (v := ?_) (a' := ?_) #[false, true, false, false, false, false, false, false, false, false, false, false, false, false, false] rfl rfl (by kernel_rfl) (fun _ _ _ h => h) (Or.inl ⟨by rfl, ?_⟩) ?_ ?_
  rotate_left
  · intro w'
    go_simp
    with_reducible rfl
  rotate_left
  · simp only [Act.put, List.setIfInBounds_toArray, List.set_cons_zero, List.set_cons_succ, i64_w, i32_w]
    rfl
  refine pure_ (i := 2) (N := some 14) (v := ?_) (a' := ?_) #[false, true, true, false, false, false, false, false, false, false, false, false, false, false, false] rfl rfl (by kernel_rfl) (fun _ _ _ h => h) (Or.inl ⟨by rfl, ?_⟩) ?_ ?_
  rotate_left
  · intro w'
    go_simp
    with_reducible rfl
  rotate_left
  · simp only [Act.put, List.setIfInBounds_toArray, List.set_cons_zero, List.set_cons_succ, i64_w, i32_w]
    rfl
  refine pure_ (i := 7) (N := some 19) (v := ?_) (a' := ?_) #[false, true, true, false, false, false, false, true, false, false, false, false, false, false, false] rfl rfl (by kernel_rfl) (fun _ _ _ h => h) (Or.inl ⟨by rfl, ?_⟩) ?_ ?_
  rotate_left
  · intro w'
    go_simp
    with_reducible rfl
  rotate_left
  · simp only [Act.put, List.setIfInBounds_toArray, List.set_cons_zero, List.set_cons_succ, i64_w, i32_w]
    rfl
  refine pure_ (i := 8) (N := some 20) (v := ?_) (a' := ?_) #[false, true, true, false, false, false, false, true, true, false, false, false, false, false, false] rfl rfl (by kernel_rfl) (fun _ _ _ h => h) (Or.inl ⟨by rfl, ?_⟩) ?_ ?_
  rotate_left
  · intro w'
    go_simp
    with_reducible rfl
  rotate_left
  · simp only [Act.put, List.setIfInBounds_toArray, List.set_cons_zero, List.set_cons_succ, i64_w, i32_w]
    rfl
  refine take_ (i := 0) (N := some 12) (v := .agg #[Value.slice AV r1.length cV]) (a' := ?_) #[true, true, true, false, false, false, false, true, true, false, false, false, false, false, false] rfl rfl (by kernel_rfl) (fun _ _ _ h => h) (yieldsIf_load_mid (by rfl) 28 (.tmp 6) rfl gg 0 rfl [Value.slice AV r1.length cV] _ (fun W h => h.1) Try.underlying28 rfl (by kernel_rfl)) hHeld ?_ ?_
  rotate_left
  · simp only [Act.put, List.setIfInBounds_toArray, List.set_cons_zero, List.set_cons_succ, i64_w, i32_w]
    rfl
  refine take_ (i := 3) (N := some 15) (v := ?_) (a' := ?_) #[true, true, true, true, false, false, false, true, true, false, false, false, false, false, false] rfl rfl (by kernel_rfl) (fun _ _ _ h => h) (Or.inl ⟨by rfl, ?_⟩) hHeld ?_ ?_
  rotate_left
  · rintro w' ⟨s0, s1⟩
    go_simp
    with_reducible rfl
  rotate_left
  · simp only [Act.put, List.setIfInBounds_toArray, List.set_cons_zero, List.set_cons_succ, i64_w, i32_w]
    rfl
  refine pure_ (i := 4) (N := some 16) (v := ?_) (a' := ?_) #[true, true, true, true, true, false, false, true, true, false, false, false, false, false, false] rfl rfl (by kernel_rfl) (fun _ _ _ h => h) (Or.inl ⟨by rfl, ?_⟩) ?_ ?_
  rotate_left
  · intro w'
    go_simp
    with_reducible rfl
  rotate_left
  · simp only [Act.put, List.setIfInBounds_toArray, List.set_cons_zero, List.set_cons_succ, i64_w, i32_w]
    rfl
  refine pure_ (i := 5) (N := some 17) (v := ?_) (a' := ?_) #[true, true, true, true, true, true, false, true, true, false, false, false, false, false, false] rfl rfl (by kernel_rfl) (fun _ _ _ h => h) (Or.inl ⟨by rfl, ?_⟩) ?_ ?_
  rotate_left
  · intro w'
    go_simp
    with_reducible rfl
  rotate_left
  · simp only [Act.put, List.setIfInBounds_toArray, List.set_cons_zero, List.set_cons_succ, i64_w, i32_w]
    rfl
  refine take_ (i := 9) (N := some 21) (v := ?_) (a' := ?_) #[true, true, true, true, true, true, false, true, true, true, false, false, false, false, false] rfl rfl (by kernel_rfl) (fun _ _ _ h => h) (Or.inl ⟨by rfl, ?_⟩) hHeld ?_ ?_
  rotate_left
  · rintro w' ⟨s0, s1⟩
    go_simp
    with_reducible rfl
  rotate_left
  · simp only [Act.put, List.setIfInBounds_toArray, List.set_cons_zero, List.set_cons_succ, i64_w, i32_w]
    rfl
  refine pure_ (i := 10) (N := some 22) (v := ?_) (a' := ?_) #[true, true, true, true, true, true, false, true, true, true, true, false, false, false, false] rfl rfl (by kernel_rfl) (fun _ _ _ h => h) (Or.inl ⟨by rfl, ?_⟩) ?_ ?_
  rotate_left
  · intro w'
    go_simp
    with_reducible rfl
  rotate_left
  · simp only [Act.put, List.setIfInBounds_toArray, List.set_cons_zero, List.set_cons_succ, i64_w, i32_w]
    rfl
  refine one_ (i := 6) (N := some 18) #[true, true, true, true, true, true, true, true, true, true, true, false, false, false, false] rfl rfl (by kernel_rfl) (by decide) (fun K hK => ?_)
  refine goes_ Try.func60 (by kernel_rfl) rfl #[.pointer (some ⟨gc, 0, none⟩), .int .i64 (wrap64 ((r1.length : Int) + 1))] (by rfl) rfl rfl (by simp only [List.map_toArray, List.map_cons, List.map_nil]; rfl) ?_
  with_reducible refine (spec_l1Cur_pick.calls gc l0 _ _ (wrap64 ((r1.length : Int) + 1)) b1 o2 o3 w _ HCI.out HO.out.below H2.out).mono ?_
  rintro e w_ ⟨rfl, hi, hb, hk⟩
  refine ⟨_, rfl, ?_⟩
  replace HV := Aside0.mk (H.S_cursor HV.out hk)
  obtain ⟨A_, c_, hgc, _, _⟩ := HCI.out
  replace HO := Aside0.mk (HO.out.cursor hgc (by simp) hk hb)
  replace HCI := Aside0.mk hi
  clear hi hb hk hgc
  refine hK.out _ _ ⟨(HO.out.range 1 rfl), (HO.out.cell 1 rfl 0)⟩ (fun hHeld => ?_)
  clear hK K
  refine norm_ (a' := ?_) ?_ ?_
  rotate_left
  · show Act.put _ (some 18) _ = _
    simp only [Act.put, List.setIfInBounds_toArray, List.set_cons_zero, List.set_cons_succ, i64_w, i32_w]
    rfl
  refine one_ (i := 11) (N := some 23) #[true, true, true, true, true, true, true, true, true, true, true, true, false, false, false] rfl rfl (by kernel_rfl) (by decide) (fun K hK => ?_)
  refine goes_ Try.func60 (by kernel_rfl) rfl #[.pointer (some ⟨gc, 0, none⟩), .int .i64 ((r1.length : Int))] (by rfl) rfl rfl (by simp only [List.map_toArray, List.map_cons, List.map_nil]; rfl) ?_
  with_reducible refine (spec_l1Cur_pick.calls gc l0 _ _ (r1.length : Int) b2 m2 m3 w _ HCI.out HO.out.below H3.out).mono ?_
  rintro e w_ ⟨rfl, hi, hb, hk⟩
  refine ⟨_, rfl, ?_⟩
  replace HV := Aside0.mk (H.S_cursor HV.out hk)
  obtain ⟨A_, c_, hgc, _, _⟩ := HCI.out
  replace HO := Aside0.mk (HO.out.cursor hgc (by simp) hk hb)
  replace HCI := Aside0.mk hi
  clear hi hb hk hgc
  refine hK.out _ _ ⟨(HO.out.range 1 rfl), (HO.out.cell 1 rfl 0)⟩ (fun hHeld => ?_)
  clear hK K
  refine norm_ (a' := ?_) ?_ ?_
  rotate_left
  · show Act.put _ (some 23) _ = _
    simp only [Act.put, List.setIfInBounds_toArray, List.set_cons_zero, List.set_cons_succ, i64_w, i32_w]
    rfl
  refine one_ (i := 12) (N := none) #[true, true, true, true, true, true, true, true, true, true, true, true, true, false, false] rfl rfl (by kernel_rfl) (by decide) (fun K hK => ?_)
  refine H.own_store_step HO.out (by rfl) 0 (cs' := #[Value.slice AV r1.length cV]) rfl rfl rfl rfl (u := .agg #[Value.slice AV r1.length cV]) (seg := [Value.slice AV r1.length cV]) rfl rfl (by kernel_rfl) (by simp [Value.oneCell']) (by simp) (by simp) ?_
  intro w_ ho_ hg_
  replace HV := Aside0.mk (HO.out.keepS 0 rfl HV.out hg_ (by decide))
  replace HO := Aside0.mk ho_
  clear ho_ hg_
  refine hK.out _ _ ⟨(HO.out.range 1 rfl), (HO.out.cell 1 rfl 0)⟩ (fun hHeld => ?_)
  clear hK K
  refine pure_ (i := 13) (N := some 3) (v := ?_) (a' := ?_) #[true, true, true, true, true, true, true, true, true, true, true, true, true, true, false] rfl rfl (by kernel_rfl) (fun _ _ _ h => h) (Or.inl ⟨by rfl, ?_⟩) ?_ ?_
  rotate_left
  · intro w'
    go_simp
    with_reducible rfl
  rotate_left
  · simp only [Act.put, List.setIfInBounds_toArray, List.set_cons_zero, List.set_cons_succ, i64_w, i32_w]
    rfl
  refine pure_ (i := 14) (N := some 4) (v := ?_) (a' := ?_) #[true, true, true, true, true, true, true, true, true, true, true, true, true, true, true] rfl rfl (by kernel_rfl) (fun _ _ _ h => h) (Or.inl ⟨by rfl, ?_⟩) ?_ ?_
  rotate_left
  · intro w'
    go_simp
    with_reducible rfl
  rotate_left
  · simp only [Act.put, List.setIfInBounds_toArray, List.set_cons_zero, List.set_cons_succ, i64_w, i32_w]
    rfl
  refine done_ (by kernel_rfl) ?_
  (try simp only [Exit.inBlock, Exit.then])
  go_wp2
  (try simp only [Exit.inBlock, Exit.then])
  refine bodyPost_ret (results_ctt rfl _ _ ga _ #[Value.slice AV r1.length cV] (0, 0) _ rfl (HO.out.get 0 rfl) Try.underlying28 rfl (by kernel_rfl)) rfl ?_
  exact ⟨_, rfl, Kd.S_mono HV.out (fun k hk => hk.1), HO.out.below⟩
end Go.Proofs.Ytndkblahnihhjaa.P

namespace Go.Proofs.Ytndkblahnihhjaa.P
open Go.RowKit Go.Proofs.YtndkblahnihhjaaW.PrintWords Go.Proofs.YtndkblahnihhjaaW.PrintLast Go.Proofs.YtndkblahnihhjaaW.PrintMore
attribute [local go_sem] max2_int min2_int max_two min_two max_three min_three max_four min_four
def spec_DrawIsStrict.f (k : Nat) (l0 : List Int) : Option (List (List Int) × List Int × List Int) := (spec_l1Cur_graph.f k l0 0 0).bind fun g => (spec_l1Cur_one.f l0 g.2.1 g.2.2 2).bind fun b => (spec_l1Cur_someBlocks.f k l0 b.2.1 b.2.2 g.1 b.1).bind fun s => (spec_l1Cur_someBlocks.f k l0 s.2.1 s.2.2 g.1 false).map fun u => (g.1, s.1, u.1)
set_option maxHeartbeats 8000000 in
set_option maxRecDepth 100000 in
theorem spec_DrawIsStrict.calls (k : Nat) (A0 : Option Addr) (c0 : Nat) (l0 : List Int) (q1 : List (List Int)) (q2 : List Int) (q3 : List Int) (w : World) (hr0 : Kd.C (Kd.int .u8) w A0 l0.length l0) (hc0 : l0.length ≤ c0) (h : spec_DrawIsStrict.f k l0 = some (q1, q2, q3)) :
    Calls Try.prog 28 #[.slice A0 l0.length c0] w fun e w' => ∃ v0_ v1_ v2_ : Value, e = .returned (.tuple #[.agg #[v0_], v1_, v2_]) ∧ Kd.S (Kd.slice 3 (Kd.int .i64)) 32 w' w.heap.size (fun k_ => some k_ ≠ (v1_ : Value).ownBlock ∧ some k_ ≠ (v2_ : Value).ownBlock) v0_ q1 ∧ (Kd.int .i64).R 3 w' w.heap.size (fun k_ => some k_ ≠ (v2_ : Value).ownBlock) v1_ q2 ∧ (Kd.int .i64).R 3 w' w.heap.size (fun k_ => some k_ ≠ (v1_ : Value).ownBlock) v2_ q3 ∧ Below w.heap.size w w' := by
  unfold spec_DrawIsStrict.f at h
  obtain ⟨⟨r1, n2, n3⟩, h1, h⟩ := Option.bind_eq_some_iff.1 h
  obtain ⟨⟨b1, o2, o3⟩, h2, h⟩ := Option.bind_eq_some_iff.1 h
  obtain ⟨⟨r2, m2, m3⟩, h3, h⟩ := Option.bind_eq_some_iff.1 h
  obtain ⟨⟨r3, p2, p3⟩, h4, h⟩ := Option.map_eq_some_iff.1 h
  simp only [Prod.mk.injEq] at h
  obtain ⟨e1, e2, e3⟩ := h
  subst e1 e2 e3
  have H1 := Aside0.mk h1
  have H2 := Aside0.mk h2
  have H3 := Aside0.mk h3
  have H4 := Aside0.mk h4
  clear h1 h2 h3 h4
  have HR0 := Aside0.mk hr0
  have HO := Aside0.mk (H.Own.nil w)
  clear hr0
  go_enter Try.func28, Try.ntmps28
  go_wp2_with (first | ((with_reducible refine gate_dst (N := 2) rfl ?_); refine H.own_box HO.out ?bxg (N := 2) ?bxd (cs := #[Value.slice none 0 0]) (t := 28) ?bxr ?_; (case bxd => rfl); (case bxg => rfl); (case bxr => first | (go_simp; done) | (go_simp; rfl)); intro ga w_ ho_ hb_; replace HO := Aside0.mk ho_; clear ho_ hb_) | ((with_reducible refine gate_dst (N := 9) rfl ?_); refine H.own_box HO.out ?bxg (N := 9) ?bxd (cs := #[Value.slice A0 l0.length c0, Value.int .i64 0, Value.int .u64 0]) (t := 74) ?bxr ?_; (case bxd => rfl); (case bxg => rfl); (case bxr => first | (go_simp; done) | (go_simp; rfl)); intro gc w_ ho_ hb_; replace HO := Aside0.mk ho_; clear ho_ hb_) | (go_at_call 56; refine (spec_l1Cur_graph.calls k gc l0 0 0 r1 n2 n3 w _ ⟨A0, c0, HO.out.get 1 rfl, HO.out.ge 1 rfl, HR0.out⟩ HO.out.below H1.out).mono ?_; rintro e w' ⟨v0, rfl, hv, hi, hb, hk⟩; have HV := Aside0.mk (IsS74.apartS hi (Kd.S_lower hv HO.out.size) (by decide)); have HCI := Aside0.mk hi; replace HO := Aside0.mk ((HO.out.take (L := [(ga, #[Value.slice none 0 0], 28)]) (by simp)).cursor (HO.out.get 1 rfl) (by simp) hk hb); obtain ⟨AV, cV, eV, _, _⟩ := Kd.S_reads HV.out; subst eV; clear hv hi hb hk) | ((with_reducible refine gate_dst (N := 6) rfl ?_); refine H.own_box HO.out ?bxg (N := 6) ?bxd (cs := #[Value.slice none 0 0]) (t := 28) ?bxr ?_; (case bxd => rfl); (case bxg => rfl); (case bxr => first | (go_simp; done) | (go_simp; rfl)); intro gg w_ ho_ hb_; replace HV := Aside0.mk (Kd.S_below HV.out hb_); replace HCI := Aside0.mk (HCI.out.below hb_); replace HO := Aside0.mk ho_; clear ho_ hb_) | ((with_reducible refine gate_store (t := 28) (p := 6) rfl ?_); refine H.own_store HO.out 1 (cs' := #[Value.slice AV r1.length cV]) rfl rfl rfl rfl rfl (u := .agg #[Value.slice AV r1.length cV]) (seg := [Value.slice AV r1.length cV]) rfl rfl (by kernel_rfl) (by simp [Value.oneCell']) (by simp) (by simp) ?_; intro w_ ho_ hg_; replace HV := Aside0.mk (HO.out.keepS 1 rfl HV.out hg_ (by decide)); replace HCI := Aside0.mk (HCI.out.grown hg_ (by have := HCI.out.ne_blk (HO.out.get 1 rfl) (by decide); simpa using this)); replace HO := Aside0.mk ho_; clear ho_ hg_))
  replace HO := Aside0.mk HO.out.drew
  replace HV := Aside0.mk (Kd.S_drew HV.out)
  replace HCI := Aside0.mk HCI.out.drew
  refine start_ (n := 12) (S := fun w' => w'.rangeAt gg 0 [Value.slice AV r1.length cV]) (ds := []) #[false, false, false, false, false, false, false, false, false, false, false, false] (by kernel_rfl) rfl rfl ((HO.out.range 1 rfl)) (fun hHeld => ?_)
  refine pure_ (i := 1) (N := some 13) (v := ?_) (a' := ?_) #[false, true, false, false, false, false, false, false, false, false, false, false] rfl rfl (by kernel_rfl) (fun _ _ _ h => h) (Or.inl ⟨by rfl, ?_⟩) ?_ ?_
  rotate_left
  · intro w'
    go_simp
    with_reducible rfl
  rotate_left
  · simp only [Act.put, List.setIfInBounds_toArray, List.set_cons_zero, List.set_cons_succ, i64_w, i32_w]
    rfl
  refine pure_ (i := 3) (N := some 15) (v := ?_) (a' := ?_) #[false, true, false, true, false, false, false, false, false, false, false, false] rfl rfl (by kernel_rfl) (fun _ _ _ h => h) (Or.inl ⟨by rfl, ?_⟩) ?_ ?_
  rotate_left
  · intro w'
    go_simp
    with_reducible rfl
  rotate_left
  · simp only [Act.put, List.setIfInBounds_toArray, List.set_cons_zero, List.set_cons_succ, i64_w, i32_w]
    rfl
  refine pure_ (i := 6) (N := some 18) (v := ?_) (a' := ?_) #[false, true, false, true, false, false, true, false, false, false, false, false] rfl rfl (by kernel_rfl) (fun _ _ _ h => h) (Or.inl ⟨by rfl, ?_⟩) ?_ ?_
  rotate_left
  · intro w'
    go_simp
    with_reducible rfl
  rotate_left
  · simp only [Act.put, List.setIfInBounds_toArray, List.set_cons_zero, List.set_cons_succ, i64_w, i32_w]
    rfl
  refine take_ (i := 0) (N := some 12) (v := .agg #[Value.slice AV r1.length cV]) (a' := ?_) #[true, true, false, true, false, false, true, false, false, false, false, false] rfl rfl (by kernel_rfl) (fun _ _ _ h => h) (yieldsIf_load_mid (by rfl) 28 (.tmp 6) rfl gg 0 rfl [Value.slice AV r1.length cV] _ (fun W h => h) Try.underlying28 rfl (by kernel_rfl)) hHeld ?_ ?_
  rotate_left
  · simp only [Act.put, List.setIfInBounds_toArray, List.set_cons_zero, List.set_cons_succ, i64_w, i32_w]
    rfl
  refine take_ (i := 2) (N := some 14) (v := .agg #[Value.slice AV r1.length cV]) (a' := ?_) #[true, true, true, true, false, false, true, false, false, false, false, false] rfl rfl (by kernel_rfl) (fun _ _ _ h => h) (yieldsIf_load_mid (by rfl) 28 (.tmp 6) rfl gg 0 rfl [Value.slice AV r1.length cV] _ (fun W h => h) Try.underlying28 rfl (by kernel_rfl)) hHeld ?_ ?_
  rotate_left
  · simp only [Act.put, List.setIfInBounds_toArray, List.set_cons_zero, List.set_cons_succ, i64_w, i32_w]
    rfl
  refine take_ (i := 7) (N := some 19) (v := .agg #[Value.slice AV r1.length cV]) (a' := ?_) #[true, true, true, true, false, false, true, true, false, false, false, false] rfl rfl (by kernel_rfl) (fun _ _ _ h => h) (yieldsIf_load_mid (by rfl) 28 (.tmp 6) rfl gg 0 rfl [Value.slice AV r1.length cV] _ (fun W h => h) Try.underlying28 rfl (by kernel_rfl)) hHeld ?_ ?_
  rotate_left
  · simp only [Act.put, List.setIfInBounds_toArray, List.set_cons_zero, List.set_cons_succ, i64_w, i32_w]
    rfl
  refine one_ (i := 4) (N := some 16) #[true, true, true, true, true, false, true, true, false, false, false, false] rfl rfl (by kernel_rfl) (by decide) (fun K hK => ?_)
  refine goes_ Try.func58 (by kernel_rfl) rfl #[.pointer (some ⟨gc, 0, none⟩), .int .i64 2] (by rfl) rfl rfl (by simp only [List.map_toArray, List.map_cons, List.map_nil]; rfl) ?_
  with_reducible refine (spec_l1Cur_one.calls gc l0 _ _ 2 b1 o2 o3 w _ HCI.out HO.out.below H2.out).mono ?_
  rintro e w_ ⟨rfl, hi, hb, hk⟩
  refine ⟨_, rfl, ?_⟩
  replace HV := Aside0.mk (H.S_cursor HV.out hk)
  obtain ⟨A_, c_, hgc, _, _⟩ := HCI.out
  replace HO := Aside0.mk (HO.out.cursor hgc (by simp) hk hb)
  replace HCI := Aside0.mk hi
  clear hi hb hk hgc
  refine hK.out _ _ ((HO.out.range 1 rfl)) (fun hHeld => ?_)
  clear hK K
  refine norm_ (a' := ?_) ?_ ?_
  rotate_left
  · show Act.put _ (some 16) _ = _
    simp only [Act.put, List.setIfInBounds_toArray, List.set_cons_zero, List.set_cons_succ, i64_w, i32_w]
    rfl
  refine one_ (i := 5) (N := some 17) #[true, true, true, true, true, true, true, true, false, false, false, false] rfl rfl (by kernel_rfl) (by decide) (fun K hK => ?_)
  refine goes_ Try.func57 (by kernel_rfl) rfl #[.pointer (some ⟨gc, 0, none⟩), .agg #[.slice AV r1.length cV], .bool b1] (by rfl) rfl rfl (by simp only [List.map_toArray, List.map_cons, List.map_nil]; rfl) ?_
  with_reducible refine (spec_l1Cur_someBlocks.calls k gc l0 _ _ AV cV r1 b1 r2 m2 m3 w _ HCI.out HO.out.below (fun W_ hk => (Kd.S_reads' (H.S_cursor HV.out hk)).2.2) (Kd.S_reads' HV.out).2.1 H3.out).mono ?_
  rintro e w_ ⟨v1, rfl, hv1, hi, hb, hk⟩
  refine ⟨_, rfl, ?_⟩
  have hvb := Kd.S_bound HV.out
  replace HV := Aside0.mk (Kd.S_mono (ok' := fun k_ => (True ∧ some k_ ≠ (v1 : Value).ownBlock) ∧ k_ ≠ gc) (Kd.S_step hvb (fun k hok hlt => hk.2 k hlt hok.1.2 (by simp))) (fun k hk' => ⟨⟨trivial, fun e => by have := Kd.R_base hv1 k e.symm; have := hk'.2.2; omega⟩, hk'.1.2⟩))
  have HV1 := Aside0.mk (IsS74.apart hi (Kd.R_lower hv1 HO.out.size) (by decide))
  obtain ⟨A_, c_, hgc, _, _⟩ := HCI.out
  replace HO := Aside0.mk (HO.out.cursor hgc (by simp) hk hb)
  replace HCI := Aside0.mk hi
  clear hi hb hk hgc hvb hv1
  refine hK.out _ _ ((HO.out.range 1 rfl)) (fun hHeld => ?_)
  clear hK K
  refine norm_ (a' := ?_) ?_ ?_
  rotate_left
  · show Act.put _ (some 17) _ = _
    simp only [Act.put, List.setIfInBounds_toArray, List.set_cons_zero, List.set_cons_succ, i64_w, i32_w]
    rfl
  refine one_ (i := 8) (N := some 20) #[true, true, true, true, true, true, true, true, true, false, false, false] rfl rfl (by kernel_rfl) (by decide) (fun K hK => ?_)
  refine goes_ Try.func57 (by kernel_rfl) rfl #[.pointer (some ⟨gc, 0, none⟩), .agg #[.slice AV r1.length cV], .bool false] (by rfl) rfl rfl (by simp only [List.map_toArray, List.map_cons, List.map_nil]; rfl) ?_
  with_reducible refine (spec_l1Cur_someBlocks.calls k gc l0 _ _ AV cV r1 false r3 p2 p3 w _ HCI.out HO.out.below (fun W_ hk => (Kd.S_reads' (H.S_cursor HV.out hk)).2.2) (Kd.S_reads' HV.out).2.1 H4.out).mono ?_
  rintro e w_ ⟨v2, rfl, hv2, hi, hb, hk⟩
  refine ⟨_, rfl, ?_⟩
  have hvb := Kd.S_bound HV.out
  have hwb := Kd.R_bound HV1.out
  replace HV := Aside0.mk (Kd.S_mono (ok' := fun k_ => (True ∧ some k_ ≠ (v1 : Value).ownBlock) ∧ some k_ ≠ (v2 : Value).ownBlock) (Kd.S_step hvb (fun k hok hlt => hk.2 k hlt hok.1.2 (by simp))) (fun k hk' => ⟨hk'.1.1, fun e => by have := Kd.R_base hv2 k e.symm; have := hk'.2.2.1; omega⟩))
  replace HV1 := Aside0.mk (Kd.R_mono (ok' := fun k_ => some k_ ≠ (v2 : Value).ownBlock) (Kd.R_step hwb (fun k hok hlt => hk.2 k hlt hok.1.2 (by simp))) (fun k hk' => fun e => by have := Kd.R_base hv2 k e.symm; have := hk'.2.2.1; omega))
  have HV2 := Aside0.mk (Kd.R_lower (Kd.R_mono (ok' := fun k_ => some k_ ≠ (v1 : Value).ownBlock) (Kd.R_bound hv2) (fun k hk' => fun e => by have := (hwb.1 k e.symm).2.2.1; have := hk'.2.1; omega)) HO.out.size)
  obtain ⟨A_, c_, hgc, _, _⟩ := HCI.out
  replace HO := Aside0.mk (HO.out.cursor hgc (by simp) hk hb)
  replace HCI := Aside0.mk hi
  clear hi hb hk hgc hvb hwb hv2
  refine hK.out _ _ ((HO.out.range 1 rfl)) (fun hHeld => ?_)
  clear hK K
  refine norm_ (a' := ?_) ?_ ?_
  rotate_left
  · show Act.put _ (some 20) _ = _
    simp only [Act.put, List.setIfInBounds_toArray, List.set_cons_zero, List.set_cons_succ, i64_w, i32_w]
    rfl
  refine one_ (i := 9) (N := none) #[true, true, true, true, true, true, true, true, true, true, false, false] rfl rfl (by kernel_rfl) (by decide) (fun K hK => ?_)
  refine H.own_store_step HO.out (by rfl) 0 (cs' := #[Value.slice AV r1.length cV]) rfl rfl rfl rfl (u := .agg #[Value.slice AV r1.length cV]) (seg := [Value.slice AV r1.length cV]) rfl rfl (by kernel_rfl) (by simp [Value.oneCell']) (by simp) (by simp) ?_
  intro w_ ho_ hg_
  replace HV := Aside0.mk (HO.out.keepS 0 rfl HV.out hg_ (by decide))
  replace HV1 := Aside0.mk (HO.out.keep 0 rfl HV1.out hg_ (by decide))
  replace HV2 := Aside0.mk (HO.out.keep 0 rfl HV2.out hg_ (by decide))
  replace HO := Aside0.mk ho_
  clear ho_ hg_
  refine hK.out _ _ ((HO.out.range 1 rfl)) (fun hHeld => ?_)
  clear hK K
  refine pure_ (i := 10) (N := some 3) (v := ?_) (a' := ?_) #[true, true, true, true, true, true, true, true, true, true, true, false] rfl rfl (by kernel_rfl) (fun _ _ _ h => h) (Or.inl ⟨by rfl, ?_⟩) ?_ ?_
  rotate_left
  · intro w'
    go_simp
    with_reducible rfl
  rotate_left
  · simp only [Act.put, List.setIfInBounds_toArray, List.set_cons_zero, List.set_cons_succ, i64_w, i32_w]
    rfl
  refine pure_ (i := 11) (N := some 4) (v := ?_) (a' := ?_) #[true, true, true, true, true, true, true, true, true, true, true, true] rfl rfl (by kernel_rfl) (fun _ _ _ h => h) (Or.inl ⟨by rfl, ?_⟩) ?_ ?_
  rotate_left
  · intro w'
    go_simp
    with_reducible rfl
  rotate_left
  · simp only [Act.put, List.setIfInBounds_toArray, List.set_cons_zero, List.set_cons_succ, i64_w, i32_w]
    rfl
  refine done_ (by kernel_rfl) ?_
  (try simp only [Exit.inBlock, Exit.then])
  go_wp2
  (try simp only [Exit.inBlock, Exit.then])
  refine bodyPost_ret (results_ctt rfl _ _ ga _ #[Value.slice AV r1.length cV] (0, 0) _ rfl (HO.out.get 0 rfl) Try.underlying28 rfl (by kernel_rfl)) rfl ?_
  exact ⟨_, _, _, rfl, Kd.S_mono HV.out (fun k hk => ⟨hk.1.2, hk.2⟩), HV1.out, HV2.out, HO.out.below⟩
end Go.Proofs.Ytndkblahnihhjaa.P

namespace Go.Proofs.Ytndkblahnihhjaa.P
open Go.RowKit Go.Proofs.YtndkblahnihhjaaW.PrintWords Go.Proofs.YtndkblahnihhjaaW.PrintLast Go.Proofs.YtndkblahnihhjaaW.PrintMore
attribute [local go_sem] max2_int min2_int max_two min_two max_three min_three max_four min_four
def stAt (D : List (List Bool)) (sets : List Int) (u : Int) : Bool := sets.any (fun s => (D.getD u.toNat []).getD s.toNat false)
def stF (g : List (List Int)) (sets uses : List Int) : Bool × Bool :=
  if H.goodG g && (rlF g sets && rlF g uses) then (uses.all (stAt (H.domF g) sets), true) else (false, false)
def impl_IsStrict.f (l0_0 : List (List Int)) (l1 : List Int) (l2 : List Int) : Option (Bool × Bool) := some (stF l0_0 l1 l2)
theorem rlF_rng {g : List (List Int)} {l : List Int} (h : rlF g l = true) : ∀ y ∈ l, 0 ≤ y ∧ y < (g.length : Int) := by
  intro y hy
  unfold rlF at h
  rw [Bool.and_eq_true] at h
  have h1 := List.all_eq_true.1 h.1 y hy
  unfold rlAt H.inB at h1
  simp only [Bool.and_eq_true, decide_eq_true_eq] at h1
  omega
set_option maxHeartbeats 8000000 in
set_option maxRecDepth 100000 in
theorem impl_IsStrict.calls (A0_0 : Option Addr) (c0_0 : Nat) (l0_0 : List (List Int)) (A1 : Option Addr) (c1 : Nat) (l1 : List Int) (A2 : Option Addr) (c2 : Nat) (l2 : List Int) (r1 : Bool) (r2 : Bool) (w : World) (hr0_0 : Kd.C (Kd.slice 3 (Kd.int .i64)) w A0_0 l0_0.length l0_0) (hc0_0 : l0_0.length ≤ c0_0) (hr1 : Kd.C (Kd.int .i64) w A1 l1.length l1) (hc1 : l1.length ≤ c1) (hr2 : Kd.C (Kd.int .i64) w A2 l2.length l2) (hc2 : l2.length ≤ c2) (h : impl_IsStrict.f l0_0 l1 l2 = some (r1, r2)) :
    Calls Try.prog 29 #[.agg #[.slice A0_0 l0_0.length c0_0], .slice A1 l1.length c1, .slice A2 l2.length c2] w fun e w' => e = .returned (.tuple #[.bool r1, .bool r2]) ∧ Below w.heap.size w w' := by
  replace h := Option.some.inj h
  unfold stF at h
  have HR0 := Aside0.mk hr0_0
  have HC0 := Aside0.mk hc0_0
  have HR1 := Aside0.mk hr1
  have HC1 := Aside0.mk hc1
  have HR2 := Aside0.mk hr2
  have HC2 := Aside0.mk hc2
  have hl1 := hr1.2.1
  have hl2 := hr2.2.1
  clear hr0_0 hc0_0 hr1 hc1 hr2 hc2
  have HO := Aside0.mk (H.Own.nil w)
  have HK := Aside0.mk (fun (W : World) (hb : Below w.heap.size w W) => impl_GoodGraph.calls A0_0 c0_0 l0_0 _ W (Kd.C_below HR0.out hb) HC0.out rfl)
  cases hg : H.goodG l0_0 with
  | false =>
    rw [hg, Bool.false_and, if_neg (by simp), Prod.mk.injEq] at h
    obtain ⟨rfl, rfl⟩ := h
    rw [hg] at HK
    clear hg
    go_enter Try.func29, Try.ntmps29
    go_wp2_with (first | ((with_reducible refine gate_dst (N := 3) rfl ?_); refine H.own_box HO.out ?bxg (N := 3) ?bxd (cs := #[Value.slice A0_0 l0_0.length c0_0]) (t := 28) ?bxr ?_; (case bxd => rfl); (case bxg => rfl); (case bxr => first | (go_simp; done) | (go_simp; rfl)); intro gp w_ ho_ hb_; replace HO := Aside0.mk ho_; clear ho_ hb_) | ((with_reducible refine gate_dst (N := 14) rfl ?_); refine wpList_load_row rfl 28 (.tmp 3) rfl _ rfl 28 _ (0, 0) _ (HO.out.get 0 rfl) Try.underlying28 rfl (by kernel_rfl) ?_) | (go_at_call 45; refine (HK.out _ HO.out.below).mono ?_; rintro e w' ⟨rfl, hb⟩; replace HO := Aside0.mk (HO.out.step hb); clear hb))
    go_ret2
    exact ⟨rfl, HO.out.below⟩
  | true =>
    rw [hg, Bool.true_and] at h
    rw [hg] at HK
    have hr := H.goodG_rows hg
    have hn1 : 1 ≤ l0_0.length := hr.1.1
    have hn2 : l0_0.length ≤ 12 := hr.1.2
    have HG := Aside0.mk hg
    have HRA := Aside0.mk (fun (p : Addr) (W : World) (hb : Below w.heap.size w W) (hp : W.cell? p = some (.slice A0_0 l0_0.length c0_0)) => impl_reachedList.calls p A0_0 c0_0 l0_0 A1 c1 l1 W hp (Kd.C_below HR0.out hb) HG.out (Kd.C_below HR1.out hb) HC1.out)
    have HRB := Aside0.mk (fun (p : Addr) (W : World) (hb : Below w.heap.size w W) (hp : W.cell? p = some (.slice A0_0 l0_0.length c0_0)) => impl_reachedList.calls p A0_0 c0_0 l0_0 A2 c2 l2 W hp (Kd.C_below HR0.out hb) HG.out (Kd.C_below HR2.out hb) HC2.out)
    clear hg hr
    cases ha : rlF l0_0 l1 with
    | false =>
      rw [ha, Bool.false_and, if_neg (by simp), Prod.mk.injEq] at h
      obtain ⟨rfl, rfl⟩ := h
      rw [ha] at HRA
      clear ha
      go_enter Try.func29, Try.ntmps29
      go_wp2_with (first | ((with_reducible refine gate_dst (N := 3) rfl ?_); refine H.own_box HO.out ?bxg (N := 3) ?bxd (cs := #[Value.slice A0_0 l0_0.length c0_0]) (t := 28) ?bxr ?_; (case bxd => rfl); (case bxg => rfl); (case bxr => first | (go_simp; done) | (go_simp; rfl)); intro gp w_ ho_ hb_; replace HO := Aside0.mk ho_; clear ho_ hb_) | ((with_reducible refine gate_dst (N := 14) rfl ?_); refine wpList_load_row rfl 28 (.tmp 3) rfl _ rfl 28 _ (0, 0) _ (HO.out.get 0 rfl) Try.underlying28 rfl (by kernel_rfl) ?_) | (go_at_call 45; refine (HK.out _ HO.out.below).mono ?_; rintro e w' ⟨rfl, hb⟩; replace HO := Aside0.mk (HO.out.step hb); clear hb) | (go_at_call 46; refine (HRA.out _ _ HO.out.below (HO.out.cell 0 rfl 0)).mono ?_; rintro e w' ⟨rfl, hb⟩; replace HO := Aside0.mk (HO.out.step hb); clear hb))
      go_ret2
      exact ⟨rfl, HO.out.below⟩
    | true =>
      have HINA := Aside0.mk (rlF_rng ha)
      rw [ha, Bool.true_and] at h
      rw [ha] at HRA
      clear ha
      cases hb : rlF l0_0 l2 with
      | false =>
        rw [hb, if_neg (by simp), Prod.mk.injEq] at h
        obtain ⟨rfl, rfl⟩ := h
        rw [hb] at HRB
        clear hb
        go_enter Try.func29, Try.ntmps29
        go_wp2_with (first | ((with_reducible refine gate_dst (N := 3) rfl ?_); refine H.own_box HO.out ?bxg (N := 3) ?bxd (cs := #[Value.slice A0_0 l0_0.length c0_0]) (t := 28) ?bxr ?_; (case bxd => rfl); (case bxg => rfl); (case bxr => first | (go_simp; done) | (go_simp; rfl)); intro gp w_ ho_ hb_; replace HO := Aside0.mk ho_; clear ho_ hb_) | ((with_reducible refine gate_dst (N := 14) rfl ?_); refine wpList_load_row rfl 28 (.tmp 3) rfl _ rfl 28 _ (0, 0) _ (HO.out.get 0 rfl) Try.underlying28 rfl (by kernel_rfl) ?_) | (go_at_call 45; refine (HK.out _ HO.out.below).mono ?_; rintro e w' ⟨rfl, hb⟩; replace HO := Aside0.mk (HO.out.step hb); clear hb) | (go_at_call 46; first | (refine (HRA.out _ _ HO.out.below (HO.out.cell 0 rfl 0)).mono ?_; rintro e w' ⟨rfl, hb⟩; replace HO := Aside0.mk (HO.out.step hb); clear hb HRA) | (refine (HRB.out _ _ HO.out.below (HO.out.cell 0 rfl 0)).mono ?_; rintro e w' ⟨rfl, hb⟩; replace HO := Aside0.mk (HO.out.step hb); clear hb)))
        go_ret2
        exact ⟨rfl, HO.out.below⟩
      | true =>
        have HINB := Aside0.mk (rlF_rng hb)
        rw [hb, if_pos rfl, Prod.mk.injEq] at h
        obtain ⟨rfl, rfl⟩ := h
        rw [hb] at HRB
        clear hb
        have hml := H.matF_len (fun b j => decide (j < l0_0.length) && H.domV l0_0 b j) l0_0.length
        have hmm := H.matF_mat (fun b j => decide (j < l0_0.length) && H.domV l0_0 b j) l0_0.length
        have HMM : Aside0 (H.Mat 12 (H.domF l0_0)) := ⟨hmm⟩
        have HML : Aside0 ((H.domF l0_0).length = l0_0.length) := ⟨hml⟩
        have HDO := Aside0.mk (fun (p : Addr) (W : World) (hb : Below w.heap.size w W) (hp : W.cell? p = some (.slice A0_0 l0_0.length c0_0)) => impl_dominators.calls p A0_0 c0_0 l0_0 W hp (Kd.C_below HR0.out hb) HG.out)
        obtain ⟨D, hD⟩ : ∃ D, H.domF l0_0 = D := ⟨_, rfl⟩
        rw [hD] at HMM HML HDO ⊢
        clear hml hmm hD
        go_enter Try.func29, Try.ntmps29
        go_wp2_with (first | ((with_reducible refine gate_dst (N := 3) rfl ?_); refine H.own_box HO.out ?bxg (N := 3) ?bxd (cs := #[Value.slice A0_0 l0_0.length c0_0]) (t := 28) ?bxr ?_; (case bxd => rfl); (case bxg => rfl); (case bxr => first | (go_simp; done) | (go_simp; rfl)); intro gp w_ ho_ hb_; replace HO := Aside0.mk ho_; clear ho_ hb_) | ((with_reducible refine gate_dst (N := 14) rfl ?_); refine wpList_load_row rfl 28 (.tmp 3) rfl _ rfl 28 _ (0, 0) _ (HO.out.get 0 rfl) Try.underlying28 rfl (by kernel_rfl) ?_) | (go_at_call 45; refine (HK.out _ HO.out.below).mono ?_; rintro e w' ⟨rfl, hb⟩; replace HO := Aside0.mk (HO.out.step hb); clear hb) | (go_at_call 46; first | (refine (HRA.out _ _ HO.out.below (HO.out.cell 0 rfl 0)).mono ?_; rintro e w' ⟨rfl, hb⟩; replace HO := Aside0.mk (HO.out.step hb); clear hb HRA) | (refine (HRB.out _ _ HO.out.below (HO.out.cell 0 rfl 0)).mono ?_; rintro e w' ⟨rfl, hb⟩; replace HO := Aside0.mk (HO.out.step hb); clear hb)) | (go_at_call 54; refine (HDO.out _ _ HO.out.below (HO.out.cell 0 rfl 0)).mono ?_; rintro e w' ⟨gm, rfl, ho⟩; replace HO := Aside0.mk (HO.out.join ho); clear ho))
        go_loopw [30] (fun v30 wr => ∃ i : Nat, v30 = .int .i64 i ∧ i ≤ l2.length ∧ Aside0 ((l2.take i).all (stAt D l1) = true) ∧ Aside0 (H.Own w wr [(gp, #[Value.slice A0_0 l0_0.length c0_0], 28), (gm, H.bcells D.flatten, 63)])) (fun v30 _ => l2.length - (intOf v30).toNat)
        case atStart => exact ⟨0, rfl, Nat.zero_le _, ⟨rfl⟩, HO⟩
        case round =>
          clear HO
          obtain ⟨i, rfl, hi, HA, HO⟩ := hrel
          by_cases hlt : i < l2.length
          · obtain ⟨ad, e1, hc⟩ := Kd.at_int HR2.out (i : Int) (by omega) (by omega)
            subst e1
            rw [Int.toNat_natCast] at hc
            have hd : rd l2 (i : Int) = l2.getD i 0 := rfl
            rw [hd] at hc
            have htk : l2.take (i + 1) = l2.take i ++ [l2.getD i 0] := by rw [List.take_add_one, List.getElem?_eq_getElem hlt, List.getD_eq_getElem?_getD, List.getElem?_eq_getElem hlt]; rfl
            have hmem : l2.getD i 0 ∈ l2 := by rw [List.getD_eq_getElem?_getD, List.getElem?_eq_getElem hlt]; exact List.getElem_mem hlt
            have hur := HINB.out _ hmem
            obtain ⟨u, hx⟩ : ∃ u : Nat, l2.getD i 0 = (u : Int) := ⟨(l2.getD i 0).toNat, by omega⟩
            rw [hx] at hc htk hmem hur
            have hcx := HO.out.old hc
            have HTK := Aside0.mk htk
            have HMEM := Aside0.mk hmem
            have HUM := Aside0.mk (show u < D.length by rw [HML.out]; omega)
            have hug : (u : Int) < (l0_0.length : Int) := hur.2
            have hil : (i : Int) < (l2.length : Int) := by omega
            have hsu : stAt D l1 (u : Int) = l1.any (fun s => (D.getD u []).getD s.toNat false) := by unfold stAt; rw [Int.toNat_natCast]
            have HSU := Aside0.mk hsu
            clear hd hx hc htk hmem hur hsu
            go_wp2
            go_loopw [11, 36] (fun v11 v36 wr => ∃ j : Nat, v11 = .bool ((l1.take j).any (fun s => (D.getD u []).getD s.toNat false)) ∧ v36 = .int .i64 j ∧ j ≤ l1.length ∧ Aside0 (H.Own w wr [(gp, #[Value.slice A0_0 l0_0.length c0_0], 28), (gm, H.bcells D.flatten, 63)])) (fun _ v36 _ => l1.length - (intOf v36).toNat)
            case atStart => exact ⟨0, rfl, rfl, Nat.zero_le _, HO⟩
            case round =>
              clear HO hcx
              obtain ⟨j, rfl, rfl, hj, HO⟩ := hrel
              by_cases hlt2 : j < l1.length
              · obtain ⟨ad2, e2, hc2⟩ := Kd.at_int HR1.out (j : Int) (by omega) (by omega)
                subst e2
                rw [Int.toNat_natCast] at hc2
                have hd2 : rd l1 (j : Int) = l1.getD j 0 := rfl
                rw [hd2] at hc2
                have htk2 : l1.take (j + 1) = l1.take j ++ [l1.getD j 0] := by rw [List.take_add_one, List.getElem?_eq_getElem hlt2, List.getD_eq_getElem?_getD, List.getElem?_eq_getElem hlt2]; rfl
                have hs := HINA.out _ (show l1.getD j 0 ∈ l1 by rw [List.getD_eq_getElem?_getD, List.getElem?_eq_getElem hlt2]; exact List.getElem_mem hlt2)
                obtain ⟨s, hx2⟩ : ∃ s : Nat, l1.getD j 0 = (s : Int) := ⟨(l1.getD j 0).toNat, by omega⟩
                rw [hx2] at hc2 htk2 hs
                have hcy := HO.out.old hc2
                have hs12 : s < 12 := by omega
                have hs12' : (s : Int) < 12 := by omega
                have hjl : (j : Int) < (l1.length : Int) := by omega
                have hbit := HO.out.mat 1 (n := 12) rfl HMM.out HUM.out hs12
                obtain ⟨bit, hbe⟩ : ∃ bit, (D.getD u []).getD s false = bit := ⟨_, rfl⟩
                rw [hbe] at hbit
                have hst : (l1.take (j + 1)).any (fun s => (D.getD u []).getD s.toNat false) = ((l1.take j).any (fun s => (D.getD u []).getD s.toNat false) || bit) := by
                  rw [htk2, List.any_append, List.any_cons, List.any_nil, Int.toNat_natCast, hbe, Bool.or_false]
                obtain ⟨ok, hok⟩ : ∃ ok, (l1.take j).any (fun s => (D.getD u []).getD s.toNat false) = ok := ⟨_, rfl⟩
                rw [hok] at hst
                have HST := Aside0.mk hst
                rw [hok]
                clear hd2 htk2 hs hx2 hc2 hbe hst hok
                cases ok with
                | true =>
                  go_wp2
                  go_roundw
                  case rel => exact ⟨j + 1, by rw [HST.out]; rfl, by go_num, by omega, HO⟩
                  case measure => simp [intOf]; omega
                | false =>
                  go_wp2
                  go_roundw
                  case rel => exact ⟨j + 1, by rw [HST.out]; rfl, by go_num, by omega, HO⟩
                  case measure => simp [intOf]; omega
              · have hE : j = l1.length := by omega
                subst hE
                rw [List.take_length]
                cases hal : l1.any (fun s => (D.getD u []).getD s.toNat false) with
                | true =>
                  have HA2 := Aside0.mk (show (l2.take (i + 1)).all (stAt D l1) = true by
                    rw [HTK.out, List.all_append, HA.out, List.all_cons, List.all_nil, HSU.out, hal]
                    rfl)
                  clear hal
                  go_wp2
                  go_roundw
                  case rel => exact ⟨i + 1, by go_num, by omega, HA2, HO⟩
                  case measure => simp [intOf]; omega
                | false =>
                  have HF := Aside0.mk (show l2.all (stAt D l1) = false by
                    rw [List.all_eq_false]
                    exact ⟨_, HMEM.out, by rw [HSU.out, hal]; simp⟩)
                  clear hal
                  go_wp2
                  go_ret2
                  exact ⟨by rw [HF.out]; rfl, HO.out.below⟩
          · have hE : i = l2.length := by omega
            subst hE
            have HF := Aside0.mk (show l2.all (stAt D l1) = true by have := HA.out; rw [List.take_length] at this; exact this)
            go_wp2
            go_ret2
            exact ⟨by rw [HF.out]; rfl, HO.out.below⟩
end Go.Proofs.Ytndkblahnihhjaa.P

namespace Go.Proofs.Ytndkblahnihhjaa.P
open Go.RowKit Go.Proofs.YtndkblahnihhjaaW.PrintWords Go.Proofs.YtndkblahnihhjaaW.PrintLast Go.Proofs.YtndkblahnihhjaaW.PrintMore
attribute [local go_sem] max2_int min2_int max_two min_two max_three min_three max_four min_four
mutual
def spec_IsStrict.j0 : Nat → List Int → List Int → Bool → List (List Int) → Option (Bool × Bool)
  | 0, _, _, _, _ => none
  | k + 1, x1, x2, x28, x296000 => if x28 = true then (some (false, false)) else ((spec_l10Dominators.f x296000).bind fun t299 => (spec_IsStrict.l0 k x1 t299 x2 (x2.length : Int) 0))
def spec_IsStrict.l0 : Nat → List Int → List (List Int) → List Int → Int → Int → Option (Bool × Bool)
  | 0, _, _, _, _, _ => none
  | k + 1, x1, x8, x31, x32, x33 => if x33 < x32 then (if 0 ≤ x33 then (if x33 < (x31.length : Int) then (spec_IsStrict.l1 k x1 x8 (rd x31 x33) false x31 x32 x33 x1 (x1.length : Int) 0) else (none)) else (none)) else (some (true, true))
def spec_IsStrict.l1 : Nat → List Int → List (List Int) → Int → Bool → List Int → Int → Int → List Int → Int → Int → Option (Bool × Bool)
  | 0, _, _, _, _, _, _, _, _, _, _ => none
  | k + 1, x1, x8, x10, x11, x31, x32, x33, x37, x38, x39 => if x39 < x38 then (if 0 ≤ x39 then (if x39 < (x37.length : Int) then (if x11 = true then (spec_IsStrict.l1 k x1 x8 x10 true x31 x32 x33 x37 x38 (wrap64 (x39 + 1))) else (if 0 ≤ x10 then (if x10 < (x8.length : Int) then ((spec_l1Has.f k (rd_L1 x8 x10) (rd x37 x39)).bind fun t305 => (spec_IsStrict.l1 k x1 x8 x10 t305 x31 x32 x33 x37 x38 (wrap64 (x39 + 1)))) else (none)) else (none))) else (none)) else (none)) else (if x11 = true then (spec_IsStrict.l0 k x1 x8 x31 x32 (wrap64 (x33 + 1))) else (some (false, true)))
end
def spec_IsStrict.f (k : Nat) (l0_0 : List (List Int)) (l1 : List Int) (l2 : List Int) : Option (Bool × Bool) := (spec_GoodGraph.f k l0_0).bind fun t296 => (if t296 = true then ((spec_l11Blocks.f k l0_0 l1).bind fun t297 => (if t297 = true then ((spec_l11Blocks.f k l0_0 l2).bind fun t298 => (spec_IsStrict.j0 k l1 l2 (!t298) l0_0)) else (spec_IsStrict.j0 k l1 l2 true l0_0))) else (spec_IsStrict.j0 k l1 l2 true l0_0))
set_option maxHeartbeats 8000000 in
set_option maxRecDepth 100000 in
theorem spec_IsStrict.calls (k : Nat) (A0_0 : Option Addr) (c0_0 : Nat) (l0_0 : List (List Int)) (A1 : Option Addr) (c1 : Nat) (l1 : List Int) (A2 : Option Addr) (c2 : Nat) (l2 : List Int) (r1 : Bool) (r2 : Bool) (w : World) (hr0_0 : Kd.C (Kd.slice 3 (Kd.int .i64)) w A0_0 l0_0.length l0_0) (hc0_0 : l0_0.length ≤ c0_0) (hr1 : Kd.C (Kd.int .i64) w A1 l1.length l1) (hc1 : l1.length ≤ c1) (hr2 : Kd.C (Kd.int .i64) w A2 l2.length l2) (hc2 : l2.length ≤ c2) (h : spec_IsStrict.f k l0_0 l1 l2 = some (r1, r2)) :
    Calls Try.prog 30 #[.agg #[.slice A0_0 l0_0.length c0_0], .slice A1 l1.length c1, .slice A2 l2.length c2] w fun e w' => e = .returned (.tuple #[.bool r1, .bool r2]) ∧ Below w.heap.size w w' := by
  have hu28 := Try.underlying28
  have HR0_0 := Aside0.mk hr0_0
  have HC0_0 := Aside0.mk hc0_0
  clear hr0_0 hc0_0
  have HR1 := Aside0.mk hr1
  have HC1 := Aside0.mk hc1
  clear hr1 hc1
  have HR2 := Aside0.mk hr2
  have HC2 := Aside0.mk hc2
  clear hr2 hc2
  have HB := Aside0.mk (Below.refl w.heap.size w)
  have H : ((spec_GoodGraph.f k l0_0).bind fun t296 => (if t296 = true then ((spec_l11Blocks.f k l0_0 l1).bind fun t297 => (if t297 = true then ((spec_l11Blocks.f k l0_0 l2).bind fun t298 => (spec_IsStrict.j0 k l1 l2 (!t298) l0_0)) else (spec_IsStrict.j0 k l1 l2 true l0_0))) else (spec_IsStrict.j0 k l1 l2 true l0_0))) = some (r1, r2) := h
  clear h
  have HC4 := Aside0.mk H
  clear H
  go_enter Try.func30, Try.ntmps30
  go_upto_region 1 with (first | ((with_reducible refine gate_dst (N := 3) rfl ?_); refine box_event ?hg (N := 3) ?hd (cs := #[.slice A0_0 l0_0.length c0_0]) (t := 28) ?hr ?_; (case hd => rfl); (case hg => rfl); (case hr => first | (go_simp; done) | (go_simp; rfl)); intro gb295 hg w5 hbox hb; have n0_ := Aside0.mk (below_step (by repeat (first | (with_reducible first | exact HB.out | apply below_alloc | apply pw_below_drewN | apply below_drew1) | exact HB.out)) hb); have n1_ := Aside0.mk (hbox); have n2_ := Aside0.mk ((by rw [hg]; exact (below_size (by repeat (first | (with_reducible first | exact HB.out | apply below_alloc | apply pw_below_drewN | apply below_drew1) | exact HB.out))) : w.heap.size ≤ gb295)); have n3_ := Aside0.mk ((by rw [hg]; exact (below_size (by repeat (first | (with_reducible first | exact HB.out | apply below_alloc | apply pw_below_drewN | apply below_drew1) | exact HB.out))) : w.heap.size ≤ gb295)); clear HB; have HB := n0_; have BK295 := n1_; have GW295 := n2_; have GE295 := n3_; clear n0_ n1_ n2_ n3_; clear hb hbox hg))
  (try simp only [Act.put, List.setIfInBounds_toArray, List.set_cons_zero, List.set_cons_succ])
  go_cut [28] (fun v28 wc => ∃ (kq : Nat) (x28_3 : Bool), v28 = .bool x28_3 ∧ Aside0 (spec_IsStrict.j0 kq l1 l2 x28_3 l0_0 = some (r1, r2)) ∧ Aside0 (kq ≤ k) ∧ Aside0 (wc.heap[gb295]? = some (.cells #[(.slice A0_0 l0_0.length c0_0)] 28 (0, 0))) ∧ Aside0 (Below w.heap.size w wc))
  case first =>
    have H := HC4.out
    clear HC4
    replace H := Option.bind_eq_some_iff.mp H
    obtain ⟨t296, A60, H⟩ := H
    replace H : (if t296 = true then ((spec_l11Blocks.f k l0_0 l1).bind fun t297 => (if t297 = true then ((spec_l11Blocks.f k l0_0 l2).bind fun t298 => (spec_IsStrict.j0 k l1 l2 (!t298) l0_0)) else (spec_IsStrict.j0 k l1 l2 true l0_0))) else (spec_IsStrict.j0 k l1 l2 true l0_0)) = some (r1, r2) := H
    have A6 := Aside0.mk A60
    clear A60
    by_cases c7 : t296 = true
    · subst c7
      have H1 : ((spec_l11Blocks.f k l0_0 l1).bind fun t297 => (if t297 = true then ((spec_l11Blocks.f k l0_0 l2).bind fun t298 => (spec_IsStrict.j0 k l1 l2 (!t298) l0_0)) else (spec_IsStrict.j0 k l1 l2 true l0_0))) = some (r1, r2) := by rw [if_pos rfl] at H; exact H
      clear H
      have H := H1
      clear H1
      replace H := Option.bind_eq_some_iff.mp H
      obtain ⟨t297, A80, H⟩ := H
      replace H : (if t297 = true then ((spec_l11Blocks.f k l0_0 l2).bind fun t298 => (spec_IsStrict.j0 k l1 l2 (!t298) l0_0)) else (spec_IsStrict.j0 k l1 l2 true l0_0)) = some (r1, r2) := H
      have A8 := Aside0.mk A80
      clear A80
      by_cases c9 : t297 = true
      · subst c9
        have H1 : ((spec_l11Blocks.f k l0_0 l2).bind fun t298 => (spec_IsStrict.j0 k l1 l2 (!t298) l0_0)) = some (r1, r2) := by rw [if_pos rfl] at H; exact H
        clear H
        have H := H1
        clear H1
        replace H := Option.bind_eq_some_iff.mp H
        obtain ⟨t298, A100, H⟩ := H
        replace H : (spec_IsStrict.j0 k l1 l2 (!t298) l0_0) = some (r1, r2) := H
        have A10 := Aside0.mk A100
        clear A100
        have H' := Aside0.mk H
        clear H
        have hcz11_0 : w5.cell? ⟨gb295, 0, none⟩ = some (.slice A0_0 l0_0.length c0_0) := (blk_cell BK295.out 0).trans rfl
        have hfz11_0 := blk_frozen BK295.out 0
        go_wp2_with (first | ((with_reducible refine gate_callee (f := 39) rfl ?_); refine goesL_ (some 15) rfl rfl Try.func39 (by kernel_rfl) rfl #[.agg #[.slice A0_0 l0_0.length c0_0]] rfl (by (try simp only [List.map_toArray, List.map_cons, List.map_nil]); first | done | rfl | (simp only [List.length_drop, List.length_take]; rfl)) ?_; (with_reducible refine (spec_GoodGraph.calls k _ _ l0_0 true _ ?side1 ?side2 A6.out).mono ?_); (case side1 => repeat (first | exact (Kd.C_below HR0_0.out HB.out) | (with_reducible refine Kd.C_alloc ?_ _) | (with_reducible refine Kd.C_drewN ?_ _) | (with_reducible refine Kd.C_drew ?_))); (case side2 => exact HC0_0.out); rintro e w12 ⟨rfl, hb⟩; refine ⟨_, rfl, ?_⟩; have n0_ := Aside0.mk (blk_below (g := gb295) (o := .cells #[.slice A0_0 l0_0.length c0_0] 28 (0, 0)) (by (with_reducible repeat (first | refine blk_drewN ?_ _ | refine blk_drew ?_ | refine blk_alloc ?_ _)); exact BK295.out) hb); have n1_ := Aside0.mk (below_step (by repeat (first | (with_reducible first | exact HB.out | apply below_alloc | apply pw_below_drewN | apply below_drew1 | refine below_set ?_ GE295.out) | exact HB.out)) hb); clear BK295; clear HB; have BK295 := n0_; have HB := n1_; clear n0_ n1_; (try clear hb); (try clear hb2); (try clear hk); (try clear hi); have hcz13_0 : w12.cell? ⟨gb295, 0, none⟩ = some (.slice A0_0 l0_0.length c0_0) := (blk_cell BK295.out 0).trans rfl; have hfz13_0 := blk_frozen BK295.out 0) | (go_at_call 40; (with_reducible refine (spec_l11Blocks.calls k _ _ l0_0 _ _ l1 true _ ?side1 ?side2 ?side3 ?side4 A8.out).mono ?_); (case side1 => repeat (first | exact (Kd.C_below HR0_0.out HB.out) | (with_reducible refine Kd.C_alloc ?_ _) | (with_reducible refine Kd.C_drewN ?_ _) | (with_reducible refine Kd.C_drew ?_))); (case side2 => exact HC0_0.out); (case side3 => repeat (first | exact (Kd.C_below HR1.out HB.out) | (with_reducible refine Kd.C_alloc ?_ _) | (with_reducible refine Kd.C_drewN ?_ _) | (with_reducible refine Kd.C_drew ?_))); (case side4 => exact HC1.out); rintro e w14 ⟨rfl, hb⟩; have n0_ := Aside0.mk (blk_below (g := gb295) (o := .cells #[.slice A0_0 l0_0.length c0_0] 28 (0, 0)) (by (with_reducible repeat (first | refine blk_drewN ?_ _ | refine blk_drew ?_ | refine blk_alloc ?_ _)); exact BK295.out) hb); have n1_ := Aside0.mk (below_step (by repeat (first | (with_reducible first | exact HB.out | apply below_alloc | apply pw_below_drewN | apply below_drew1 | refine below_set ?_ GE295.out) | exact HB.out)) hb); clear BK295; clear HB; have BK295 := n0_; have HB := n1_; clear n0_ n1_; (try clear hb); (try clear hb2); (try clear hk); (try clear hi); have hcz15_0 : w14.cell? ⟨gb295, 0, none⟩ = some (.slice A0_0 l0_0.length c0_0) := (blk_cell BK295.out 0).trans rfl; have hfz15_0 := blk_frozen BK295.out 0) | (go_at_call 40; (with_reducible refine (spec_l11Blocks.calls k _ _ l0_0 _ _ l2 t298 _ ?side1 ?side2 ?side3 ?side4 A10.out).mono ?_); (case side1 => repeat (first | exact (Kd.C_below HR0_0.out HB.out) | (with_reducible refine Kd.C_alloc ?_ _) | (with_reducible refine Kd.C_drewN ?_ _) | (with_reducible refine Kd.C_drew ?_))); (case side2 => exact HC0_0.out); (case side3 => repeat (first | exact (Kd.C_below HR2.out HB.out) | (with_reducible refine Kd.C_alloc ?_ _) | (with_reducible refine Kd.C_drewN ?_ _) | (with_reducible refine Kd.C_drew ?_))); (case side4 => exact HC2.out); rintro e w16 ⟨rfl, hb⟩; have n0_ := Aside0.mk (blk_below (g := gb295) (o := .cells #[.slice A0_0 l0_0.length c0_0] 28 (0, 0)) (by (with_reducible repeat (first | refine blk_drewN ?_ _ | refine blk_drew ?_ | refine blk_alloc ?_ _)); exact BK295.out) hb); have n1_ := Aside0.mk (below_step (by repeat (first | (with_reducible first | exact HB.out | apply below_alloc | apply pw_below_drewN | apply below_drew1 | refine below_set ?_ GE295.out) | exact HB.out)) hb); clear BK295; clear HB; have BK295 := n0_; have HB := n1_; clear n0_ n1_; (try clear hb); (try clear hb2); (try clear hk); (try clear hi)))
        go_meet
        case rel => exact ⟨_, (!t298), (by first | rfl | (simp; done) | (simp [*]; done)), H', ⟨by first | omega | exact Nat.le_refl _⟩, ⟨by (with_reducible repeat (first | refine blk_drewN ?_ _ | refine blk_drew ?_ | refine blk_alloc ?_ _)); exact BK295.out⟩, ⟨by repeat (first | (with_reducible first | exact HB.out | apply below_alloc | apply pw_below_drewN | apply below_drew1 | refine below_set ?_ GE295.out) | exact HB.out)⟩⟩
      · replace c9 := Bool.eq_false_iff.mpr c9
        subst c9
        have H1 : (spec_IsStrict.j0 k l1 l2 true l0_0) = some (r1, r2) := by rw [if_neg (show ¬ (false = true) by decide)] at H; exact H
        clear H
        have H := H1
        clear H1
        have H' := Aside0.mk H
        clear H
        have hcz17_0 : w5.cell? ⟨gb295, 0, none⟩ = some (.slice A0_0 l0_0.length c0_0) := (blk_cell BK295.out 0).trans rfl
        have hfz17_0 := blk_frozen BK295.out 0
        go_wp2_with (first | ((with_reducible refine gate_callee (f := 39) rfl ?_); refine goesL_ (some 15) rfl rfl Try.func39 (by kernel_rfl) rfl #[.agg #[.slice A0_0 l0_0.length c0_0]] rfl (by (try simp only [List.map_toArray, List.map_cons, List.map_nil]); first | done | rfl | (simp only [List.length_drop, List.length_take]; rfl)) ?_; (with_reducible refine (spec_GoodGraph.calls k _ _ l0_0 true _ ?side1 ?side2 A6.out).mono ?_); (case side1 => repeat (first | exact (Kd.C_below HR0_0.out HB.out) | (with_reducible refine Kd.C_alloc ?_ _) | (with_reducible refine Kd.C_drewN ?_ _) | (with_reducible refine Kd.C_drew ?_))); (case side2 => exact HC0_0.out); rintro e w18 ⟨rfl, hb⟩; refine ⟨_, rfl, ?_⟩; have n0_ := Aside0.mk (blk_below (g := gb295) (o := .cells #[.slice A0_0 l0_0.length c0_0] 28 (0, 0)) (by (with_reducible repeat (first | refine blk_drewN ?_ _ | refine blk_drew ?_ | refine blk_alloc ?_ _)); exact BK295.out) hb); have n1_ := Aside0.mk (below_step (by repeat (first | (with_reducible first | exact HB.out | apply below_alloc | apply pw_below_drewN | apply below_drew1 | refine below_set ?_ GE295.out) | exact HB.out)) hb); clear BK295; clear HB; have BK295 := n0_; have HB := n1_; clear n0_ n1_; (try clear hb); (try clear hb2); (try clear hk); (try clear hi); have hcz19_0 : w18.cell? ⟨gb295, 0, none⟩ = some (.slice A0_0 l0_0.length c0_0) := (blk_cell BK295.out 0).trans rfl; have hfz19_0 := blk_frozen BK295.out 0) | (go_at_call 40; (with_reducible refine (spec_l11Blocks.calls k _ _ l0_0 _ _ l1 false _ ?side1 ?side2 ?side3 ?side4 A8.out).mono ?_); (case side1 => repeat (first | exact (Kd.C_below HR0_0.out HB.out) | (with_reducible refine Kd.C_alloc ?_ _) | (with_reducible refine Kd.C_drewN ?_ _) | (with_reducible refine Kd.C_drew ?_))); (case side2 => exact HC0_0.out); (case side3 => repeat (first | exact (Kd.C_below HR1.out HB.out) | (with_reducible refine Kd.C_alloc ?_ _) | (with_reducible refine Kd.C_drewN ?_ _) | (with_reducible refine Kd.C_drew ?_))); (case side4 => exact HC1.out); rintro e w20 ⟨rfl, hb⟩; have n0_ := Aside0.mk (blk_below (g := gb295) (o := .cells #[.slice A0_0 l0_0.length c0_0] 28 (0, 0)) (by (with_reducible repeat (first | refine blk_drewN ?_ _ | refine blk_drew ?_ | refine blk_alloc ?_ _)); exact BK295.out) hb); have n1_ := Aside0.mk (below_step (by repeat (first | (with_reducible first | exact HB.out | apply below_alloc | apply pw_below_drewN | apply below_drew1 | refine below_set ?_ GE295.out) | exact HB.out)) hb); clear BK295; clear HB; have BK295 := n0_; have HB := n1_; clear n0_ n1_; (try clear hb); (try clear hb2); (try clear hk); (try clear hi)))
        go_meet
        case rel => exact ⟨_, (true), (by first | rfl | (simp; done) | (simp [*]; done)), H', ⟨by first | omega | exact Nat.le_refl _⟩, ⟨by (with_reducible repeat (first | refine blk_drewN ?_ _ | refine blk_drew ?_ | refine blk_alloc ?_ _)); exact BK295.out⟩, ⟨by repeat (first | (with_reducible first | exact HB.out | apply below_alloc | apply pw_below_drewN | apply below_drew1 | refine below_set ?_ GE295.out) | exact HB.out)⟩⟩
    · replace c7 := Bool.eq_false_iff.mpr c7
      subst c7
      have H1 : (spec_IsStrict.j0 k l1 l2 true l0_0) = some (r1, r2) := by rw [if_neg (show ¬ (false = true) by decide)] at H; exact H
      clear H
      have H := H1
      clear H1
      have H' := Aside0.mk H
      clear H
      have hcz21_0 : w5.cell? ⟨gb295, 0, none⟩ = some (.slice A0_0 l0_0.length c0_0) := (blk_cell BK295.out 0).trans rfl
      have hfz21_0 := blk_frozen BK295.out 0
      go_wp2_with (first | ((with_reducible refine gate_callee (f := 39) rfl ?_); refine goesL_ (some 15) rfl rfl Try.func39 (by kernel_rfl) rfl #[.agg #[.slice A0_0 l0_0.length c0_0]] rfl (by (try simp only [List.map_toArray, List.map_cons, List.map_nil]); first | done | rfl | (simp only [List.length_drop, List.length_take]; rfl)) ?_; (with_reducible refine (spec_GoodGraph.calls k _ _ l0_0 false _ ?side1 ?side2 A6.out).mono ?_); (case side1 => repeat (first | exact (Kd.C_below HR0_0.out HB.out) | (with_reducible refine Kd.C_alloc ?_ _) | (with_reducible refine Kd.C_drewN ?_ _) | (with_reducible refine Kd.C_drew ?_))); (case side2 => exact HC0_0.out); rintro e w22 ⟨rfl, hb⟩; refine ⟨_, rfl, ?_⟩; have n0_ := Aside0.mk (blk_below (g := gb295) (o := .cells #[.slice A0_0 l0_0.length c0_0] 28 (0, 0)) (by (with_reducible repeat (first | refine blk_drewN ?_ _ | refine blk_drew ?_ | refine blk_alloc ?_ _)); exact BK295.out) hb); have n1_ := Aside0.mk (below_step (by repeat (first | (with_reducible first | exact HB.out | apply below_alloc | apply pw_below_drewN | apply below_drew1 | refine below_set ?_ GE295.out) | exact HB.out)) hb); clear BK295; clear HB; have BK295 := n0_; have HB := n1_; clear n0_ n1_; (try clear hb); (try clear hb2); (try clear hk); (try clear hi)))
      go_meet
      case rel => exact ⟨_, (true), (by first | rfl | (simp; done) | (simp [*]; done)), H', ⟨by first | omega | exact Nat.le_refl _⟩, ⟨by (with_reducible repeat (first | refine blk_drewN ?_ _ | refine blk_drew ?_ | refine blk_alloc ?_ _)); exact BK295.out⟩, ⟨by repeat (first | (with_reducible first | exact HB.out | apply below_alloc | apply pw_below_drewN | apply below_drew1 | refine below_set ?_ GE295.out) | exact HB.out)⟩⟩
  case rest =>
    clear HC4
    try clear c1
    try clear c2
    try clear p2
    try clear c3
    try clear c7
    try clear c9
    try clear hcz11_0
    try clear hcz13_0
    try clear hcz15_0
    try clear hcz17_0
    try clear hcz19_0
    try clear hcz21_0
    try clear hfz11_0
    try clear hfz13_0
    try clear hfz15_0
    try clear hfz17_0
    try clear hfz19_0
    try clear hfz21_0
    obtain ⟨kq, x28_3, rfl, HA, HJ3, BK295, HB⟩ := hcut
    cases kq with
    | zero => exact absurd HA.out (by simp [spec_IsStrict.j0])
    | succ kj3 =>
      have H := HA.out
      clear HA
      simp only [spec_IsStrict.j0] at H
      by_cases c23 : x28_3 = true
      · subst c23
        have H1 : (some (false, false)) = some (r1, r2) := by rw [if_pos rfl] at H; exact H
        clear H
        have H := H1
        clear H1
        simp only [Option.some.injEq, Prod.mk.injEq] at H
        obtain ⟨rfl, rfl⟩ := H
        go_wp2
        go_ret2
        exact ⟨by first | rfl | (simp [errW_none, errW_some] <;> rfl) | (simp [*, errW_none, errW_some] <;> rfl), by repeat (first | (with_reducible first | exact HB.out | apply below_alloc | apply pw_below_drewN | apply below_drew1 | refine below_set ?_ GE295.out) | exact HB.out)⟩
      · replace c23 := Bool.eq_false_iff.mpr c23
        subst c23
        have H1 : ((spec_l10Dominators.f l0_0).bind fun t299 => (spec_IsStrict.l0 kj3 l1 t299 l2 (l2.length : Int) 0)) = some (r1, r2) := by rw [if_neg (show ¬ (false = true) by decide)] at H; exact H
        clear H
        have H := H1
        clear H1
        replace H := Option.bind_eq_some_iff.mp H
        obtain ⟨t299, A240, H⟩ := H
        replace H : (spec_IsStrict.l0 kj3 l1 t299 l2 (l2.length : Int) 0) = some (r1, r2) := H
        have A24 := Aside0.mk A240
        clear A240
        have H' := Aside0.mk H
        clear H
        have hcz25_0 : wc.cell? ⟨gb295, 0, none⟩ = some (.slice A0_0 l0_0.length c0_0) := (blk_cell BK295.out 0).trans rfl
        have hfz25_0 := blk_frozen BK295.out 0
        go_wp2_with (first | ((with_reducible refine gate_callee (f := 53) rfl ?_); refine goesL_ (some 30) rfl rfl Try.func53 (by kernel_rfl) rfl #[.agg #[.slice A0_0 l0_0.length c0_0]] rfl (by (try simp only [List.map_toArray, List.map_cons, List.map_nil]); first | done | rfl | (simp only [List.length_drop, List.length_take]; rfl)) ?_; (with_reducible refine (spec_l10Dominators.calls _ _ l0_0 t299 _ ?side1 ?side2 A24.out).mono ?_); (case side1 => repeat (first | exact (Kd.C_below HR0_0.out HB.out) | (with_reducible refine Kd.C_alloc ?_ _) | (with_reducible refine Kd.C_drewN ?_ _) | (with_reducible refine Kd.C_drew ?_))); (case side2 => exact HC0_0.out); rintro e w26 ⟨v300, rfl, ho0, hb⟩; refine ⟨_, rfl, ?_⟩; have n0_ := Aside0.mk (Kd.S_lower ho0 (below_size (by repeat (first | (with_reducible first | exact HB.out | apply below_alloc | apply pw_below_drewN | apply below_drew1 | refine below_set ?_ GE295.out) | exact HB.out)))); have n1_ := Aside0.mk (blk_below (g := gb295) (o := .cells #[.slice A0_0 l0_0.length c0_0] 28 (0, 0)) (by (with_reducible repeat (first | refine blk_drewN ?_ _ | refine blk_drew ?_ | refine blk_alloc ?_ _)); exact BK295.out) hb); have n2_ := Aside0.mk (below_step (by repeat (first | (with_reducible first | exact HB.out | apply below_alloc | apply pw_below_drewN | apply below_drew1 | refine below_set ?_ GE295.out) | exact HB.out)) hb); clear BK295; clear HB; have HO301 := n0_; have BK295 := n1_; have HB := n2_; clear n0_ n1_ n2_; (try clear hb); (try clear hb2); (try clear hk); (try clear hi); (try clear ho0)))
        go_loopg [33] kj3 (fun kq v33 w' => ∃ (x33_2 : Int), v33 = .int .i64 x33_2 ∧ Aside0 (spec_IsStrict.l0 kq l1 t299 l2 (l2.length : Int) x33_2 = some (r1, r2)) ∧ Aside0 (kq ≤ kj3) ∧ Aside0 (Kd.S (Kd.slice 3 (Kd.int .i64)) 32 w' w.heap.size (fun _ => True) v300 t299) ∧ Aside0 (w'.heap[gb295]? = some (.cells #[(.slice A0_0 l0_0.length c0_0)] 28 (0, 0))) ∧ Aside0 (Below w.heap.size w w'))
        case atStart => exact ⟨(0), (by first | rfl | (simp; done) | (simp [*]; done)), H', ⟨Nat.le_refl _⟩, ⟨by (with_reducible repeat (first | apply Kd.S_alloc | apply Kd.S_drewN | apply Kd.S_drew)); exact HO301.out⟩, ⟨by (with_reducible repeat (first | refine blk_drewN ?_ _ | refine blk_drew ?_ | refine blk_alloc ?_ _)); exact BK295.out⟩, ⟨by repeat (first | (with_reducible first | exact HB.out | apply below_alloc | apply pw_below_drewN | apply below_drew1 | refine below_set ?_ GE295.out) | exact HB.out)⟩⟩
        case round =>
          clear H'
          try clear c1
          try clear c2
          try clear p2
          try clear c3
          try clear c5
          try clear c7
          try clear c9
          try clear c23
          try clear hcz11_0
          try clear hcz13_0
          try clear hcz15_0
          try clear hcz17_0
          try clear hcz19_0
          try clear hcz21_0
          try clear hcz25_0
          try clear hfz11_0
          try clear hfz13_0
          try clear hfz15_0
          try clear hfz17_0
          try clear hfz19_0
          try clear hfz21_0
          try clear hfz25_0
          try clear p2
          obtain ⟨x33_2, rfl, HA, HK2, HO_8, BK295, HB⟩ := hrel
          cases gk with
          | zero => exact absurd HA.out (by simp [spec_IsStrict.l0])
          | succ k2 =>
            have H := HA.out
            clear HA
            simp only [spec_IsStrict.l0] at H
            by_cases c27 : x33_2 < (l2.length : Int)
            · rw [if_pos c27] at H
              have c27b0 : decide (x33_2 < (l2.length : Int)) = true := decide_eq_true c27
              clear c27
              by_cases c28 : 0 ≤ x33_2
              · rw [if_pos c28] at H
                have c28b0 : decide (0 ≤ x33_2) = true := decide_eq_true c28
                clear c28
                by_cases c29 : x33_2 < (l2.length : Int)
                · rw [if_pos c29] at H
                  have c29b0 : decide (x33_2 < (l2.length : Int)) = true := decide_eq_true c29
                  clear c29
                  have H' := Aside0.mk H
                  clear H
                  have p302 : 0 ≤ (x33_2 : Int) := of_decide_eq_true (by first | (with_reducible assumption) | assumption)
                  have q302 : x33_2 < (l2.length : Int) := of_decide_eq_true (by first | (with_reducible assumption) | assumption)
                  obtain ⟨ad302, e302, hx302_0⟩ := Kd.at_int HR2.out x33_2 p302 q302
                  cases e302
                  replace hx302_0 := (HB.out.cell (World.block_lt_of_cell? w _ hx302_0)).trans hx302_0
                  replace p302 := eq_true p302
                  replace q302 := eq_true q302
                  go_wp2
                  go_loopg [11, 39] k2 (fun kq v11 v39 w' => ∃ (x11_3 : Bool) (x39_3 : Int), v11 = .bool x11_3 ∧ v39 = .int .i64 x39_3 ∧ Aside0 (spec_IsStrict.l1 kq l1 t299 (rd l2 x33_2) x11_3 l2 (l2.length : Int) x33_2 l1 (l1.length : Int) x39_3 = some (r1, r2)) ∧ Aside0 (kq ≤ k2) ∧ Aside0 (Kd.S (Kd.slice 3 (Kd.int .i64)) 32 w' w.heap.size (fun _ => True) v300 t299) ∧ Aside0 (w'.heap[gb295]? = some (.cells #[(.slice A0_0 l0_0.length c0_0)] 28 (0, 0))) ∧ Aside0 (Below w.heap.size w w'))
                  case atStart => exact ⟨(false), (0), (by first | rfl | (simp; done) | (simp [*]; done)), (by first | rfl | (simp; done) | (simp [*]; done)), H', ⟨Nat.le_refl _⟩, ⟨by (with_reducible repeat (first | apply Kd.S_alloc | apply Kd.S_drewN | apply Kd.S_drew)); exact HO_8.out⟩, ⟨by (with_reducible repeat (first | refine blk_drewN ?_ _ | refine blk_drew ?_ | refine blk_alloc ?_ _)); exact BK295.out⟩, ⟨by repeat (first | (with_reducible first | exact HB.out | apply below_alloc | apply pw_below_drewN | apply below_drew1 | refine below_set ?_ GE295.out) | exact HB.out)⟩⟩
                  case round =>
                    clear H'
                    try clear c1
                    try clear c2
                    try clear p2
                    try clear c3
                    try clear p3
                    try clear q3
                    try clear hx3
                    try clear c5
                    try clear c7
                    try clear c9
                    try clear c23
                    try clear c27
                    try clear c27b0
                    try clear c28
                    try clear c28b0
                    try clear c29
                    try clear c29b0
                    try clear hcz11_0
                    try clear hcz13_0
                    try clear hcz15_0
                    try clear hcz17_0
                    try clear hcz19_0
                    try clear hcz21_0
                    try clear hcz25_0
                    try clear hfz11_0
                    try clear hfz13_0
                    try clear hfz15_0
                    try clear hfz17_0
                    try clear hfz19_0
                    try clear hfz21_0
                    try clear hfz25_0
                    try clear hx302_0
                    try clear p2
                    try clear p302
                    try clear q302
                    obtain ⟨x11_3, x39_3, rfl, rfl, HA, HK3, HO_8, BK295, HB⟩ := hrel
                    cases gk with
                    | zero => exact absurd HA.out (by simp [spec_IsStrict.l1])
                    | succ k3 =>
                      have H := HA.out
                      clear HA
                      simp only [spec_IsStrict.l1] at H
                      by_cases c30 : x39_3 < (l1.length : Int)
                      · rw [if_pos c30] at H
                        have c30b0 : decide (x39_3 < (l1.length : Int)) = true := decide_eq_true c30
                        clear c30
                        by_cases c31 : 0 ≤ x39_3
                        · rw [if_pos c31] at H
                          have c31b0 : decide (0 ≤ x39_3) = true := decide_eq_true c31
                          clear c31
                          by_cases c32 : x39_3 < (l1.length : Int)
                          · rw [if_pos c32] at H
                            have c32b0 : decide (x39_3 < (l1.length : Int)) = true := decide_eq_true c32
                            clear c32
                            by_cases c33 : x11_3 = true
                            · subst c33
                              have H1 : (spec_IsStrict.l1 k3 l1 t299 (rd l2 x33_2) true l2 (l2.length : Int) x33_2 l1 (l1.length : Int) (wrap64 (x39_3 + 1))) = some (r1, r2) := by rw [if_pos rfl] at H; exact H
                              clear H
                              have H := H1
                              clear H1
                              have H' := Aside0.mk H
                              clear H
                              have p303 : 0 ≤ (x39_3 : Int) := of_decide_eq_true (by first | (with_reducible assumption) | assumption)
                              have q303 : x39_3 < (l1.length : Int) := of_decide_eq_true (by first | (with_reducible assumption) | assumption)
                              obtain ⟨ad303, e303, hx303_0⟩ := Kd.at_int HR1.out x39_3 p303 q303
                              cases e303
                              replace hx303_0 := (HB.out.cell (World.block_lt_of_cell? w _ hx303_0)).trans hx303_0
                              replace p303 := eq_true p303
                              replace q303 := eq_true q303
                              go_wp2
                              go_roundg k3
                              case measure => have := HJ3.out; have := HK2.out; have := HK3.out; omega
                              case rel => exact ⟨(true), (wrap64 (x39_3 + 1)), (by first | rfl | (simp; done) | (simp [*]; done)), (by first | rfl | (simp; done) | (simp [*]; done)), H', ⟨by have := HJ3.out; have := HK2.out; have := HK3.out; omega⟩, ⟨by (with_reducible repeat (first | apply Kd.S_alloc | apply Kd.S_drewN | apply Kd.S_drew)); exact HO_8.out⟩, ⟨by (with_reducible repeat (first | refine blk_drewN ?_ _ | refine blk_drew ?_ | refine blk_alloc ?_ _)); exact BK295.out⟩, ⟨by repeat (first | (with_reducible first | exact HB.out | apply below_alloc | apply pw_below_drewN | apply below_drew1 | refine below_set ?_ GE295.out) | exact HB.out)⟩⟩
                            · replace c33 := Bool.eq_false_iff.mpr c33
                              subst c33
                              have H1 : (if 0 ≤ (rd l2 x33_2) then (if (rd l2 x33_2) < (t299.length : Int) then ((spec_l1Has.f k3 (rd_L1 t299 (rd l2 x33_2)) (rd l1 x39_3)).bind fun t305 => (spec_IsStrict.l1 k3 l1 t299 (rd l2 x33_2) t305 l2 (l2.length : Int) x33_2 l1 (l1.length : Int) (wrap64 (x39_3 + 1)))) else (none)) else (none)) = some (r1, r2) := by rw [if_neg (show ¬ (false = true) by decide)] at H; exact H
                              clear H
                              have H := H1
                              clear H1
                              by_cases c34 : 0 ≤ (rd l2 x33_2)
                              · rw [if_pos c34] at H
                                have c34b0 : decide (0 ≤ (rd l2 x33_2)) = true := decide_eq_true c34
                                clear c34
                                by_cases c35 : (rd l2 x33_2) < (t299.length : Int)
                                · rw [if_pos c35] at H
                                  have c35b0 : decide ((rd l2 x33_2) < (t299.length : Int)) = true := decide_eq_true c35
                                  clear c35
                                  replace H := Option.bind_eq_some_iff.mp H
                                  obtain ⟨t305, A360, H⟩ := H
                                  replace H : (spec_IsStrict.l1 k3 l1 t299 (rd l2 x33_2) t305 l2 (l2.length : Int) x33_2 l1 (l1.length : Int) (wrap64 (x39_3 + 1))) = some (r1, r2) := H
                                  have A36 := Aside0.mk A360
                                  clear A360
                                  have H' := Aside0.mk H
                                  clear H
                                  have p303 : 0 ≤ (x39_3 : Int) := of_decide_eq_true (by first | (with_reducible assumption) | assumption)
                                  have q303 : x39_3 < (l1.length : Int) := of_decide_eq_true (by first | (with_reducible assumption) | assumption)
                                  obtain ⟨ad303, e303, hx303_0⟩ := Kd.at_int HR1.out x39_3 p303 q303
                                  cases e303
                                  replace hx303_0 := (HB.out.cell (World.block_lt_of_cell? w _ hx303_0)).trans hx303_0
                                  replace p303 := eq_true p303
                                  replace q303 := eq_true q303
                                  obtain ⟨Ao37, co37, eo37⟩ := Kd.S_slice HO_8.out
                                  subst eo37
                                  have p304 : 0 ≤ ((rd l2 x33_2) : Int) := of_decide_eq_true (by first | (with_reducible assumption) | assumption)
                                  have q304 : (rd l2 x33_2) < (t299.length : Int) := of_decide_eq_true (by first | (with_reducible assumption) | assumption)
                                  obtain ⟨ad304, A304_0, c304_0, e304, hx304_0, hl304_0, hi304_0⟩ := at_L1 (Kd.S_reads' HO_8.out).2.2 (rd l2 x33_2) p304 q304
                                  cases e304
                                  obtain ⟨ce304, hce304, hMe304, hcc304⟩ := Kd.S_get HO_8.out [] (rd l2 x33_2) p304 (by first | exact q304 | exact of_decide_eq_true (by first | (with_reducible assumption) | assumption) | (have e_ := (Kd.S_reads' HO_8.out).1; omega))
                                  obtain ⟨ve304_0, rfl, ge304_0⟩ := hMe304
                                  have hv304_0 := hcc304 0 _ rfl
                                  rw [Nat.add_zero, show ((Kd.slice 3 (Kd.int .i64))).sz = 1 from rfl, Nat.mul_one] at hv304_0
                                  replace hv304_0 := Option.some.inj (hv304_0.symm.trans hx304_0)
                                  rw [hv304_0] at ge304_0
                                  have HL304_0 := Aside0.mk (show Kd.R (Kd.int .i64) 3 _ _ _ _ (rd_L1 t299 (rd l2 x33_2)) from ge304_0)
                                  clear hv304_0 ge304_0
                                  clear hcc304 hce304
                                  have HR304_0 := Aside0.mk hi304_0
                                  have HC304_0 := Aside0.mk hl304_0
                                  clear hi304_0 hl304_0
                                  replace p304 := eq_true p304
                                  replace q304 := eq_true q304
                                  go_wp2_with (first | (go_at_call 43; (with_reducible refine (spec_l1Has.calls k3 _ _ (rd_L1 t299 (rd l2 x33_2)) (rd l1 x39_3) t305 _ ?side1 ?side2 A36.out).mono ?_); (case side1 => repeat (first | exact (by repeat (first | (with_reducible exact HR304_0.out) | (with_reducible refine Kd.C_alloc ?_ _) | (with_reducible refine Kd.C_drewN ?_ _) | (with_reducible refine Kd.C_drew ?_) | exact HR304_0.out)) | (with_reducible refine Kd.C_alloc ?_ _) | (with_reducible refine Kd.C_drewN ?_ _) | (with_reducible refine Kd.C_drew ?_))); (case side2 => exact HC304_0.out); rintro e w' ⟨rfl, ⟨nd, rfl⟩⟩))
                                  go_roundg k3
                                  case measure => have := HJ3.out; have := HK2.out; have := HK3.out; omega
                                  case rel => exact ⟨(t305), (wrap64 (x39_3 + 1)), (by first | rfl | (simp; done) | (simp [*]; done)), (by first | rfl | (simp; done) | (simp [*]; done)), H', ⟨by have := HJ3.out; have := HK2.out; have := HK3.out; omega⟩, ⟨by (with_reducible repeat (first | apply Kd.S_alloc | apply Kd.S_drewN | apply Kd.S_drew)); exact HO_8.out⟩, ⟨by (with_reducible repeat (first | refine blk_drewN ?_ _ | refine blk_drew ?_ | refine blk_alloc ?_ _)); exact BK295.out⟩, ⟨by repeat (first | (with_reducible first | exact HB.out | apply below_alloc | apply pw_below_drewN | apply below_drew1 | refine below_set ?_ GE295.out) | exact HB.out)⟩⟩
                                · rw [if_neg c35] at H
                                  exact absurd H (by simp)
                              · rw [if_neg c34] at H
                                exact absurd H (by simp)
                          · rw [if_neg c32] at H
                            exact absurd H (by simp)
                        · rw [if_neg c31] at H
                          exact absurd H (by simp)
                      · rw [if_neg c30] at H
                        have c30b0 : decide (x39_3 < (l1.length : Int)) = false := decide_eq_false c30
                        clear c30
                        by_cases c38 : x11_3 = true
                        · subst c38
                          have H1 : (spec_IsStrict.l0 k3 l1 t299 l2 (l2.length : Int) (wrap64 (x33_2 + 1))) = some (r1, r2) := by rw [if_pos rfl] at H; exact H
                          clear H
                          have H := H1
                          clear H1
                          have H' := Aside0.mk H
                          clear H
                          go_wp2
                          go_roundg k3
                          case measure => have := HJ3.out; have := HK2.out; have := HK3.out; omega
                          case rel => exact ⟨(wrap64 (x33_2 + 1)), (by first | rfl | (simp; done) | (simp [*]; done)), H', ⟨by have := HJ3.out; have := HK2.out; have := HK3.out; omega⟩, ⟨by (with_reducible repeat (first | apply Kd.S_alloc | apply Kd.S_drewN | apply Kd.S_drew)); exact HO_8.out⟩, ⟨by (with_reducible repeat (first | refine blk_drewN ?_ _ | refine blk_drew ?_ | refine blk_alloc ?_ _)); exact BK295.out⟩, ⟨by repeat (first | (with_reducible first | exact HB.out | apply below_alloc | apply pw_below_drewN | apply below_drew1 | refine below_set ?_ GE295.out) | exact HB.out)⟩⟩
                        · replace c38 := Bool.eq_false_iff.mpr c38
                          subst c38
                          have H1 : (some (false, true)) = some (r1, r2) := by rw [if_neg (show ¬ (false = true) by decide)] at H; exact H
                          clear H
                          have H := H1
                          clear H1
                          simp only [Option.some.injEq, Prod.mk.injEq] at H
                          obtain ⟨rfl, rfl⟩ := H
                          go_wp2
                          go_ret2
                          exact ⟨by first | rfl | (simp [errW_none, errW_some] <;> rfl) | (simp [*, errW_none, errW_some] <;> rfl), by repeat (first | (with_reducible first | exact HB.out | apply below_alloc | apply pw_below_drewN | apply below_drew1 | refine below_set ?_ GE295.out) | exact HB.out)⟩
                · rw [if_neg c29] at H
                  exact absurd H (by simp)
              · rw [if_neg c28] at H
                exact absurd H (by simp)
            · rw [if_neg c27] at H
              have c27b0 : decide (x33_2 < (l2.length : Int)) = false := decide_eq_false c27
              clear c27
              simp only [Option.some.injEq, Prod.mk.injEq] at H
              obtain ⟨rfl, rfl⟩ := H
              go_wp2
              go_ret2
              exact ⟨by first | rfl | (simp [errW_none, errW_some] <;> rfl) | (simp [*, errW_none, errW_some] <;> rfl), by repeat (first | (with_reducible first | exact HB.out | apply below_alloc | apply pw_below_drewN | apply below_drew1 | refine below_set ?_ GE295.out) | exact HB.out)⟩
end Go.Proofs.Ytndkblahnihhjaa.P

